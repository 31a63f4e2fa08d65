/- Joined: TyAs TyCk JnV3. -/
import Derived.Test.YtgdapkglofchjaaGreatDoorF15
set_option maxRecDepth 100000
set_option maxHeartbeats 6000000
set_option linter.unusedVariables false
namespace Go.Proofs.YtgdapkglofchjaaGreatDoor
open Go.RowKit
theorem asc_any (k : Int) (b : Bool) (i : Int) (s : ByteArray) (A : Option Addr) (n c : Nat) (A2 : Option Addr) (n2 c2 : Nat) (ks : List ByteArray) (w : World) (hn2 : n2 = ks.length) (h10 : n2 ≤ 1024) (hs2 : SeqP w (fun b => b < w.heap.size) 1 A2 n2 (ks.map Value.string)) :
  Calls Tryz.prog 100 #[.agg #[.int .i64 k, .bool b, .int .i64 i, .string s, .slice A n c, .slice A2 n2 c2]] w fun e w' => e = .returned (.bool (decide (n2 = n) && ascK none ks)) ∧ Below w.heap.size w w' := by
 obtain ⟨fin, hfin⟩ : ∃ fin, fin = ascK none ks := ⟨_, rfl⟩
 rw [← hfin]
 replace hn2 := Lib.hid hn2
 replace hs2 := Lib.hid hs2
 go_enter Tryz.func100, Tryz.ntmps100
 go_upto_region 1 with (fail)
 generalize hx_ : World.alloc w _ = wo1
 have hO1 := own_new hx_
 clear hx_
 obtain ⟨c0_0, c0_1, c0_2, c0_3, c0_4, c0_5, cf0⟩ := own6 hO1
 repeat' (first | go_skip | go_guarded | go_step)
 go_loopw [3] (fun u3 wr => ∃ i' : Nat, i' ≤ n2 ∧ u3 = .int .i64 (i' : Int) ∧ OwnB w wr [(w.heap.size, [.int .i64 k, .bool b, .int .i64 i, .string s, .slice A n c, .slice A2 n2 c2])] ∧ fin = ascK (prevK ks i') (ks.drop i') ∧ ∀ p, prevK ks i' = some p → p.size ≤ 64) (fun u3 _ => n2 - (intOf u3).toNat)
 case atStart => exact ⟨0, by omega, rfl, hO1, hfin, fun p h => by rw [prevK_zero] at h; cases h⟩
 case round =>
  clear c0_0 c0_1 c0_2 c0_3 c0_4 c0_5 cf0 hO1 hfin
  obtain ⟨i', hi, rfl, hO2, hu, hp⟩ := hrel
  obtain ⟨c0_0, c0_1, c0_2, c0_3, c0_4, c0_5, cf0⟩ := own6 hO2
  have i1 : (0 : Int) ≤ (i' : Int) := by omega
  have i2 : IntKind.i64.wrap ((i' : Int) + 1) = ((i' + 1 : Nat) : Int) := by rw [IntWalk.i64_in _ (by omega)]; omega
  have hb4 := hO2.below
  by_cases hlt : i' < n2
  ·have i3 : (i' : Int) < (n2 : Int) := by omega
   obtain ⟨kk, hkk⟩ : ∃ kk, ks[i']? = some kk := ⟨_, List.getElem?_eq_getElem (by rw [← hn2.out]; exact hlt)⟩
   obtain ⟨bx, ox, rfl, hbx, hcl⟩ := seq_str hs2.out (by omega)
   have hd : ks.drop i' = kk :: ks.drop (i' + 1) := by
    obtain ⟨h1, h2⟩ := List.getElem?_eq_some_iff.1 hkk
    rw [List.drop_eq_getElem_cons h1, h2]
   rw [hd, ascK_cons] at hu
   have hpn : prevK ks (i' + 1) = some kk := by rw [prevK_succ]; exact hkk
   clear hd
   replace hpn := Lib.hid hpn
   have CK := fun w' => key_any kk w'
   by_cases h1 : 1 ≤ kk.size ∧ kk.size ≤ 64
   ·obtain ⟨h1, h6⟩ := h1
    rw [decide_eq_true h1, Bool.true_and, decide_eq_true h6, Bool.true_and] at hu
    simp only [decide_eq_true h1, decide_eq_true h6, Bool.and_self] at CK
    replace CK := Lib.hid CK
    by_cases h0 : i' = 0
    ·have hpp : prevK ks i' = none := by rw [h0]; rfl
     rw [hpp] at hu
     have hj4 : ¬ (0 : Int) < (i' : Int) := by omega
     have hj5 : ¬ 0 < i' := by omega
     have hf : fin = ascK (some kk) (ks.drop (i' + 1)) := by rw [hu]; rfl
     replace hf := Lib.hid hf
     have keepS : ∀ v1 v2 : World, (OwnB w v1 [(w.heap.size, [.int .i64 k, .bool b, .int .i64 i, .string s, .slice A n c, .slice (some ⟨bx, ox, none⟩) n2 c2])] ∧ v1.cell? ⟨w.heap.size, 5, none⟩ = some (.slice (some ⟨bx, ox, none⟩) n2 c2) ∧ v1.cell? ⟨bx, ox + i', none⟩ = some (.string kk)) → Below v1.heap.size v1 v2 → (OwnB w v2 [(w.heap.size, [.int .i64 k, .bool b, .int .i64 i, .string s, .slice A n c, .slice (some ⟨bx, ox, none⟩) n2 c2])] ∧ v2.cell? ⟨w.heap.size, 5, none⟩ = some (.slice (some ⟨bx, ox, none⟩) n2 c2) ∧ v2.cell? ⟨bx, ox + i', none⟩ = some (.string kk)) := fun v1 v2 h hb => ⟨h.1.kept hb, (h.1.kept hb).c 0 5, ((h.1.kept hb).below.cell (p := ⟨bx, ox + i', none⟩) hbx).trans (hcl i' kk hkk)⟩
     have hS1 : (OwnB w wr.drew [(w.heap.size, [.int .i64 k, .bool b, .int .i64 i, .string s, .slice A n c, .slice (some ⟨bx, ox, none⟩) n2 c2])] ∧ wr.drew.cell? ⟨w.heap.size, 5, none⟩ = some (.slice (some ⟨bx, ox, none⟩) n2 c2) ∧ wr.drew.cell? ⟨bx, ox + i', none⟩ = some (.string kk)) := ⟨hO2.kept ((Below.refl _ _).drew), (hO2.kept ((Below.refl _ _).drew)).c 0 5, ((hO2.kept ((Below.refl _ _).drew)).below.cell (p := ⟨bx, ox + i', none⟩) hbx).trans (hcl i' kk hkk)⟩
     replace keepS := Lib.hid keepS
     clear hu hp hcl hkk h0 hpp
     go_upto_region 4 with (fail)
     refine wp_region_held_drew (S := fun w' => OwnB w w' [(w.heap.size, [.int .i64 k, .bool b, .int .i64 i, .string s, .slice A n c, .slice (some ⟨bx, ox, none⟩) n2 c2])] ∧ w'.cell? ⟨w.heap.size, 5, none⟩ = some (.slice (some ⟨bx, ox, none⟩) n2 c2) ∧ w'.cell? ⟨bx, ox + i', none⟩ = some (.string kk)) (by kernel_rfl) ?_ (fun hHeld => ?_)
     ·(try dsimp only)
      exact hS1
     refine tkQ 0 ?_
     refine tkQ 1 ?_
     refine tkQ 2 ?_
     refine tkQ 3 ?_
     refine tkQ 4 ?_
     refine rdO 5 fun K hK => ?_
     go_simp
     go_at_call 131
     refine (CK.out _).mono ?_
     rintro e w7 ⟨rfl, rfl⟩
     dsimp only
     refine hK.out _ _ ?_ (fun hHeld => ?_)
     ·(try dsimp only)
      first | exact hHeld | exact keepS.out _ _ hHeld hbq
     clear hK K
     try simp only [Act.put, Z1, Z2, Z3, Z4, Z5, Z6]
     refine tkQ 6 ?_
     refine tkQ 7 ?_
     refine tkQ 8 ?_
     refine tkQ 9 ?_
     refine tkQ 10 ?_
     refine tkM 11 ?_
     refine tkM 12 ?_
     refine tkM 13 ?_
     refine tkM 14 ?_
     refine tkM 15 ?_
     refine tkM 16 ?_
     refine tkM 17 ?_
     refine tkM 18 ?_
     refine tkM 19 ?_
     refine tkM 20 ?_
     refine tkM 21 ?_
     refine tkM 22 ?_
     refine tkM 23 ?_
     refine tkQ 24 ?_
     refine tkQ 25 ?_
     refine wpAnyH_done (by kernel_rfl) ?_ _
     have hO9 := hHeld.1
     repeat' (first | go_skip | go_guarded | go_step)
     go_roundw
     case rel => exact ⟨i' + 1, by omega, by first | rfl | go_num, hO9, by rw [hpn.out]; exact hf.out, fun p h => by rw [hpn.out] at h; cases h; exact h6⟩
     case measure => (try go_num); (try simp [intOf]); (try omega)
    ·obtain ⟨j, hj⟩ : ∃ j, i' = j + 1 := ⟨i' - 1, by omega⟩
     have hj1 : IntKind.i64.wrap ((i' : Int) - 1) = (j : Int) := by rw [IntWalk.i64_in _ (by omega)]; omega
     have hj2 : (0 : Int) ≤ (j : Int) := by omega
     have hj3 : (j : Int) < (n2 : Int) := by omega
     have hj4 : (0 : Int) < (i' : Int) := by omega
     have hj5 : 0 < i' := by omega
     obtain ⟨pk, hpk⟩ : ∃ pk, ks[j]? = some pk := ⟨_, List.getElem?_eq_getElem (by rw [← hn2.out]; omega)⟩
     have hpp : prevK ks i' = some pk := by rw [hj, prevK_succ]; exact hpk
     rw [hpp] at hu
     have hps := hp pk hpp
     have hf : fin = (decide (cmpN pk.data.toList kk.data.toList < 0) && ascK (some kk) (ks.drop (i' + 1))) := hu
     have CC := fun w' => refCompare_any pk kk w' (by omega) (by omega)
     replace hj := Lib.hid hj
     have keepS : ∀ v1 v2 : World, (OwnB w v1 [(w.heap.size, [.int .i64 k, .bool b, .int .i64 i, .string s, .slice A n c, .slice (some ⟨bx, ox, none⟩) n2 c2])] ∧ v1.cell? ⟨w.heap.size, 5, none⟩ = some (.slice (some ⟨bx, ox, none⟩) n2 c2) ∧ v1.cell? ⟨bx, ox + i', none⟩ = some (.string kk) ∧ v1.cell? ⟨bx, ox + j, none⟩ = some (.string pk)) → Below v1.heap.size v1 v2 → (OwnB w v2 [(w.heap.size, [.int .i64 k, .bool b, .int .i64 i, .string s, .slice A n c, .slice (some ⟨bx, ox, none⟩) n2 c2])] ∧ v2.cell? ⟨w.heap.size, 5, none⟩ = some (.slice (some ⟨bx, ox, none⟩) n2 c2) ∧ v2.cell? ⟨bx, ox + i', none⟩ = some (.string kk) ∧ v2.cell? ⟨bx, ox + j, none⟩ = some (.string pk)) := fun v1 v2 h hb => ⟨h.1.kept hb, (h.1.kept hb).c 0 5, ((h.1.kept hb).below.cell (p := ⟨bx, ox + i', none⟩) hbx).trans (hcl i' kk hkk), ((h.1.kept hb).below.cell (p := ⟨bx, ox + j, none⟩) hbx).trans (hcl j pk hpk)⟩
     have hS1 : (OwnB w wr.drew [(w.heap.size, [.int .i64 k, .bool b, .int .i64 i, .string s, .slice A n c, .slice (some ⟨bx, ox, none⟩) n2 c2])] ∧ wr.drew.cell? ⟨w.heap.size, 5, none⟩ = some (.slice (some ⟨bx, ox, none⟩) n2 c2) ∧ wr.drew.cell? ⟨bx, ox + i', none⟩ = some (.string kk) ∧ wr.drew.cell? ⟨bx, ox + j, none⟩ = some (.string pk)) := ⟨hO2.kept ((Below.refl _ _).drew), (hO2.kept ((Below.refl _ _).drew)).c 0 5, ((hO2.kept ((Below.refl _ _).drew)).below.cell (p := ⟨bx, ox + i', none⟩) hbx).trans (hcl i' kk hkk), ((hO2.kept ((Below.refl _ _).drew)).below.cell (p := ⟨bx, ox + j, none⟩) hbx).trans (hcl j pk hpk)⟩
     replace keepS := Lib.hid keepS
     clear hu hp hcl hkk hpp hpk h0
     generalize hcc : cmpN pk.data.toList kk.data.toList = cc at *
     replace hcc := Lib.hid hcc
     replace CC := Lib.hid CC
     replace hf := Lib.hid hf
     by_cases hc : cc < 0
     ·have gc : ¬ (0 : Int) ≤ cc := by omega
      have hf2 : fin = ascK (some kk) (ks.drop (i' + 1)) := by rw [hf.out, decide_eq_true hc, Bool.true_and]
      replace hf2 := Lib.hid hf2
      clear hc
      go_upto_region 4 with (fail)
      refine wp_region_held_drew (S := fun w' => OwnB w w' [(w.heap.size, [.int .i64 k, .bool b, .int .i64 i, .string s, .slice A n c, .slice (some ⟨bx, ox, none⟩) n2 c2])] ∧ w'.cell? ⟨w.heap.size, 5, none⟩ = some (.slice (some ⟨bx, ox, none⟩) n2 c2) ∧ w'.cell? ⟨bx, ox + i', none⟩ = some (.string kk) ∧ w'.cell? ⟨bx, ox + j, none⟩ = some (.string pk)) (by kernel_rfl) ?_ (fun hHeld => ?_)
      ·(try dsimp only)
       exact hS1
      refine tkQ 0 ?_
      refine tkQ 1 ?_
      refine tkQ 2 ?_
      refine tkQ 3 ?_
      refine tkQ 4 ?_
      refine rdO 5 fun K hK => ?_
      go_simp
      go_at_call 131
      refine (CK.out _).mono ?_
      rintro e w7 ⟨rfl, rfl⟩
      dsimp only
      refine hK.out _ _ ?_ (fun hHeld => ?_)
      ·(try dsimp only)
       first | exact hHeld | exact keepS.out _ _ hHeld hbq
      clear hK K
      try simp only [Act.put, Z1, Z2, Z3, Z4, Z5, Z6]
      refine tkQ 6 ?_
      refine tkQ 7 ?_
      refine tkQ 8 ?_
      refine tkQ 9 ?_
      refine tkQ 10 ?_
      refine tkQ 11 ?_
      refine tkQ 12 ?_
      refine tkQ 13 ?_
      refine tkQ 14 ?_
      refine tkQ 15 ?_
      refine tkQ 16 ?_
      refine tkQ 17 ?_
      refine tkQ 18 ?_
      refine tkQ 19 ?_
      refine tkQ 20 ?_
      refine tkQ 21 ?_
      refine rdO 22 fun K hK => ?_
      go_simp
      go_at_call 132
      refine (CC.out _).mono ?_
      rintro e w7 ⟨rfl, hbq⟩
      dsimp only
      refine hK.out _ _ ?_ (fun hHeld => ?_)
      ·(try dsimp only)
       first | exact hHeld | exact keepS.out _ _ hHeld hbq
      clear hK K
      try simp only [Act.put, Z1, Z2, Z3, Z4, Z5, Z6]
      refine tkQ 23 ?_
      refine tkQ 24 ?_
      refine tkQ 25 ?_
      refine wpAnyH_done (by kernel_rfl) ?_ _
      have hO9 := hHeld.1
      repeat' (first | go_skip | go_guarded | go_step)
      go_roundw
      case rel => exact ⟨i' + 1, by omega, by first | rfl | go_num, hO9, by rw [hpn.out]; exact hf2.out, fun p h => by rw [hpn.out] at h; cases h; exact h6⟩
      case measure => (try go_num); (try simp [intOf]); (try omega)
     ·have gc : (0 : Int) ≤ cc := by omega
      have hf2 : fin = false := by rw [hf.out, decide_eq_false hc, Bool.false_and]
      replace hf2 := Lib.hid hf2
      clear hc
      go_upto_region 4 with (fail)
      refine wp_region_held_drew (S := fun w' => OwnB w w' [(w.heap.size, [.int .i64 k, .bool b, .int .i64 i, .string s, .slice A n c, .slice (some ⟨bx, ox, none⟩) n2 c2])] ∧ w'.cell? ⟨w.heap.size, 5, none⟩ = some (.slice (some ⟨bx, ox, none⟩) n2 c2) ∧ w'.cell? ⟨bx, ox + i', none⟩ = some (.string kk) ∧ w'.cell? ⟨bx, ox + j, none⟩ = some (.string pk)) (by kernel_rfl) ?_ (fun hHeld => ?_)
      ·(try dsimp only)
       exact hS1
      refine tkQ 0 ?_
      refine tkQ 1 ?_
      refine tkQ 2 ?_
      refine tkQ 3 ?_
      refine tkQ 4 ?_
      refine rdO 5 fun K hK => ?_
      go_simp
      go_at_call 131
      refine (CK.out _).mono ?_
      rintro e w7 ⟨rfl, rfl⟩
      dsimp only
      refine hK.out _ _ ?_ (fun hHeld => ?_)
      ·(try dsimp only)
       first | exact hHeld | exact keepS.out _ _ hHeld hbq
      clear hK K
      try simp only [Act.put, Z1, Z2, Z3, Z4, Z5, Z6]
      refine tkQ 6 ?_
      refine tkQ 7 ?_
      refine tkQ 8 ?_
      refine tkQ 9 ?_
      refine tkQ 10 ?_
      refine tkQ 11 ?_
      refine tkQ 12 ?_
      refine tkQ 13 ?_
      refine tkQ 14 ?_
      refine tkQ 15 ?_
      refine tkQ 16 ?_
      refine tkQ 17 ?_
      refine tkQ 18 ?_
      refine tkQ 19 ?_
      refine tkQ 20 ?_
      refine tkQ 21 ?_
      refine rdO 22 fun K hK => ?_
      go_simp
      go_at_call 132
      refine (CC.out _).mono ?_
      rintro e w7 ⟨rfl, hbq⟩
      dsimp only
      refine hK.out _ _ ?_ (fun hHeld => ?_)
      ·(try dsimp only)
       first | exact hHeld | exact keepS.out _ _ hHeld hbq
      clear hK K
      try simp only [Act.put, Z1, Z2, Z3, Z4, Z5, Z6]
      refine tkQ 23 ?_
      refine tkQ 24 ?_
      refine tkQ 25 ?_
      refine wpAnyH_done (by kernel_rfl) ?_ _
      have hb9 := hHeld.1.below
      repeat' (first | go_skip | go_guarded | go_step)
      go_ret
      exact ⟨ret_b (by rw [hf2.out, Bool.and_false]), hb9⟩
   ·have hkb : (decide (1 ≤ kk.size) && decide (kk.size ≤ 64)) = false := by
     simp only [Bool.and_eq_false_iff, decide_eq_false_iff_not]
     omega
    have hf : fin = false := by rw [hu, ← Bool.and_assoc, hkb, Bool.false_and]
    replace hf := Lib.hid hf
    simp only [hkb] at CK
    replace CK := Lib.hid CK
    have keepS : ∀ v1 v2 : World, (OwnB w v1 [(w.heap.size, [.int .i64 k, .bool b, .int .i64 i, .string s, .slice A n c, .slice (some ⟨bx, ox, none⟩) n2 c2])] ∧ v1.cell? ⟨w.heap.size, 5, none⟩ = some (.slice (some ⟨bx, ox, none⟩) n2 c2) ∧ v1.cell? ⟨bx, ox + i', none⟩ = some (.string kk)) → Below v1.heap.size v1 v2 → (OwnB w v2 [(w.heap.size, [.int .i64 k, .bool b, .int .i64 i, .string s, .slice A n c, .slice (some ⟨bx, ox, none⟩) n2 c2])] ∧ v2.cell? ⟨w.heap.size, 5, none⟩ = some (.slice (some ⟨bx, ox, none⟩) n2 c2) ∧ v2.cell? ⟨bx, ox + i', none⟩ = some (.string kk)) := fun v1 v2 h hb => ⟨h.1.kept hb, (h.1.kept hb).c 0 5, ((h.1.kept hb).below.cell (p := ⟨bx, ox + i', none⟩) hbx).trans (hcl i' kk hkk)⟩
    have hS1 : (OwnB w wr.drew [(w.heap.size, [.int .i64 k, .bool b, .int .i64 i, .string s, .slice A n c, .slice (some ⟨bx, ox, none⟩) n2 c2])] ∧ wr.drew.cell? ⟨w.heap.size, 5, none⟩ = some (.slice (some ⟨bx, ox, none⟩) n2 c2) ∧ wr.drew.cell? ⟨bx, ox + i', none⟩ = some (.string kk)) := ⟨hO2.kept ((Below.refl _ _).drew), (hO2.kept ((Below.refl _ _).drew)).c 0 5, ((hO2.kept ((Below.refl _ _).drew)).below.cell (p := ⟨bx, ox + i', none⟩) hbx).trans (hcl i' kk hkk)⟩
    replace keepS := Lib.hid keepS
    clear hu hp hcl hkk h1 hkb
    go_upto_region 4 with (fail)
    refine wp_region_held_drew (S := fun w' => OwnB w w' [(w.heap.size, [.int .i64 k, .bool b, .int .i64 i, .string s, .slice A n c, .slice (some ⟨bx, ox, none⟩) n2 c2])] ∧ w'.cell? ⟨w.heap.size, 5, none⟩ = some (.slice (some ⟨bx, ox, none⟩) n2 c2) ∧ w'.cell? ⟨bx, ox + i', none⟩ = some (.string kk)) (by kernel_rfl) ?_ (fun hHeld => ?_)
    ·(try dsimp only)
     exact hS1
    refine tkQ 0 ?_
    refine tkQ 1 ?_
    refine tkQ 2 ?_
    refine tkQ 3 ?_
    refine tkQ 4 ?_
    refine rdO 5 fun K hK => ?_
    go_simp
    go_at_call 131
    refine (CK.out _).mono ?_
    rintro e w7 ⟨rfl, rfl⟩
    dsimp only
    refine hK.out _ _ ?_ (fun hHeld => ?_)
    ·(try dsimp only)
     first | exact hHeld | exact keepS.out _ _ hHeld hbq
    clear hK K
    try simp only [Act.put, Z1, Z2, Z3, Z4, Z5, Z6]
    refine tkQ 6 ?_
    refine tkQ 7 ?_
    refine tkM 8 ?_
    refine tkM 9 ?_
    refine tkM 10 ?_
    refine tkM 11 ?_
    refine tkM 12 ?_
    refine tkM 13 ?_
    refine tkM 14 ?_
    refine tkM 15 ?_
    refine tkM 16 ?_
    refine tkM 17 ?_
    refine tkM 18 ?_
    refine tkM 19 ?_
    refine tkM 20 ?_
    refine tkM 21 ?_
    refine tkM 22 ?_
    refine tkM 23 ?_
    refine tkM 24 ?_
    refine tkQ 25 ?_
    refine wpAnyH_done (by kernel_rfl) ?_ _
    have hb9 := hHeld.1.below
    repeat' (first | go_skip | go_guarded | go_step)
    go_ret
    exact ⟨ret_b (by rw [hf.out, Bool.and_false]), hb9⟩
  ·obtain rfl : i' = n2 := by omega
   have i3 : ¬ (i' : Int) < (i' : Int) := by omega
   have hf : fin = true := by rw [hu, List.drop_of_length_le (by rw [← hn2.out]; exact Nat.le_refl _)]; cases prevK ks i' <;> rfl
   replace hf := Lib.hid hf
   clear hu hp
   by_cases hne : i' = n
   ·subst hne
    repeat' (first | go_skip | go_guarded | go_step)
    go_ret
    exact ⟨ret_b (by rw [hf.out]; simp), hb4⟩
   ·have gn : ((i' : Int) == (n : Int)) = false := by simp; omega
    repeat' (first | go_skip | go_guarded | go_step)
    go_ret
    exact ⟨ret_b (by rw [hf.out]; simp [hne]), hb4⟩
theorem rcheckV_any (f : Nat) : ∀ (lv : Int) (g : Nat) (v : Vl) (k : Int) (b : Bool) (i : Int) (s : ByteArray) (A : Option Addr) (n c : Nat) (A2 : Option Addr) (n2 c2 : Nat) (w : World), lv + (f : Int) = 17 → f ≤ 17 → RVl g w (fun b => b < w.heap.size) v [.int .i64 k, .bool b, .int .i64 i, .string s, .slice A n c, .slice A2 n2 c2] →
  Calls Tryz.prog 56 #[.agg #[.int .i64 k, .bool b, .int .i64 i, .string s, .slice A n c, .slice A2 n2 c2], .int .i64 lv] w fun e w' => e = .returned (.int .i64 (chkV f v)) ∧ Below w.heap.size w w' := by
 induction f with
 | zero =>
  intro lv g v k b i s A n c A2 n2 c2 w hlf hf17 h
  obtain rfl : lv = 17 := by omega
  have hv : chkV 0 v = 13 := rfl
  rw [hv]
  clear h hv hlf
  go_enter Tryz.func56, Tryz.ntmps56
  go_upto_region 1 with (fail)
  generalize hx_ : World.alloc w _ = wo1
  have hO1 := own_new hx_
  clear hx_
  obtain ⟨c0_0, c0_1, c0_2, c0_3, c0_4, c0_5, cf0⟩ := own6 hO1
  have hb := hO1.below
  repeat' (first | go_skip | go_guarded | go_step)
  go_ret
  exact ⟨rfl, hb⟩
 | succ f ih =>
  intro lv g v k b i s A n c A2 n2 c2 w hlf hf17 h
  obtain ⟨gj, l, ks, rfl, rfl, hn, hn2, hs, hs2, hl2⟩ := vl_open h
  clear h
  have hlf : lv + (f : Int) = 16 := by omega
  have g16 : ¬ (16 : Int) < lv := by omega
  have iw : IntKind.i64.wrap (lv + 1) = lv + 1 := IntWalk.i64_in _ (by omega)
  obtain ⟨fin, hfin⟩ : ∃ fin, fin = chkV (f + 1) (.mk k b i s l ks) := ⟨_, rfl⟩
  rw [← hfin]
  obtain ⟨ow, how⟩ : ∃ ow, ow = ownZ (f + 1) k b i s n n2 (ascK none ks) := ⟨_, rfl⟩
  have hu : fin = if ow ≠ 0 then ow else firstE (l.map (chkV f)) := by
   rw [hfin, how, hn, hn2]
   rfl
  clear hfin
  unfold ownZ at how
  replace how := Lib.hid how
  replace hu := Lib.hid hu
  replace hn := Lib.hid hn
  replace hn2 := Lib.hid hn2
  replace hs := Lib.hid hs
  replace hs2 := Lib.hid hs2
  replace ih := Lib.hid ih
  by_cases hk5 : k = 5
  ·subst hk5
   go_enter Tryz.func56, Tryz.ntmps56
   go_upto_region 1 with (fail)
   generalize hx_ : World.alloc w _ = wo1
   have hO1 := own_new hx_
   clear hx_
   obtain ⟨c0_0, c0_1, c0_2, c0_3, c0_4, c0_5, cf0⟩ := own6 hO1
   repeat' (first | go_skip | go_guarded | go_step)
   refine (plain_any 5 b i s A n c A2 n2 c2 _).mono ?_
   rintro e w2 ⟨rfl, hb2⟩
   dsimp only
   have hO2 : OwnB w w2 [(w.heap.size, [.int .i64 5, .bool b, .int .i64 i, .string s, .slice A n c, .slice A2 n2 c2])] := hO1.kept hb2
   clear c0_0 c0_1 c0_2 c0_3 c0_4 c0_5 cf0 hO1
   obtain ⟨c0_0, c0_1, c0_2, c0_3, c0_4, c0_5, cf0⟩ := own6 hO2
   generalize hun : unusedZ 5 b i s n n2 = un at *
   replace hun := Lib.hid hun
   cases un with
   | false =>
    have ho : ow = 1 := by rw [how.out, if_neg (by omega), if_pos (by right; right; rfl)]
    have hf : fin = 1 := by rw [hu.out, ho]; rfl
    replace hf := Lib.hid hf
    clear hu ho how
    have hb := hO2.below
    repeat' (first | go_skip | go_guarded | go_step)
    go_ret
    exact ⟨ret_i6 hf.out.symm, hb⟩
   | true =>
    by_cases h1 : i < -9007199254740992
    ·have ho : ow = 2 := by rw [how.out, if_neg (by omega), if_neg (by simp), if_pos (by omega)]
     have hf : fin = 2 := by rw [hu.out, ho]; rfl
     replace hf := Lib.hid hf
     clear hu ho how
     have hb := hO2.below
     repeat' (first | go_skip | go_guarded | go_step)
     go_ret
     exact ⟨ret_i6 hf.out.symm, hb⟩
    by_cases h2 : 9007199254740992 < i
    ·have ho : ow = 2 := by rw [how.out, if_neg (by omega), if_neg (by simp), if_pos (by omega)]
     have hf : fin = 2 := by rw [hu.out, ho]; rfl
     replace hf := Lib.hid hf
     clear hu ho how
     have hb := hO2.below
     repeat' (first | go_skip | go_guarded | go_step)
     go_ret
     exact ⟨ret_i6 hf.out.symm, hb⟩
    by_cases h3 : 4096 < s.size
    ·have g3 : (4096 : Int) < (s.size : Int) := by omega
     have ho : ow = 3 := by rw [how.out, if_neg (by omega), if_neg (by simp), if_neg (by omega), if_pos (by omega)]
     have hf : fin = 3 := by rw [hu.out, ho]; rfl
     replace hf := Lib.hid hf
     clear hu ho how
     have hb := hO2.below
     repeat' (first | go_skip | go_guarded | go_step)
     go_ret
     exact ⟨ret_i6 hf.out.symm, hb⟩
    have g3 : ¬ (4096 : Int) < (s.size : Int) := by omega
    by_cases h4 : 1024 < n
    ·have g4 : (1024 : Int) < (n : Int) := by omega
     have ho : ow = 3 := by rw [how.out, if_neg (by omega), if_neg (by simp), if_neg (by omega), if_pos (by omega)]
     have hf : fin = 3 := by rw [hu.out, ho]; rfl
     replace hf := Lib.hid hf
     clear hu ho how
     have hb := hO2.below
     repeat' (first | go_skip | go_guarded | go_step)
     go_ret
     exact ⟨ret_i6 hf.out.symm, hb⟩
    have g4 : ¬ (1024 : Int) < (n : Int) := by omega
    by_cases h5 : 1024 < n2
    ·have g5 : (1024 : Int) < (n2 : Int) := by omega
     have ho : ow = 3 := by rw [how.out, if_neg (by omega), if_neg (by simp), if_neg (by omega), if_pos (by omega)]
     have hf : fin = 3 := by rw [hu.out, ho]; rfl
     replace hf := Lib.hid hf
     clear hu ho how
     have hb := hO2.below
     repeat' (first | go_skip | go_guarded | go_step)
     go_ret
     exact ⟨ret_i6 hf.out.symm, hb⟩
    have g5 : ¬ (1024 : Int) < (n2 : Int) := by omega
    have hs3 : SeqP w2 (fun b => b < w2.heap.size) 1 A2 n2 (ks.map Value.string) := hs2.out.map (fun _ hp => hO2.below.cell hp) (fun _ hp => Nat.lt_of_lt_of_le hp hO2.below.size)
    replace hs3 := Lib.hid hs3
    repeat' (first | go_skip | go_guarded | go_step)
    refine (asc_any 5 b i s A n c A2 n2 c2 ks _ hn2.out (by omega) hs3.out).mono ?_
    rintro e w3 ⟨rfl, hb3⟩
    dsimp only
    have hO3 : OwnB w w3 [(w.heap.size, [.int .i64 5, .bool b, .int .i64 i, .string s, .slice A n c, .slice A2 n2 c2])] := hO2.kept hb3
    clear c0_0 c0_1 c0_2 c0_3 c0_4 c0_5 cf0 hO2
    obtain ⟨c0_0, c0_1, c0_2, c0_3, c0_4, c0_5, cf0⟩ := own6 hO3
    generalize hky : (decide (n2 = n) && ascK none ks) = ky at *
    replace hky := Lib.hid hky
    cases ky with
    | false =>
     have ho : ow = 1 := by rw [how.out, if_neg (by omega), if_neg (by simp), if_neg (by omega), if_neg (by omega), if_pos ⟨rfl, rfl⟩]
     have hf : fin = 1 := by rw [hu.out, ho]; rfl
     replace hf := Lib.hid hf
     clear hu ho how
     have hb := hO3.below
     repeat' (first | go_skip | go_guarded | go_step)
     go_ret
     exact ⟨ret_i6 hf.out.symm, hb⟩
    | true =>
     by_cases h0 : n = 0 ∧ f = 0
     ·obtain ⟨h0, h01⟩ := h0
      subst h0
      subst h01
      obtain rfl : lv = 16 := by omega
      have ho : ow = 13 := by rw [how.out, if_neg (by omega), if_neg (by simp), if_neg (by omega), if_neg (by omega), if_neg (by simp), if_pos ⟨by omega, rfl, rfl⟩]
      have hf : fin = 13 := by rw [hu.out, ho]; rfl
      replace hf := Lib.hid hf
      clear hu ho how
      have hb := hO3.below
      repeat' (first | go_skip | go_guarded | go_step)
      go_ret
      exact ⟨ret_i6 hf.out.symm, hb⟩
     by_cases h0 : n = 0
     ·subst h0
      have gl : (lv == 16) = false := by simp; omega
      have ho : ow = 0 := by rw [how.out, if_neg (by omega), if_neg (by simp), if_neg (by omega), if_neg (by omega), if_neg (by simp), if_neg (by omega)]
      have hf : fin = 0 := by
       have hl0 : l = [] := List.eq_nil_of_length_eq_zero hn.out.symm
       rw [hu.out, ho, if_neg (by decide), hl0]
       rfl
      replace hf := Lib.hid hf
      clear hu ho how
      repeat' (first | go_skip | go_guarded | go_step)
      go_loopw [5] (fun u5 wr => u5 = .int .i64 0 ∧ OwnB w wr [(w.heap.size, [.int .i64 5, .bool b, .int .i64 i, .string s, .slice A 0 c, .slice A2 n2 c2])]) (fun _ _ => 0)
      case atStart => exact ⟨rfl, hO3⟩
      case round =>
       clear c0_0 c0_1 c0_2 c0_3 c0_4 c0_5 cf0 hO3
       obtain ⟨rfl, hOr⟩ := hrel
       have c0_0 := hOr.c 0 0
       have c0_1 := hOr.c 0 1
       have c0_2 := hOr.c 0 2
       have c0_3 := hOr.c 0 3
       have c0_4 := hOr.c 0 4
       have c0_5 := hOr.c 0 5
       have cf0 := hOr.fr 0
       have hb4 := hOr.below
       repeat' (first | go_skip | go_guarded | go_step)
       go_ret
       exact ⟨ret_i6 hf.out.symm, hb4⟩
     have g0 : ((n : Int) == 0) = false := by simp; omega
     have ho : ow = 0 := by rw [how.out, if_neg (by omega), if_neg (by simp), if_neg (by omega), if_neg (by omega), if_neg (by simp), if_neg (by omega)]
     have hfl : fin = firstE (l.map (chkV f)) := by rw [hu.out, ho, if_neg (by decide)]
     clear hu ho how
     repeat' (first | go_skip | go_guarded | go_step)
     go_loopw [5] (fun u5 wr => ∃ i' : Nat, i' ≤ n ∧ u5 = .int .i64 (i' : Int) ∧ OwnB w wr [(w.heap.size, [.int .i64 5, .bool b, .int .i64 i, .string s, .slice A n c, .slice A2 n2 c2])] ∧ fin = firstE ((l.drop i').map (chkV f))) (fun u5 _ => n - (intOf u5).toNat)
     case atStart => exact ⟨0, by omega, rfl, hO3, hfl⟩
     case round =>
      clear c0_0 c0_1 c0_2 c0_3 c0_4 c0_5 cf0 hO3 hfl
      obtain ⟨i', hi, rfl, hOr, hu⟩ := hrel
      have c0_0 := hOr.c 0 0
      have c0_1 := hOr.c 0 1
      have c0_2 := hOr.c 0 2
      have c0_3 := hOr.c 0 3
      have c0_4 := hOr.c 0 4
      have c0_5 := hOr.c 0 5
      have cf0 := hOr.fr 0
      have i1 : (0 : Int) ≤ (i' : Int) := by omega
      have i2 : IntKind.i64.wrap ((i' : Int) + 1) = ((i' + 1 : Nat) : Int) := by rw [IntWalk.i64_in _ (by omega)]; omega
      have hb4 := hOr.below
      by_cases hlt : i' < n
      ·have i3 : (i' : Int) < (n : Int) := by omega
       obtain ⟨x, hx⟩ : ∃ x, l[i']? = some x := ⟨_, List.getElem?_eq_getElem (by rw [← hn.out]; exact hlt)⟩
       obtain ⟨bx, ox, cx, rfl, hbx, hlx, hrx, hcl⟩ := hs.out.at_ hx
       obtain ⟨xk, xb, xi, xs, XA, xn, xc, XB, xn2, xc2, rfl⟩ := vl_form hrx
       have hd : l.drop i' = x :: l.drop (i' + 1) := by
        obtain ⟨h1, h2⟩ := List.getElem?_eq_some_iff.1 hx
        rw [List.drop_eq_getElem_cons h1, h2]
       rw [hd, List.map_cons] at hu
       have y0 : wr.cell? ⟨bx, ox + i' * 6, none⟩ = some (.int .i64 xk) := (hb4.cell (p := ⟨bx, ox + i' * 6 + 0, none⟩) hbx).trans (hcl 0 _ rfl)
       have y1 : wr.cell? ⟨bx, ox + i' * 6 + 1, none⟩ = some (.bool xb) := (hb4.cell (p := ⟨bx, ox + i' * 6 + 1, none⟩) hbx).trans (hcl 1 _ rfl)
       have y2 : wr.cell? ⟨bx, ox + i' * 6 + 2, none⟩ = some (.int .i64 xi) := (hb4.cell (p := ⟨bx, ox + i' * 6 + 2, none⟩) hbx).trans (hcl 2 _ rfl)
       have y3 : wr.cell? ⟨bx, ox + i' * 6 + 3, none⟩ = some (.string xs) := (hb4.cell (p := ⟨bx, ox + i' * 6 + 3, none⟩) hbx).trans (hcl 3 _ rfl)
       have y4 : wr.cell? ⟨bx, ox + i' * 6 + 4, none⟩ = some (.slice XA xn xc) := (hb4.cell (p := ⟨bx, ox + i' * 6 + 4, none⟩) hbx).trans (hcl 4 _ rfl)
       have y5 : wr.cell? ⟨bx, ox + i' * 6 + 5, none⟩ = some (.slice XB xn2 xc2) := (hb4.cell (p := ⟨bx, ox + i' * 6 + 5, none⟩) hbx).trans (hcl 5 _ rfl)
       have hrx6 := Lib.hid (RVl.at_ hrx hb4)
       clear hcl hx hrx hd
       have hu2 : fin = if chkV f x ≠ 0 then chkV f x else firstE ((l.drop (i' + 1)).map (chkV f)) := hu
       replace hu2 := Lib.hid hu2
       clear hu
       repeat' (first | go_skip | go_guarded | go_step)
       refine (ih.out (lv + 1) gj x xk xb xi xs XA xn xc XB xn2 xc2 _ (by omega) (by omega) hrx6.out).mono ?_
       rintro e w7 ⟨rfl, hb7⟩
       dsimp only
       have hO8 := hOr.kept hb7
       clear c0_0 c0_1 c0_2 c0_3 c0_4 c0_5 cf0
       obtain ⟨c0_0, c0_1, c0_2, c0_3, c0_4, c0_5, cf0⟩ := own6 hO8
       have hb8 := hO8.below
       by_cases hce : chkV f x = 0
       ·have hf : fin = firstE ((l.drop (i' + 1)).map (chkV f)) := by rw [hu2.out, hce, if_neg (by decide)]
        replace hf := Lib.hid hf
        rw [hce]
        clear hce
        repeat' (first | go_skip | go_guarded | go_step)
        go_roundw
        case rel => exact ⟨i' + 1, by omega, by first | rfl | go_num, hO8, hf.out⟩
        case measure => (try go_num); (try simp [intOf]); (try omega)
       ·have hf : fin = chkV f x := by rw [hu2.out, if_pos hce]
        have hce2 : (chkV f x == 0) = false := by simpa using hce
        replace hf := Lib.hid hf
        clear hu2
        generalize chkV f x = ce at *
        repeat' (first | go_skip | go_guarded | go_step)
        go_ret
        exact ⟨ret_i6 hf.out.symm, hb8⟩
      ·obtain rfl : i' = n := by omega
       have i3 : ¬ (i' : Int) < (i' : Int) := by omega
       have hf : fin = 0 := by rw [hu, List.drop_of_length_le (by rw [← hn.out]; exact Nat.le_refl _)]; rfl
       replace hf := Lib.hid hf
       clear hu
       repeat' (first | go_skip | go_guarded | go_step)
       go_ret
       exact ⟨ret_i6 hf.out.symm, hb4⟩
  by_cases hk4 : k = 4
  ·subst hk4
   go_enter Tryz.func56, Tryz.ntmps56
   go_upto_region 1 with (fail)
   generalize hx_ : World.alloc w _ = wo1
   have hO1 := own_new hx_
   clear hx_
   obtain ⟨c0_0, c0_1, c0_2, c0_3, c0_4, c0_5, cf0⟩ := own6 hO1
   repeat' (first | go_skip | go_guarded | go_step)
   refine (plain_any 4 b i s A n c A2 n2 c2 _).mono ?_
   rintro e w2 ⟨rfl, hb2⟩
   dsimp only
   have hO2 : OwnB w w2 [(w.heap.size, [.int .i64 4, .bool b, .int .i64 i, .string s, .slice A n c, .slice A2 n2 c2])] := hO1.kept hb2
   clear c0_0 c0_1 c0_2 c0_3 c0_4 c0_5 cf0 hO1
   obtain ⟨c0_0, c0_1, c0_2, c0_3, c0_4, c0_5, cf0⟩ := own6 hO2
   generalize hun : unusedZ 4 b i s n n2 = un at *
   replace hun := Lib.hid hun
   cases un with
   | false =>
    have ho : ow = 1 := by rw [how.out, if_neg (by omega), if_pos (by right; right; rfl)]
    have hf : fin = 1 := by rw [hu.out, ho]; rfl
    replace hf := Lib.hid hf
    clear hu ho how
    have hb := hO2.below
    repeat' (first | go_skip | go_guarded | go_step)
    go_ret
    exact ⟨ret_i6 hf.out.symm, hb⟩
   | true =>
    by_cases h1 : i < -9007199254740992
    ·have ho : ow = 2 := by rw [how.out, if_neg (by omega), if_neg (by simp), if_pos (by omega)]
     have hf : fin = 2 := by rw [hu.out, ho]; rfl
     replace hf := Lib.hid hf
     clear hu ho how
     have hb := hO2.below
     repeat' (first | go_skip | go_guarded | go_step)
     go_ret
     exact ⟨ret_i6 hf.out.symm, hb⟩
    by_cases h2 : 9007199254740992 < i
    ·have ho : ow = 2 := by rw [how.out, if_neg (by omega), if_neg (by simp), if_pos (by omega)]
     have hf : fin = 2 := by rw [hu.out, ho]; rfl
     replace hf := Lib.hid hf
     clear hu ho how
     have hb := hO2.below
     repeat' (first | go_skip | go_guarded | go_step)
     go_ret
     exact ⟨ret_i6 hf.out.symm, hb⟩
    by_cases h3 : 4096 < s.size
    ·have g3 : (4096 : Int) < (s.size : Int) := by omega
     have ho : ow = 3 := by rw [how.out, if_neg (by omega), if_neg (by simp), if_neg (by omega), if_pos (by omega)]
     have hf : fin = 3 := by rw [hu.out, ho]; rfl
     replace hf := Lib.hid hf
     clear hu ho how
     have hb := hO2.below
     repeat' (first | go_skip | go_guarded | go_step)
     go_ret
     exact ⟨ret_i6 hf.out.symm, hb⟩
    have g3 : ¬ (4096 : Int) < (s.size : Int) := by omega
    by_cases h4 : 1024 < n
    ·have g4 : (1024 : Int) < (n : Int) := by omega
     have ho : ow = 3 := by rw [how.out, if_neg (by omega), if_neg (by simp), if_neg (by omega), if_pos (by omega)]
     have hf : fin = 3 := by rw [hu.out, ho]; rfl
     replace hf := Lib.hid hf
     clear hu ho how
     have hb := hO2.below
     repeat' (first | go_skip | go_guarded | go_step)
     go_ret
     exact ⟨ret_i6 hf.out.symm, hb⟩
    have g4 : ¬ (1024 : Int) < (n : Int) := by omega
    by_cases h5 : 1024 < n2
    ·have g5 : (1024 : Int) < (n2 : Int) := by omega
     have ho : ow = 3 := by rw [how.out, if_neg (by omega), if_neg (by simp), if_neg (by omega), if_pos (by omega)]
     have hf : fin = 3 := by rw [hu.out, ho]; rfl
     replace hf := Lib.hid hf
     clear hu ho how
     have hb := hO2.below
     repeat' (first | go_skip | go_guarded | go_step)
     go_ret
     exact ⟨ret_i6 hf.out.symm, hb⟩
    have g5 : ¬ (1024 : Int) < (n2 : Int) := by omega
    by_cases h0 : n = 0 ∧ f = 0
    ·obtain ⟨h0, h01⟩ := h0
     subst h0
     subst h01
     obtain rfl : lv = 16 := by omega
     have ho : ow = 13 := by rw [how.out, if_neg (by omega), if_neg (by simp), if_neg (by omega), if_neg (by omega), if_neg (by omega), if_pos ⟨by omega, rfl, rfl⟩]
     have hf : fin = 13 := by rw [hu.out, ho]; rfl
     replace hf := Lib.hid hf
     clear hu ho how
     have hb := hO2.below
     repeat' (first | go_skip | go_guarded | go_step)
     go_ret
     exact ⟨ret_i6 hf.out.symm, hb⟩
    by_cases h0 : n = 0
    ·subst h0
     have gl : (lv == 16) = false := by simp; omega
     have ho : ow = 0 := by rw [how.out, if_neg (by omega), if_neg (by simp), if_neg (by omega), if_neg (by omega), if_neg (by omega), if_neg (by omega)]
     have hf : fin = 0 := by
      have hl0 : l = [] := List.eq_nil_of_length_eq_zero hn.out.symm
      rw [hu.out, ho, if_neg (by decide), hl0]
      rfl
     replace hf := Lib.hid hf
     clear hu ho how
     repeat' (first | go_skip | go_guarded | go_step)
     go_loopw [5] (fun u5 wr => u5 = .int .i64 0 ∧ OwnB w wr [(w.heap.size, [.int .i64 4, .bool b, .int .i64 i, .string s, .slice A 0 c, .slice A2 n2 c2])]) (fun _ _ => 0)
     case atStart => exact ⟨rfl, hO2⟩
     case round =>
      clear c0_0 c0_1 c0_2 c0_3 c0_4 c0_5 cf0 hO2
      obtain ⟨rfl, hOr⟩ := hrel
      have c0_0 := hOr.c 0 0
      have c0_1 := hOr.c 0 1
      have c0_2 := hOr.c 0 2
      have c0_3 := hOr.c 0 3
      have c0_4 := hOr.c 0 4
      have c0_5 := hOr.c 0 5
      have cf0 := hOr.fr 0
      have hb4 := hOr.below
      repeat' (first | go_skip | go_guarded | go_step)
      go_ret
      exact ⟨ret_i6 hf.out.symm, hb4⟩
    have g0 : ((n : Int) == 0) = false := by simp; omega
    have ho : ow = 0 := by rw [how.out, if_neg (by omega), if_neg (by simp), if_neg (by omega), if_neg (by omega), if_neg (by omega), if_neg (by omega)]
    have hfl : fin = firstE (l.map (chkV f)) := by rw [hu.out, ho, if_neg (by decide)]
    clear hu ho how
    repeat' (first | go_skip | go_guarded | go_step)
    go_loopw [5] (fun u5 wr => ∃ i' : Nat, i' ≤ n ∧ u5 = .int .i64 (i' : Int) ∧ OwnB w wr [(w.heap.size, [.int .i64 4, .bool b, .int .i64 i, .string s, .slice A n c, .slice A2 n2 c2])] ∧ fin = firstE ((l.drop i').map (chkV f))) (fun u5 _ => n - (intOf u5).toNat)
    case atStart => exact ⟨0, by omega, rfl, hO2, hfl⟩
    case round =>
     clear c0_0 c0_1 c0_2 c0_3 c0_4 c0_5 cf0 hO2 hfl
     obtain ⟨i', hi, rfl, hOr, hu⟩ := hrel
     have c0_0 := hOr.c 0 0
     have c0_1 := hOr.c 0 1
     have c0_2 := hOr.c 0 2
     have c0_3 := hOr.c 0 3
     have c0_4 := hOr.c 0 4
     have c0_5 := hOr.c 0 5
     have cf0 := hOr.fr 0
     have i1 : (0 : Int) ≤ (i' : Int) := by omega
     have i2 : IntKind.i64.wrap ((i' : Int) + 1) = ((i' + 1 : Nat) : Int) := by rw [IntWalk.i64_in _ (by omega)]; omega
     have hb4 := hOr.below
     by_cases hlt : i' < n
     ·have i3 : (i' : Int) < (n : Int) := by omega
      obtain ⟨x, hx⟩ : ∃ x, l[i']? = some x := ⟨_, List.getElem?_eq_getElem (by rw [← hn.out]; exact hlt)⟩
      obtain ⟨bx, ox, cx, rfl, hbx, hlx, hrx, hcl⟩ := hs.out.at_ hx
      obtain ⟨xk, xb, xi, xs, XA, xn, xc, XB, xn2, xc2, rfl⟩ := vl_form hrx
      have hd : l.drop i' = x :: l.drop (i' + 1) := by
       obtain ⟨h1, h2⟩ := List.getElem?_eq_some_iff.1 hx
       rw [List.drop_eq_getElem_cons h1, h2]
      rw [hd, List.map_cons] at hu
      have y0 : wr.cell? ⟨bx, ox + i' * 6, none⟩ = some (.int .i64 xk) := (hb4.cell (p := ⟨bx, ox + i' * 6 + 0, none⟩) hbx).trans (hcl 0 _ rfl)
      have y1 : wr.cell? ⟨bx, ox + i' * 6 + 1, none⟩ = some (.bool xb) := (hb4.cell (p := ⟨bx, ox + i' * 6 + 1, none⟩) hbx).trans (hcl 1 _ rfl)
      have y2 : wr.cell? ⟨bx, ox + i' * 6 + 2, none⟩ = some (.int .i64 xi) := (hb4.cell (p := ⟨bx, ox + i' * 6 + 2, none⟩) hbx).trans (hcl 2 _ rfl)
      have y3 : wr.cell? ⟨bx, ox + i' * 6 + 3, none⟩ = some (.string xs) := (hb4.cell (p := ⟨bx, ox + i' * 6 + 3, none⟩) hbx).trans (hcl 3 _ rfl)
      have y4 : wr.cell? ⟨bx, ox + i' * 6 + 4, none⟩ = some (.slice XA xn xc) := (hb4.cell (p := ⟨bx, ox + i' * 6 + 4, none⟩) hbx).trans (hcl 4 _ rfl)
      have y5 : wr.cell? ⟨bx, ox + i' * 6 + 5, none⟩ = some (.slice XB xn2 xc2) := (hb4.cell (p := ⟨bx, ox + i' * 6 + 5, none⟩) hbx).trans (hcl 5 _ rfl)
      have hrx6 := Lib.hid (RVl.at_ hrx hb4)
      clear hcl hx hrx hd
      have hu2 : fin = if chkV f x ≠ 0 then chkV f x else firstE ((l.drop (i' + 1)).map (chkV f)) := hu
      replace hu2 := Lib.hid hu2
      clear hu
      repeat' (first | go_skip | go_guarded | go_step)
      refine (ih.out (lv + 1) gj x xk xb xi xs XA xn xc XB xn2 xc2 _ (by omega) (by omega) hrx6.out).mono ?_
      rintro e w7 ⟨rfl, hb7⟩
      dsimp only
      have hO8 := hOr.kept hb7
      clear c0_0 c0_1 c0_2 c0_3 c0_4 c0_5 cf0
      obtain ⟨c0_0, c0_1, c0_2, c0_3, c0_4, c0_5, cf0⟩ := own6 hO8
      have hb8 := hO8.below
      by_cases hce : chkV f x = 0
      ·have hf : fin = firstE ((l.drop (i' + 1)).map (chkV f)) := by rw [hu2.out, hce, if_neg (by decide)]
       replace hf := Lib.hid hf
       rw [hce]
       clear hce
       repeat' (first | go_skip | go_guarded | go_step)
       go_roundw
       case rel => exact ⟨i' + 1, by omega, by first | rfl | go_num, hO8, hf.out⟩
       case measure => (try go_num); (try simp [intOf]); (try omega)
      ·have hf : fin = chkV f x := by rw [hu2.out, if_pos hce]
       have hce2 : (chkV f x == 0) = false := by simpa using hce
       replace hf := Lib.hid hf
       clear hu2
       generalize chkV f x = ce at *
       repeat' (first | go_skip | go_guarded | go_step)
       go_ret
       exact ⟨ret_i6 hf.out.symm, hb8⟩
     ·obtain rfl : i' = n := by omega
      have i3 : ¬ (i' : Int) < (i' : Int) := by omega
      have hf : fin = 0 := by rw [hu, List.drop_of_length_le (by rw [← hn.out]; exact Nat.le_refl _)]; rfl
      replace hf := Lib.hid hf
      clear hu
      repeat' (first | go_skip | go_guarded | go_step)
      go_ret
      exact ⟨ret_i6 hf.out.symm, hb4⟩
  go_enter Tryz.func56, Tryz.ntmps56
  go_upto_region 1 with (fail)
  generalize hx_ : World.alloc w _ = wo1
  have hO1 := own_new hx_
  clear hx_
  obtain ⟨c0_0, c0_1, c0_2, c0_3, c0_4, c0_5, cf0⟩ := own6 hO1
  by_cases hk0 : k < 0
  ·have ho : ow = 1 := by rw [how.out, if_neg (by omega), if_pos (by omega)]
   have hf : fin = 1 := by rw [hu.out, ho]; rfl
   replace hf := Lib.hid hf
   clear hu ho how
   have hb := hO1.below
   repeat' (first | go_skip | go_guarded | go_step)
   go_ret
   exact ⟨ret_i6 hf.out.symm, hb⟩
  by_cases hk6 : 5 < k
  ·have ho : ow = 1 := by rw [how.out, if_neg (by omega), if_pos (by omega)]
   have hf : fin = 1 := by rw [hu.out, ho]; rfl
   replace hf := Lib.hid hf
   clear hu ho how
   have hb := hO1.below
   repeat' (first | go_skip | go_guarded | go_step)
   go_ret
   exact ⟨ret_i6 hf.out.symm, hb⟩
  have hk7 : ¬ 4 ≤ k := by omega
  repeat' (first | go_skip | go_guarded | go_step)
  refine (plain_any k b i s A n c A2 n2 c2 _).mono ?_
  rintro e w2 ⟨rfl, hb2⟩
  dsimp only
  have hO2 : OwnB w w2 [(w.heap.size, [.int .i64 k, .bool b, .int .i64 i, .string s, .slice A n c, .slice A2 n2 c2])] := hO1.kept hb2
  clear c0_0 c0_1 c0_2 c0_3 c0_4 c0_5 cf0 hO1
  obtain ⟨c0_0, c0_1, c0_2, c0_3, c0_4, c0_5, cf0⟩ := own6 hO2
  generalize hun : unusedZ k b i s n n2 = un at *
  replace hun := Lib.hid hun
  cases un with
  | false =>
   have ho : ow = 1 := by rw [how.out, if_neg (by omega), if_pos (by right; right; rfl)]
   have hf : fin = 1 := by rw [hu.out, ho]; rfl
   replace hf := Lib.hid hf
   clear hu ho how
   have hb := hO2.below
   repeat' (first | go_skip | go_guarded | go_step)
   go_ret
   exact ⟨ret_i6 hf.out.symm, hb⟩
  | true =>
   by_cases h1 : i < -9007199254740992
   ·have ho : ow = 2 := by rw [how.out, if_neg (by omega), if_neg (by simp; omega), if_pos (by omega)]
    have hf : fin = 2 := by rw [hu.out, ho]; rfl
    replace hf := Lib.hid hf
    clear hu ho how
    have hb := hO2.below
    repeat' (first | go_skip | go_guarded | go_step)
    go_ret
    exact ⟨ret_i6 hf.out.symm, hb⟩
   by_cases h2 : 9007199254740992 < i
   ·have ho : ow = 2 := by rw [how.out, if_neg (by omega), if_neg (by simp; omega), if_pos (by omega)]
    have hf : fin = 2 := by rw [hu.out, ho]; rfl
    replace hf := Lib.hid hf
    clear hu ho how
    have hb := hO2.below
    repeat' (first | go_skip | go_guarded | go_step)
    go_ret
    exact ⟨ret_i6 hf.out.symm, hb⟩
   by_cases h3 : 4096 < s.size
   ·have g3 : (4096 : Int) < (s.size : Int) := by omega
    have ho : ow = 3 := by rw [how.out, if_neg (by omega), if_neg (by simp; omega), if_neg (by omega), if_pos (by omega)]
    have hf : fin = 3 := by rw [hu.out, ho]; rfl
    replace hf := Lib.hid hf
    clear hu ho how
    have hb := hO2.below
    repeat' (first | go_skip | go_guarded | go_step)
    go_ret
    exact ⟨ret_i6 hf.out.symm, hb⟩
   have g3 : ¬ (4096 : Int) < (s.size : Int) := by omega
   by_cases h4 : 1024 < n
   ·have g4 : (1024 : Int) < (n : Int) := by omega
    have ho : ow = 3 := by rw [how.out, if_neg (by omega), if_neg (by simp; omega), if_neg (by omega), if_pos (by omega)]
    have hf : fin = 3 := by rw [hu.out, ho]; rfl
    replace hf := Lib.hid hf
    clear hu ho how
    have hb := hO2.below
    repeat' (first | go_skip | go_guarded | go_step)
    go_ret
    exact ⟨ret_i6 hf.out.symm, hb⟩
   have g4 : ¬ (1024 : Int) < (n : Int) := by omega
   by_cases h5 : 1024 < n2
   ·have g5 : (1024 : Int) < (n2 : Int) := by omega
    have ho : ow = 3 := by rw [how.out, if_neg (by omega), if_neg (by simp; omega), if_neg (by omega), if_pos (by omega)]
    have hf : fin = 3 := by rw [hu.out, ho]; rfl
    replace hf := Lib.hid hf
    clear hu ho how
    have hb := hO2.below
    repeat' (first | go_skip | go_guarded | go_step)
    go_ret
    exact ⟨ret_i6 hf.out.symm, hb⟩
   have g5 : ¬ (1024 : Int) < (n2 : Int) := by omega
   have ho : ow = 0 := by rw [how.out, if_neg (by omega), if_neg (by simp; omega), if_neg (by omega), if_neg (by omega), if_neg (by omega), if_neg (by omega)]
   have hfl : fin = firstE (l.map (chkV f)) := by rw [hu.out, ho, if_neg (by decide)]
   clear hu ho how
   repeat' (first | go_skip | go_guarded | go_step)
   go_loopw [5] (fun u5 wr => ∃ i' : Nat, i' ≤ n ∧ u5 = .int .i64 (i' : Int) ∧ OwnB w wr [(w.heap.size, [.int .i64 k, .bool b, .int .i64 i, .string s, .slice A n c, .slice A2 n2 c2])] ∧ fin = firstE ((l.drop i').map (chkV f))) (fun u5 _ => n - (intOf u5).toNat)
   case atStart => exact ⟨0, by omega, rfl, hO2, hfl⟩
   case round =>
    clear c0_0 c0_1 c0_2 c0_3 c0_4 c0_5 cf0 hO2 hfl
    obtain ⟨i', hi, rfl, hOr, hu⟩ := hrel
    have c0_0 := hOr.c 0 0
    have c0_1 := hOr.c 0 1
    have c0_2 := hOr.c 0 2
    have c0_3 := hOr.c 0 3
    have c0_4 := hOr.c 0 4
    have c0_5 := hOr.c 0 5
    have cf0 := hOr.fr 0
    have i1 : (0 : Int) ≤ (i' : Int) := by omega
    have i2 : IntKind.i64.wrap ((i' : Int) + 1) = ((i' + 1 : Nat) : Int) := by rw [IntWalk.i64_in _ (by omega)]; omega
    have hb4 := hOr.below
    by_cases hlt : i' < n
    ·have i3 : (i' : Int) < (n : Int) := by omega
     obtain ⟨x, hx⟩ : ∃ x, l[i']? = some x := ⟨_, List.getElem?_eq_getElem (by rw [← hn.out]; exact hlt)⟩
     obtain ⟨bx, ox, cx, rfl, hbx, hlx, hrx, hcl⟩ := hs.out.at_ hx
     obtain ⟨xk, xb, xi, xs, XA, xn, xc, XB, xn2, xc2, rfl⟩ := vl_form hrx
     have hd : l.drop i' = x :: l.drop (i' + 1) := by
      obtain ⟨h1, h2⟩ := List.getElem?_eq_some_iff.1 hx
      rw [List.drop_eq_getElem_cons h1, h2]
     rw [hd, List.map_cons] at hu
     have y0 : wr.cell? ⟨bx, ox + i' * 6, none⟩ = some (.int .i64 xk) := (hb4.cell (p := ⟨bx, ox + i' * 6 + 0, none⟩) hbx).trans (hcl 0 _ rfl)
     have y1 : wr.cell? ⟨bx, ox + i' * 6 + 1, none⟩ = some (.bool xb) := (hb4.cell (p := ⟨bx, ox + i' * 6 + 1, none⟩) hbx).trans (hcl 1 _ rfl)
     have y2 : wr.cell? ⟨bx, ox + i' * 6 + 2, none⟩ = some (.int .i64 xi) := (hb4.cell (p := ⟨bx, ox + i' * 6 + 2, none⟩) hbx).trans (hcl 2 _ rfl)
     have y3 : wr.cell? ⟨bx, ox + i' * 6 + 3, none⟩ = some (.string xs) := (hb4.cell (p := ⟨bx, ox + i' * 6 + 3, none⟩) hbx).trans (hcl 3 _ rfl)
     have y4 : wr.cell? ⟨bx, ox + i' * 6 + 4, none⟩ = some (.slice XA xn xc) := (hb4.cell (p := ⟨bx, ox + i' * 6 + 4, none⟩) hbx).trans (hcl 4 _ rfl)
     have y5 : wr.cell? ⟨bx, ox + i' * 6 + 5, none⟩ = some (.slice XB xn2 xc2) := (hb4.cell (p := ⟨bx, ox + i' * 6 + 5, none⟩) hbx).trans (hcl 5 _ rfl)
     have hrx6 := Lib.hid (RVl.at_ hrx hb4)
     clear hcl hx hrx hd
     have hu2 : fin = if chkV f x ≠ 0 then chkV f x else firstE ((l.drop (i' + 1)).map (chkV f)) := hu
     replace hu2 := Lib.hid hu2
     clear hu
     repeat' (first | go_skip | go_guarded | go_step)
     refine (ih.out (lv + 1) gj x xk xb xi xs XA xn xc XB xn2 xc2 _ (by omega) (by omega) hrx6.out).mono ?_
     rintro e w7 ⟨rfl, hb7⟩
     dsimp only
     have hO8 := hOr.kept hb7
     clear c0_0 c0_1 c0_2 c0_3 c0_4 c0_5 cf0
     obtain ⟨c0_0, c0_1, c0_2, c0_3, c0_4, c0_5, cf0⟩ := own6 hO8
     have hb8 := hO8.below
     by_cases hce : chkV f x = 0
     ·have hf : fin = firstE ((l.drop (i' + 1)).map (chkV f)) := by rw [hu2.out, hce, if_neg (by decide)]
      replace hf := Lib.hid hf
      rw [hce]
      clear hce
      repeat' (first | go_skip | go_guarded | go_step)
      go_roundw
      case rel => exact ⟨i' + 1, by omega, by first | rfl | go_num, hO8, hf.out⟩
      case measure => (try go_num); (try simp [intOf]); (try omega)
     ·have hf : fin = chkV f x := by rw [hu2.out, if_pos hce]
      have hce2 : (chkV f x == 0) = false := by simpa using hce
      replace hf := Lib.hid hf
      clear hu2
      generalize chkV f x = ce at *
      repeat' (first | go_skip | go_guarded | go_step)
      go_ret
      exact ⟨ret_i6 hf.out.symm, hb8⟩
    ·obtain rfl : i' = n := by omega
     have i3 : ¬ (i' : Int) < (i' : Int) := by omega
     have hf : fin = 0 := by rw [hu, List.drop_of_length_le (by rw [← hn.out]; exact Nat.le_refl _)]; rfl
     replace hf := Lib.hid hf
     clear hu
     repeat' (first | go_skip | go_guarded | go_step)
     go_ret
     exact ⟨ret_i6 hf.out.symm, hb4⟩
theorem rvalidV_any (g : Nat) (v : Vl) (k : Int) (b : Bool) (i : Int) (s : ByteArray) (A : Option Addr) (n c : Nat) (A2 : Option Addr) (n2 c2 : Nat) (w : World) (h : RVl g w (fun b => b < w.heap.size) v [.int .i64 k, .bool b, .int .i64 i, .string s, .slice A n c, .slice A2 n2 c2]) :
  Calls Tryz.prog 26 #[.agg #[.int .i64 k, .bool b, .int .i64 i, .string s, .slice A n c, .slice A2 n2 c2]] w fun e w' => e = .returned (.int .i64 (validV v)) ∧ Below w.heap.size w w' := by
 go_enter Tryz.func26, Tryz.ntmps26
 go_upto_region 1 with (fail)
 generalize hx_ : World.alloc w _ = wo1
 have hO1 := own_new hx_
 clear hx_
 obtain ⟨c0_0, c0_1, c0_2, c0_3, c0_4, c0_5, cf0⟩ := own6 hO1
 have hb := hO1.below
 have h1 := Lib.hid (RVl.at_ h hb)
 repeat' (first | go_skip | go_guarded | go_step)
 refine (rcheckV_any 16 1 g v k b i s A n c A2 n2 c2 _ (by decide) (by decide) h1.out).mono ?_
 rintro e w2 ⟨rfl, hb2⟩
 dsimp only
 have hb3 := hb.trans (hb2.mono hb.size)
 repeat' (first | go_skip | go_guarded | go_step)
 go_ret
 exact ⟨rfl, hb3⟩
theorem rvalid_ev (fs : List FV) (E : List Value) (w : World) (h : EvR w fs E) (hs9 : lsz fs ≤ 900000000) : Calls Tryz.prog 11 #[.agg E.toArray] w fun e w' => e = .returned (.int .i64 (validF fs)) ∧ Below w.heap.size w w' := by
 obtain ⟨k, t, m, A, c, hk, ht, hf0, g0, g1, g10, hms, e0, e1, e12, hR⟩ := ev_parts h
 rw [fsz_fL] at hms
 have hml := lsz_length m
 have hl := h.len
 have hi := ev_info hl
 by_cases k0 : k < 1
 ·skip
  go_enter Tryz.func11, Tryz.ntmps11
  go_upto_region 1 with (fail)
  have hA : (w.alloc (.cells E.toArray 43)).rangeAt w.heap.size 0 E := at_new w E 43
  have hlt0 : w.heap.size < (w.alloc (.cells E.toArray 43)).heap.size := by simp
  have hb0 := (Below.refl w.heap.size w).alloc (Nat.le_refl _) (.cells E.toArray 43)
  generalize World.alloc w _ = w1 at *
  have c0 : w1.cell? ⟨w.heap.size, 0, none⟩ = some (.int .i64 k) := hA 0 _ e0
  have c1 : w1.cell? ⟨w.heap.size, 1, none⟩ = some (.int .i64 t) := hA 1 _ e1
  have c12 : w1.cell? ⟨w.heap.size, 12, none⟩ = some (.slice A m.length c) := hA 12 _ e12
  repeat' (first | go_skip | go_guarded | go_step)
  go_ret
  have hv : validF fs = 1 := by unfold validF; rw [g0, g1]; rw [if_pos (Or.inl k0)]
  exact ⟨by rw [hv] <;> rfl, hb0⟩
 by_cases k1 : 15 < k
 ·skip
  go_enter Tryz.func11, Tryz.ntmps11
  go_upto_region 1 with (fail)
  have hA : (w.alloc (.cells E.toArray 43)).rangeAt w.heap.size 0 E := at_new w E 43
  have hlt0 : w.heap.size < (w.alloc (.cells E.toArray 43)).heap.size := by simp
  have hb0 := (Below.refl w.heap.size w).alloc (Nat.le_refl _) (.cells E.toArray 43)
  generalize World.alloc w _ = w1 at *
  have c0 : w1.cell? ⟨w.heap.size, 0, none⟩ = some (.int .i64 k) := hA 0 _ e0
  have c1 : w1.cell? ⟨w.heap.size, 1, none⟩ = some (.int .i64 t) := hA 1 _ e1
  have c12 : w1.cell? ⟨w.heap.size, 12, none⟩ = some (.slice A m.length c) := hA 12 _ e12
  repeat' (first | go_skip | go_guarded | go_step)
  go_ret
  have hv : validF fs = 1 := by unfold validF; rw [g0, g1]; rw [if_pos (Or.inr k1)]
  exact ⟨by rw [hv] <;> rfl, hb0⟩
 by_cases t0 : t < 0
 ·skip
  go_enter Tryz.func11, Tryz.ntmps11
  go_upto_region 1 with (fail)
  have hA : (w.alloc (.cells E.toArray 43)).rangeAt w.heap.size 0 E := at_new w E 43
  have hlt0 : w.heap.size < (w.alloc (.cells E.toArray 43)).heap.size := by simp
  have hb0 := (Below.refl w.heap.size w).alloc (Nat.le_refl _) (.cells E.toArray 43)
  generalize World.alloc w _ = w1 at *
  have c0 : w1.cell? ⟨w.heap.size, 0, none⟩ = some (.int .i64 k) := hA 0 _ e0
  have c1 : w1.cell? ⟨w.heap.size, 1, none⟩ = some (.int .i64 t) := hA 1 _ e1
  have c12 : w1.cell? ⟨w.heap.size, 12, none⟩ = some (.slice A m.length c) := hA 12 _ e12
  repeat' (first | go_skip | go_guarded | go_step)
  go_ret
  have hv : validF fs = 2 := by unfold validF; rw [g0, g1]; rw [if_neg (show ¬ (k < 1 ∨ 15 < k) from fun h => h.elim k0 k1), if_pos (Or.inl t0)]
  exact ⟨by rw [hv] <;> rfl, hb0⟩
 by_cases t1 : 1125899906842624 < t
 ·skip
  go_enter Tryz.func11, Tryz.ntmps11
  go_upto_region 1 with (fail)
  have hA : (w.alloc (.cells E.toArray 43)).rangeAt w.heap.size 0 E := at_new w E 43
  have hlt0 : w.heap.size < (w.alloc (.cells E.toArray 43)).heap.size := by simp
  have hb0 := (Below.refl w.heap.size w).alloc (Nat.le_refl _) (.cells E.toArray 43)
  generalize World.alloc w _ = w1 at *
  have c0 : w1.cell? ⟨w.heap.size, 0, none⟩ = some (.int .i64 k) := hA 0 _ e0
  have c1 : w1.cell? ⟨w.heap.size, 1, none⟩ = some (.int .i64 t) := hA 1 _ e1
  have c12 : w1.cell? ⟨w.heap.size, 12, none⟩ = some (.slice A m.length c) := hA 12 _ e12
  repeat' (first | go_skip | go_guarded | go_step)
  go_ret
  have hv : validF fs = 2 := by unfold validF; rw [g0, g1]; rw [if_neg (show ¬ (k < 1 ∨ 15 < k) from fun h => h.elim k0 k1), if_pos (Or.inr t1)]
  exact ⟨by rw [hv] <;> rfl, hb0⟩
 obtain ⟨K, rfl⟩ : ∃ K : Nat, k = (K : Int) := ⟨k.toNat, by omega⟩
 have hV : validF fs = if eqF (ofL (restF K fs)) (ofL zeroFs) = false then 1 else firstE (m.map varV) := by
  unfold validF argsV
  rw [g0, g1, g10, if_neg (show ¬ ((K : Int) < 1 ∨ 15 < (K : Int)) from fun h => h.elim k0 k1), if_neg (show ¬ (t < 0 ∨ 1125899906842624 < t) from fun h => h.elim t0 t1)]
  simp only [toL_ofL, Int.toNat_natCast]
 go_enter Tryz.func11, Tryz.ntmps11
 go_upto_region 1 with (fail)
 have hA : (w.alloc (.cells E.toArray 43)).rangeAt w.heap.size 0 E := at_new w E 43
 have hlt0 : w.heap.size < (w.alloc (.cells E.toArray 43)).heap.size := by simp
 have hb0 := (Below.refl w.heap.size w).alloc (Nat.le_refl _) (.cells E.toArray 43)
 generalize World.alloc w _ = w1 at *
 have c0 : w1.cell? ⟨w.heap.size, 0, none⟩ = some (.int .i64 (K : Int)) := hA 0 _ e0
 have c1 : w1.cell? ⟨w.heap.size, 1, none⟩ = some (.int .i64 t) := hA 1 _ e1
 have c12 : w1.cell? ⟨w.heap.size, 12, none⟩ = some (.slice A m.length c) := hA 12 _ e12
 replace hR := Lib.hid hR
 replace hV := Lib.hid hV
 repeat' (first | (refine wpList_load_mid rfl 43 _ rfl w.heap.size 0 rfl E _ hA Tryz.underlying43 rfl hi ?_) | (refine wpList_build1 rfl 43 _ rfl (cells := evZ.toArray) (by kernel_rfl) ?_) | go_skip | go_guarded | go_step)
 refine (runused_any K (by omega) (by omega) fs E w1 (h.up hb0) hf0).mono ?_
 rintro e w2 ⟨E2, rfl, hr2, hb2⟩
 dsimp only
 have hA2 := range_up hA hb2 hlt0
 repeat' (first | (refine wpList_load_mid rfl 43 _ rfl w.heap.size 0 rfl E _ hA2 Tryz.underlying43 rfl hi ?_) | (refine wpList_build1 rfl 43 _ rfl (cells := evZ.toArray) (by kernel_rfl) ?_) | go_skip | go_guarded | go_step)
 refine (rsame_ev (restF K fs) zeroFs E2 evZ w2 ⟨hr2, by have := restF_sz fs K; omega⟩ (zero_ev w2)).mono ?_
 rintro e w3 ⟨rfl, hb3⟩
 dsimp only
 have hA3 := range_up hA2 hb3 (Nat.lt_of_lt_of_le hlt0 hb2.size)
 have hbw : Below w.heap.size w w3 := hb0.trans ((hb2.trans (hb3.mono hb2.size)).mono hb0.size)
 have hlt3 : w.heap.size < w3.heap.size := Nat.lt_of_lt_of_le hlt0 (Nat.le_trans hb2.size hb3.size)
 clear c0 c1 c12 hA2 hb2 hb3 hr2 hA
 have c12 : w3.cell? ⟨w.heap.size, 12, none⟩ = some (.slice A m.length c) := hA3 12 _ e12
 cases hq : eqF (ofL (restF K fs)) (ofL zeroFs) with
 | false =>
  repeat' (first | go_skip | go_guarded | go_step)
  go_ret
  exact ⟨by rw [hV.out, if_pos hq] <;> rfl, hbw⟩
 | true =>
  have hV2 : validF fs = firstE (m.map varV) := by rw [hV.out, if_neg (by rw [hq]; decide)]
  clear hV hq
  replace hV2 := Lib.hid hV2
  repeat' (first | go_skip | go_guarded | go_step)
  go_loopw [3] (fun u3 wr => ∃ i : Nat, i ≤ m.length ∧ u3 = .int .i64 (i : Int) ∧ Below w3.heap.size w3 wr ∧ validF fs = firstE ((m.map varV).drop i)) (fun u3 _ => m.length - (intOf u3).toNat)
  case atStart => exact ⟨0, Nat.zero_le _, rfl, Below.refl _ _, by rw [List.drop_zero]; exact hV2.out⟩
  case round =>
   clear hV2
   obtain ⟨i, hi2, rfl, hbr, hu⟩ := hrel
   have hbx : Below w.heap.size w wr := hbw.trans (hbr.mono hbw.size)
   replace c12 := (hbr.cell (p := ⟨w.heap.size, 12, none⟩) hlt3).trans c12
   by_cases hlt : i < m.length
   ·obtain ⟨x, hx⟩ : ∃ x, m[i]? = some x := ⟨_, List.getElem?_eq_getElem hlt⟩
    obtain ⟨b, o, c1_, rfl, hb, hcl, hrx, hat⟩ := hR.out.at_ hx
    have hat' : wr.rangeAt b (o + i * 7) c1_ := fun j u hj => (hbx.cell (p := ⟨b, o + i * 7 + j, none⟩) hb).trans (hat j u hj)
    clear hat
    have hsx : fsz x ≤ 1000000000 := by have := fsz_mem (List.mem_of_getElem? hx); omega
    obtain ⟨ff, rfl, hrr⟩ := hrx
    obtain ⟨f1, r1, q1, d1, rfl, rfl, ⟨s1, rfl, rfl⟩, hrr⟩ := hrr
    obtain ⟨f2, r2, q2, d2, rfl, rfl, ⟨gg, hv2⟩, hrr⟩ := hrr
    obtain ⟨rfl, rfl⟩ := hrr
    rw [fsz_fL] at hsx
    have hs2 : fsz f2 ≤ 1000000000 := by have := fsz_mem (l := [fS s1, f2]) (f := f2) (by simp); omega
    have hvl := val_rvl gg _ _ _ _ hv2 hs2
    clear hv2
    have hu2 := firstE_drop (l := m.map varV) (i := i) (x := varV (fL [fS s1, f2])) (by rw [List.getElem?_map, hx]; rfl)
    rw [varV_mk] at hu2
    obtain ⟨vk, vb, vi, vs, VA, vn, vc, VA2, vn2, vc2, rfl⟩ := vl_form hvl
    have hvl2 : RVl gg wr (fun b => b < wr.heap.size) (vl1 f2) _ := RVl_ok gg _ _ _ _ _ _ (fun p hp => hbx.cell hp) (fun b hb => Nat.lt_of_lt_of_le hb hbx.size) hvl
    clear hvl
    have y0 : wr.cell? ⟨b, o + i * 7, none⟩ = some (.string s1) := hat' 0 _ rfl
    have y1 : wr.cell? ⟨b, o + i * 7 + 1, none⟩ = some (.int .i64 vk) := hat' 1 _ rfl
    have y2 : wr.cell? ⟨b, o + i * 7 + 2, none⟩ = some (.bool vb) := hat' 2 _ rfl
    have y3 : wr.cell? ⟨b, o + i * 7 + 3, none⟩ = some (.int .i64 vi) := hat' 3 _ rfl
    have y4 : wr.cell? ⟨b, o + i * 7 + 4, none⟩ = some (.string vs) := hat' 4 _ rfl
    have y5 : wr.cell? ⟨b, o + i * 7 + 5, none⟩ = some (.slice VA vn vc) := hat' 5 _ rfl
    have y6 : wr.cell? ⟨b, o + i * 7 + 6, none⟩ = some (.slice VA2 vn2 vc2) := hat' 6 _ rfl
    clear hat'
    rw [hu2] at hu
    clear hu2
    generalize hcode : validV (vl1 f2) = code at hu
    replace hcode := Lib.hid hcode
    have i1 : (0 : Int) ≤ (i : Int) := by omega
    have i2 : (i : Int) < (m.length : Int) := by omega
    repeat' (first | go_skip | go_guarded | go_step)
    refine (rvalidV_any gg (vl1 f2) vk vb vi vs VA vn vc VA2 vn2 vc2 wr hvl2).mono ?_
    rintro e w6 ⟨rfl, hb6⟩
    dsimp only
    rw [hcode.out]
    have hbz : Below w3.heap.size w3 w6 := hbr.trans (hb6.mono hbr.size)
    clear hb6 hvl2 y0 y1 y2 y3 y4 y5 y6
    by_cases hz : code = 0
    ·subst hz
     rw [if_neg (by decide)] at hu
     have c12' : w6.cell? ⟨w.heap.size, 12, none⟩ = some (.slice (some ⟨b, o, none⟩) m.length c) := (same_at hbr hbz (p := ⟨w.heap.size, 12, none⟩) hlt3).trans c12
     clear c12
     have i3 : IntKind.i64.wrap ((i : Int) + 1) = (i : Int) + 1 := IntWalk.i64_in _ (by omega)
     repeat' (first | go_skip | go_guarded | go_step)
     go_roundw
     case rel => exact ⟨i + 1, by omega, by congr 1, hbz, hu⟩
     case measure => simp [intOf]; omega
    ·rw [if_pos hz] at hu
     have z1 : (code == 0) = false := by simpa using hz
     have z2 : (code != 0) = true := by simpa using hz
     clear hz
     repeat' (first | go_skip | go_guarded | go_step)
     go_ret
     exact ⟨by rw [hu] <;> rfl, hbw.trans (hbz.mono hbw.size)⟩
   ·rw [List.drop_of_length_le (by rw [List.length_map]; omega)] at hu
    repeat' (first | go_skip | go_guarded | go_step)
    go_ret
    exact ⟨by rw [hu] <;> rfl, hbx⟩
end Go.Proofs.YtgdapkglofchjaaGreatDoor
