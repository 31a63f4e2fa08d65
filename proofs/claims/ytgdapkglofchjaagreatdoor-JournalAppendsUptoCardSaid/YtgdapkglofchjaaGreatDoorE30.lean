/- Joined: TyAs. -/
import Derived.Test.YtgdapkglofchjaaGreatDoorE11
import Derived.Test.YtgdapkglofchjaaGreatDoorE29
set_option maxRecDepth 100000
set_option maxHeartbeats 4000000
set_option linter.unusedVariables false
namespace Go.Proofs.YtgdapkglofchjaaGreatDoor
open Go.RowKit
theorem asc_any (k : Int) (b : Bool) (i : Int) (s : ByteArray) (A : Option Addr) (n c : Nat) (A2 : Option Addr) (n2 c2 : Nat) (ks : List ByteArray) (w : World) (hn2 : n2 = ks.length) (h10 : n2 ≤ 1024) (hs2 : SeqP w (fun b => b < w.heap.size) 1 A2 n2 (ks.map Value.string)) :
  Calls Tryz.prog 100 #[.agg #[.int .i64 k, .bool b, .int .i64 i, .string s, .slice A n c, .slice A2 n2 c2]] w fun e w' => e = .returned (.bool (decide (n2 = n) && ascK none ks)) ∧ Below w.heap.size w w' := by
 obtain ⟨fin, hfin⟩ : ∃ fin, fin = ascK none ks := ⟨_, rfl⟩
 rw [← hfin]
 replace hn2 := Lib.hid hn2
 replace hs2 := Lib.hid hs2
 go_enter Tryz.func100, Tryz.ntmps100
 go_upto_region 1 with (fail)
 generalize hx_ : World.alloc w _ = wo1
 have hO1 : OwnB w wo1 [(w.heap.size, [.int .i64 k, .bool b, .int .i64 i, .string s, .slice A n c, .slice A2 n2 c2])] := by rw [← hx_]; exact (OwnB.refl w).new #[.int .i64 k, .bool b, .int .i64 i, .string s, .slice A n c, .slice A2 n2 c2] _ (g := w.heap.size)
 clear hx_
 have c0_0 := hO1.c 0 0
 have c0_1 := hO1.c 0 1
 have c0_2 := hO1.c 0 2
 have c0_3 := hO1.c 0 3
 have c0_4 := hO1.c 0 4
 have c0_5 := hO1.c 0 5
 have cf0 := hO1.fr 0
 repeat' (first | go_skip | go_guarded | go_step)
 go_loopw [3] (fun u3 wr => ∃ i' : Nat, i' ≤ n2 ∧ u3 = .int .i64 (i' : Int) ∧ OwnB w wr [(w.heap.size, [.int .i64 k, .bool b, .int .i64 i, .string s, .slice A n c, .slice A2 n2 c2])] ∧ fin = ascK (prevK ks i') (ks.drop i') ∧ ∀ p, prevK ks i' = some p → p.size ≤ 64) (fun u3 _ => n2 - (intOf u3).toNat)
 case atStart => exact ⟨0, by omega, rfl, hO1, hfin, fun p h => by rw [prevK_zero] at h; cases h⟩
 case round =>
  clear c0_0 c0_1 c0_2 c0_3 c0_4 c0_5 cf0 hO1 hfin
  obtain ⟨i', hi, rfl, hO2, hu, hp⟩ := hrel
  have c0_0 := hO2.c 0 0
  have c0_1 := hO2.c 0 1
  have c0_2 := hO2.c 0 2
  have c0_3 := hO2.c 0 3
  have c0_4 := hO2.c 0 4
  have c0_5 := hO2.c 0 5
  have cf0 := hO2.fr 0
  have i1 : (0 : Int) ≤ (i' : Int) := by omega
  have i2 : IntKind.i64.wrap ((i' : Int) + 1) = ((i' + 1 : Nat) : Int) := by rw [IntWalk.i64_in _ (by omega)]; omega
  have hb4 := hO2.below
  by_cases hlt : i' < n2
  ·have i3 : (i' : Int) < (n2 : Int) := by omega
   obtain ⟨kk, hkk⟩ : ∃ kk, ks[i']? = some kk := ⟨_, List.getElem?_eq_getElem (by rw [← hn2.out]; exact hlt)⟩
   obtain ⟨bx, ox, rfl, hbx, hcl⟩ := seq_str hs2.out (by omega)
   have hd : ks.drop i' = kk :: ks.drop (i' + 1) := by
    obtain ⟨h1, h2⟩ := List.getElem?_eq_some_iff.1 hkk
    rw [List.drop_eq_getElem_cons h1, h2]
   rw [hd, ascK_cons] at hu
   have hpn : prevK ks (i' + 1) = some kk := by rw [prevK_succ]; exact hkk
   clear hd
   replace hpn := Lib.hid hpn
   have CK := fun w' => key_any kk w'
   by_cases h1 : 1 ≤ kk.size ∧ kk.size ≤ 64
   ·obtain ⟨h1, h6⟩ := h1
    rw [decide_eq_true h1, Bool.true_and, decide_eq_true h6, Bool.true_and] at hu
    simp only [decide_eq_true h1, decide_eq_true h6, Bool.and_self] at CK
    replace CK := Lib.hid CK
    by_cases h0 : i' = 0
    ·have hpp : prevK ks i' = none := by rw [h0]; rfl
     rw [hpp] at hu
     have hj4 : ¬ (0 : Int) < (i' : Int) := by omega
     have hj5 : ¬ 0 < i' := by omega
     have hf : fin = ascK (some kk) (ks.drop (i' + 1)) := by rw [hu]; rfl
     replace hf := Lib.hid hf
     have keepS : ∀ v1 v2 : World, (OwnB w v1 [(w.heap.size, [.int .i64 k, .bool b, .int .i64 i, .string s, .slice A n c, .slice (some ⟨bx, ox, none⟩) n2 c2])] ∧ v1.cell? ⟨w.heap.size, 5, none⟩ = some (.slice (some ⟨bx, ox, none⟩) n2 c2) ∧ v1.cell? ⟨bx, ox + i', none⟩ = some (.string kk)) → Below v1.heap.size v1 v2 → (OwnB w v2 [(w.heap.size, [.int .i64 k, .bool b, .int .i64 i, .string s, .slice A n c, .slice (some ⟨bx, ox, none⟩) n2 c2])] ∧ v2.cell? ⟨w.heap.size, 5, none⟩ = some (.slice (some ⟨bx, ox, none⟩) n2 c2) ∧ v2.cell? ⟨bx, ox + i', none⟩ = some (.string kk)) := fun v1 v2 h hb => ⟨h.1.kept hb, (h.1.kept hb).c 0 5, ((h.1.kept hb).below.cell (p := ⟨bx, ox + i', none⟩) hbx).trans (hcl i' kk hkk)⟩
     have hS1 : (OwnB w wr.drew [(w.heap.size, [.int .i64 k, .bool b, .int .i64 i, .string s, .slice A n c, .slice (some ⟨bx, ox, none⟩) n2 c2])] ∧ wr.drew.cell? ⟨w.heap.size, 5, none⟩ = some (.slice (some ⟨bx, ox, none⟩) n2 c2) ∧ wr.drew.cell? ⟨bx, ox + i', none⟩ = some (.string kk)) := ⟨hO2.kept ((Below.refl _ _).drew), (hO2.kept ((Below.refl _ _).drew)).c 0 5, ((hO2.kept ((Below.refl _ _).drew)).below.cell (p := ⟨bx, ox + i', none⟩) hbx).trans (hcl i' kk hkk)⟩
     replace keepS := Lib.hid keepS
     clear hu hp hcl hkk h0 hpp
     go_upto_region 4 with (fail)
     refine wp_region_held_drew (S := fun w' => OwnB w w' [(w.heap.size, [.int .i64 k, .bool b, .int .i64 i, .string s, .slice A n c, .slice (some ⟨bx, ox, none⟩) n2 c2])] ∧ w'.cell? ⟨w.heap.size, 5, none⟩ = some (.slice (some ⟨bx, ox, none⟩) n2 c2) ∧ w'.cell? ⟨bx, ox + i', none⟩ = some (.string kk)) (by kernel_rfl) ?_ (fun hHeld => ?_)
     ·(try dsimp only)
      exact hS1
     refine tkY 0 (v := ?v18) rfl (.inl ⟨by rfl, ?hy18⟩) ?rest18
     case hy18 => (intro w hSw; (try dsimp only at hSw); go_simp; try with_reducible rfl)
     simp only [Act.put, List.getElem_toArray, List.getElem_cons_zero, List.setIfInBounds_toArray, List.set_cons_zero, List.set_cons_succ]
     refine tkY 1 (v := ?v19) rfl (.inl ⟨by rfl, ?hy19⟩) ?rest19
     case hy19 => (intro w hSw; (try dsimp only at hSw); go_simp; try with_reducible rfl)
     simp only [Act.put, Z1, Z2, Z3, Z4, Z5, Z6]
     refine tkY 2 (v := ?v20) rfl (.inl ⟨by rfl, ?hy20⟩) ?rest20
     case hy20 => (intro w hSw; (try dsimp only at hSw); go_simp; try with_reducible rfl)
     simp only [Act.put, Z1, Z2, Z3, Z4, Z5, Z6]
     refine tkY 3 (v := ?v21) rfl (.inl ⟨by rfl, ?hy21⟩) ?rest21
     case hy21 => (intro w hSw; (try dsimp only at hSw); go_simp; try with_reducible rfl)
     simp only [Act.put, Z1, Z2, Z3, Z4, Z5, Z6]
     refine tkY 4 (v := ?v22) rfl (.inl ⟨by rfl, ?hy22⟩) ?rest22
     case hy22 => (intro w hSw; (try dsimp only at hSw); go_simp; try with_reducible rfl)
     simp only [Act.put, Z1, Z2, Z3, Z4, Z5, Z6]
     refine wpAnyH_ready (rs := [5]) (by kernel_rfl) (by simp) ?_
     refine AllReadyH.cons rfl (fun K hK => ?_) AllReadyH.nil
     go_simp
     go_at_call 131
     refine (CK.out _).mono ?_
     rintro e w7 ⟨rfl, rfl⟩
     dsimp only
     refine hK.out _ _ ?_ (fun hHeld => ?_)
     ·(try dsimp only)
      first | exact hHeld | exact keepS.out _ _ hHeld hbq
     clear hK K
     try simp only [Act.put, Z1, Z2, Z3, Z4, Z5, Z6]
     refine tkY 6 (v := ?v23) rfl (.inl ⟨by rfl, ?hy23⟩) ?rest23
     case hy23 => (intro w hSw; (try dsimp only at hSw); go_simp; try with_reducible rfl)
     simp only [Act.put, Z1, Z2, Z3, Z4, Z5, Z6]
     refine tkY 7 (v := ?v24) rfl (.inl ⟨by rfl, ?hy24⟩) ?rest24
     case hy24 => (intro w hSw; (try dsimp only at hSw); go_simp; try with_reducible rfl)
     simp only [Act.put, Z1, Z2, Z3, Z4, Z5, Z6]
     refine tkY 8 (v := ?v25) rfl (.inl ⟨by rfl, ?hy25⟩) ?rest25
     case hy25 => (intro w hSw; (try dsimp only at hSw); go_simp; try with_reducible rfl)
     simp only [Act.put, Z1, Z2, Z3, Z4, Z5, Z6]
     refine tkY 9 (v := ?v26) rfl (.inl ⟨by rfl, ?hy26⟩) ?rest26
     case hy26 => (intro w hSw; (try dsimp only at hSw); go_simp; try with_reducible rfl)
     simp only [Act.put, Z1, Z2, Z3, Z4, Z5, Z6]
     refine tkY 10 (v := ?v27) rfl (.inl ⟨by rfl, ?hy27⟩) ?rest27
     case hy27 => (intro w hSw; (try dsimp only at hSw); go_simp; try with_reducible rfl)
     simp only [Act.put, Z1, Z2, Z3, Z4, Z5, Z6]
     refine tkN 11 rfl ?_
     simp only [Act.put, Z1, Z2, Z3, Z4, Z5, Z6]
     refine tkN 12 rfl ?_
     simp only [Act.put, Z1, Z2, Z3, Z4, Z5, Z6]
     refine tkN 13 rfl ?_
     simp only [Act.put, Z1, Z2, Z3, Z4, Z5, Z6]
     refine tkN 14 rfl ?_
     simp only [Act.put, Z1, Z2, Z3, Z4, Z5, Z6]
     refine tkN 15 rfl ?_
     simp only [Act.put, Z1, Z2, Z3, Z4, Z5, Z6]
     refine tkN 16 rfl ?_
     simp only [Act.put, Z1, Z2, Z3, Z4, Z5, Z6]
     refine tkN 17 rfl ?_
     simp only [Act.put, Z1, Z2, Z3, Z4, Z5, Z6]
     refine tkN 18 rfl ?_
     simp only [Act.put, Z1, Z2, Z3, Z4, Z5, Z6]
     refine tkN 19 rfl ?_
     simp only [Act.put, Z1, Z2, Z3, Z4, Z5, Z6]
     refine tkN 20 rfl ?_
     simp only [Act.put, Z1, Z2, Z3, Z4, Z5, Z6]
     refine tkN 21 rfl ?_
     simp only [Act.put, Z1, Z2, Z3, Z4, Z5, Z6]
     refine tkN 22 rfl ?_
     simp only [Act.put, Z1, Z2, Z3, Z4, Z5, Z6]
     refine tkN 23 rfl ?_
     simp only [Act.put, Z1, Z2, Z3, Z4, Z5, Z6]
     refine tkY 24 (v := ?v28) rfl (.inl ⟨by rfl, ?hy28⟩) ?rest28
     case hy28 => (intro w hSw; (try dsimp only at hSw); go_simp; try with_reducible rfl)
     simp only [Act.put, Z1, Z2, Z3, Z4, Z5, Z6]
     refine tkY 25 (v := ?v29) rfl (.inl ⟨by rfl, ?hy29⟩) ?rest29
     case hy29 => (intro w hSw; (try dsimp only at hSw); go_simp; try with_reducible rfl)
     simp only [Act.put, Z1, Z2, Z3, Z4, Z5, Z6]
     refine wpAnyH_done (by kernel_rfl) ?_ _
     have hO9 := hHeld.1
     repeat' (first | go_skip | go_guarded | go_step)
     go_roundw
     case rel => exact ⟨i' + 1, by omega, by first | rfl | go_num, hO9, by rw [hpn.out]; exact hf.out, fun p h => by rw [hpn.out] at h; cases h; exact h6⟩
     case measure => (try go_num); (try simp [intOf]); (try omega)
    ·obtain ⟨j, hj⟩ : ∃ j, i' = j + 1 := ⟨i' - 1, by omega⟩
     have hj1 : IntKind.i64.wrap ((i' : Int) - 1) = (j : Int) := by rw [IntWalk.i64_in _ (by omega)]; omega
     have hj2 : (0 : Int) ≤ (j : Int) := by omega
     have hj3 : (j : Int) < (n2 : Int) := by omega
     have hj4 : (0 : Int) < (i' : Int) := by omega
     have hj5 : 0 < i' := by omega
     obtain ⟨pk, hpk⟩ : ∃ pk, ks[j]? = some pk := ⟨_, List.getElem?_eq_getElem (by rw [← hn2.out]; omega)⟩
     have hpp : prevK ks i' = some pk := by rw [hj, prevK_succ]; exact hpk
     rw [hpp] at hu
     have hps := hp pk hpp
     have hf : fin = (decide (cmpN pk.data.toList kk.data.toList < 0) && ascK (some kk) (ks.drop (i' + 1))) := hu
     have CC := fun w' => refCompare_any pk kk w' (by omega) (by omega)
     replace hj := Lib.hid hj
     have keepS : ∀ v1 v2 : World, (OwnB w v1 [(w.heap.size, [.int .i64 k, .bool b, .int .i64 i, .string s, .slice A n c, .slice (some ⟨bx, ox, none⟩) n2 c2])] ∧ v1.cell? ⟨w.heap.size, 5, none⟩ = some (.slice (some ⟨bx, ox, none⟩) n2 c2) ∧ v1.cell? ⟨bx, ox + i', none⟩ = some (.string kk) ∧ v1.cell? ⟨bx, ox + j, none⟩ = some (.string pk)) → Below v1.heap.size v1 v2 → (OwnB w v2 [(w.heap.size, [.int .i64 k, .bool b, .int .i64 i, .string s, .slice A n c, .slice (some ⟨bx, ox, none⟩) n2 c2])] ∧ v2.cell? ⟨w.heap.size, 5, none⟩ = some (.slice (some ⟨bx, ox, none⟩) n2 c2) ∧ v2.cell? ⟨bx, ox + i', none⟩ = some (.string kk) ∧ v2.cell? ⟨bx, ox + j, none⟩ = some (.string pk)) := fun v1 v2 h hb => ⟨h.1.kept hb, (h.1.kept hb).c 0 5, ((h.1.kept hb).below.cell (p := ⟨bx, ox + i', none⟩) hbx).trans (hcl i' kk hkk), ((h.1.kept hb).below.cell (p := ⟨bx, ox + j, none⟩) hbx).trans (hcl j pk hpk)⟩
     have hS1 : (OwnB w wr.drew [(w.heap.size, [.int .i64 k, .bool b, .int .i64 i, .string s, .slice A n c, .slice (some ⟨bx, ox, none⟩) n2 c2])] ∧ wr.drew.cell? ⟨w.heap.size, 5, none⟩ = some (.slice (some ⟨bx, ox, none⟩) n2 c2) ∧ wr.drew.cell? ⟨bx, ox + i', none⟩ = some (.string kk) ∧ wr.drew.cell? ⟨bx, ox + j, none⟩ = some (.string pk)) := ⟨hO2.kept ((Below.refl _ _).drew), (hO2.kept ((Below.refl _ _).drew)).c 0 5, ((hO2.kept ((Below.refl _ _).drew)).below.cell (p := ⟨bx, ox + i', none⟩) hbx).trans (hcl i' kk hkk), ((hO2.kept ((Below.refl _ _).drew)).below.cell (p := ⟨bx, ox + j, none⟩) hbx).trans (hcl j pk hpk)⟩
     replace keepS := Lib.hid keepS
     clear hu hp hcl hkk hpp hpk h0
     generalize hcc : cmpN pk.data.toList kk.data.toList = cc at *
     replace hcc := Lib.hid hcc
     replace CC := Lib.hid CC
     replace hf := Lib.hid hf
     by_cases hc : cc < 0
     ·have gc : ¬ (0 : Int) ≤ cc := by omega
      have hf2 : fin = ascK (some kk) (ks.drop (i' + 1)) := by rw [hf.out, decide_eq_true hc, Bool.true_and]
      replace hf2 := Lib.hid hf2
      clear hc
      go_upto_region 4 with (fail)
      refine wp_region_held_drew (S := fun w' => OwnB w w' [(w.heap.size, [.int .i64 k, .bool b, .int .i64 i, .string s, .slice A n c, .slice (some ⟨bx, ox, none⟩) n2 c2])] ∧ w'.cell? ⟨w.heap.size, 5, none⟩ = some (.slice (some ⟨bx, ox, none⟩) n2 c2) ∧ w'.cell? ⟨bx, ox + i', none⟩ = some (.string kk) ∧ w'.cell? ⟨bx, ox + j, none⟩ = some (.string pk)) (by kernel_rfl) ?_ (fun hHeld => ?_)
      ·(try dsimp only)
       exact hS1
      refine tkY 0 (v := ?v30) rfl (.inl ⟨by rfl, ?hy30⟩) ?rest30
      case hy30 => (intro w hSw; (try dsimp only at hSw); go_simp; try with_reducible rfl)
      simp only [Act.put, List.getElem_toArray, List.getElem_cons_zero, List.setIfInBounds_toArray, List.set_cons_zero, List.set_cons_succ]
      refine tkY 1 (v := ?v31) rfl (.inl ⟨by rfl, ?hy31⟩) ?rest31
      case hy31 => (intro w hSw; (try dsimp only at hSw); go_simp; try with_reducible rfl)
      simp only [Act.put, Z1, Z2, Z3, Z4, Z5, Z6]
      refine tkY 2 (v := ?v32) rfl (.inl ⟨by rfl, ?hy32⟩) ?rest32
      case hy32 => (intro w hSw; (try dsimp only at hSw); go_simp; try with_reducible rfl)
      simp only [Act.put, Z1, Z2, Z3, Z4, Z5, Z6]
      refine tkY 3 (v := ?v33) rfl (.inl ⟨by rfl, ?hy33⟩) ?rest33
      case hy33 => (intro w hSw; (try dsimp only at hSw); go_simp; try with_reducible rfl)
      simp only [Act.put, Z1, Z2, Z3, Z4, Z5, Z6]
      refine tkY 4 (v := ?v34) rfl (.inl ⟨by rfl, ?hy34⟩) ?rest34
      case hy34 => (intro w hSw; (try dsimp only at hSw); go_simp; try with_reducible rfl)
      simp only [Act.put, Z1, Z2, Z3, Z4, Z5, Z6]
      refine wpAnyH_ready (rs := [5]) (by kernel_rfl) (by simp) ?_
      refine AllReadyH.cons rfl (fun K hK => ?_) AllReadyH.nil
      go_simp
      go_at_call 131
      refine (CK.out _).mono ?_
      rintro e w7 ⟨rfl, rfl⟩
      dsimp only
      refine hK.out _ _ ?_ (fun hHeld => ?_)
      ·(try dsimp only)
       first | exact hHeld | exact keepS.out _ _ hHeld hbq
      clear hK K
      try simp only [Act.put, Z1, Z2, Z3, Z4, Z5, Z6]
      refine tkY 6 (v := ?v35) rfl (.inl ⟨by rfl, ?hy35⟩) ?rest35
      case hy35 => (intro w hSw; (try dsimp only at hSw); go_simp; try with_reducible rfl)
      simp only [Act.put, Z1, Z2, Z3, Z4, Z5, Z6]
      refine tkY 7 (v := ?v36) rfl (.inl ⟨by rfl, ?hy36⟩) ?rest36
      case hy36 => (intro w hSw; (try dsimp only at hSw); go_simp; try with_reducible rfl)
      simp only [Act.put, Z1, Z2, Z3, Z4, Z5, Z6]
      refine tkY 8 (v := ?v37) rfl (.inl ⟨by rfl, ?hy37⟩) ?rest37
      case hy37 => (intro w hSw; (try dsimp only at hSw); go_simp; try with_reducible rfl)
      simp only [Act.put, Z1, Z2, Z3, Z4, Z5, Z6]
      refine tkY 9 (v := ?v38) rfl (.inl ⟨by rfl, ?hy38⟩) ?rest38
      case hy38 => (intro w hSw; (try dsimp only at hSw); go_simp; try with_reducible rfl)
      simp only [Act.put, Z1, Z2, Z3, Z4, Z5, Z6]
      refine tkY 10 (v := ?v39) rfl (.inl ⟨by rfl, ?hy39⟩) ?rest39
      case hy39 => (intro w hSw; (try dsimp only at hSw); go_simp; try with_reducible rfl)
      simp only [Act.put, Z1, Z2, Z3, Z4, Z5, Z6]
      refine tkY 11 (v := ?v40) rfl (.inl ⟨by rfl, ?hy40⟩) ?rest40
      case hy40 => (intro w hSw; (try dsimp only at hSw); go_simp; try with_reducible rfl)
      simp only [Act.put, Z1, Z2, Z3, Z4, Z5, Z6]
      refine tkY 12 (v := ?v41) rfl (.inl ⟨by rfl, ?hy41⟩) ?rest41
      case hy41 => (intro w hSw; (try dsimp only at hSw); go_simp; try with_reducible rfl)
      simp only [Act.put, Z1, Z2, Z3, Z4, Z5, Z6]
      refine tkY 13 (v := ?v42) rfl (.inl ⟨by rfl, ?hy42⟩) ?rest42
      case hy42 => (intro w hSw; (try dsimp only at hSw); go_simp; try with_reducible rfl)
      simp only [Act.put, Z1, Z2, Z3, Z4, Z5, Z6]
      refine tkY 14 (v := ?v43) rfl (.inl ⟨by rfl, ?hy43⟩) ?rest43
      case hy43 => (intro w hSw; (try dsimp only at hSw); go_simp; try with_reducible rfl)
      simp only [Act.put, Z1, Z2, Z3, Z4, Z5, Z6]
      refine tkY 15 (v := ?v44) rfl (.inl ⟨by rfl, ?hy44⟩) ?rest44
      case hy44 => (intro w hSw; (try dsimp only at hSw); go_simp; try with_reducible rfl)
      simp only [Act.put, Z1, Z2, Z3, Z4, Z5, Z6]
      refine tkY 16 (v := ?v45) rfl (.inl ⟨by rfl, ?hy45⟩) ?rest45
      case hy45 => (intro w hSw; (try dsimp only at hSw); go_simp; try with_reducible rfl)
      simp only [Act.put, Z1, Z2, Z3, Z4, Z5, Z6]
      refine tkY 17 (v := ?v46) rfl (.inl ⟨by rfl, ?hy46⟩) ?rest46
      case hy46 => (intro w hSw; (try dsimp only at hSw); go_simp; try with_reducible rfl)
      simp only [Act.put, Z1, Z2, Z3, Z4, Z5, Z6]
      refine tkY 18 (v := ?v47) rfl (.inl ⟨by rfl, ?hy47⟩) ?rest47
      case hy47 => (intro w hSw; (try dsimp only at hSw); go_simp; try with_reducible rfl)
      simp only [Act.put, Z1, Z2, Z3, Z4, Z5, Z6]
      refine tkY 19 (v := ?v48) rfl (.inl ⟨by rfl, ?hy48⟩) ?rest48
      case hy48 => (intro w hSw; (try dsimp only at hSw); go_simp; try with_reducible rfl)
      simp only [Act.put, Z1, Z2, Z3, Z4, Z5, Z6]
      refine tkY 20 (v := ?v49) rfl (.inl ⟨by rfl, ?hy49⟩) ?rest49
      case hy49 => (intro w hSw; (try dsimp only at hSw); go_simp; try with_reducible rfl)
      simp only [Act.put, Z1, Z2, Z3, Z4, Z5, Z6]
      refine tkY 21 (v := ?v50) rfl (.inl ⟨by rfl, ?hy50⟩) ?rest50
      case hy50 => (intro w hSw; (try dsimp only at hSw); go_simp; try with_reducible rfl)
      simp only [Act.put, Z1, Z2, Z3, Z4, Z5, Z6]
      refine wpAnyH_ready (rs := [22]) (by kernel_rfl) (by simp) ?_
      refine AllReadyH.cons rfl (fun K hK => ?_) AllReadyH.nil
      go_simp
      go_at_call 132
      refine (CC.out _).mono ?_
      rintro e w7 ⟨rfl, hbq⟩
      dsimp only
      refine hK.out _ _ ?_ (fun hHeld => ?_)
      ·(try dsimp only)
       first | exact hHeld | exact keepS.out _ _ hHeld hbq
      clear hK K
      try simp only [Act.put, Z1, Z2, Z3, Z4, Z5, Z6]
      refine tkY 23 (v := ?v51) rfl (.inl ⟨by rfl, ?hy51⟩) ?rest51
      case hy51 => (intro w hSw; (try dsimp only at hSw); go_simp; try with_reducible rfl)
      simp only [Act.put, Z1, Z2, Z3, Z4, Z5, Z6]
      refine tkY 24 (v := ?v52) rfl (.inl ⟨by rfl, ?hy52⟩) ?rest52
      case hy52 => (intro w hSw; (try dsimp only at hSw); go_simp; try with_reducible rfl)
      simp only [Act.put, Z1, Z2, Z3, Z4, Z5, Z6]
      refine tkY 25 (v := ?v53) rfl (.inl ⟨by rfl, ?hy53⟩) ?rest53
      case hy53 => (intro w hSw; (try dsimp only at hSw); go_simp; try with_reducible rfl)
      simp only [Act.put, Z1, Z2, Z3, Z4, Z5, Z6]
      refine wpAnyH_done (by kernel_rfl) ?_ _
      have hO9 := hHeld.1
      repeat' (first | go_skip | go_guarded | go_step)
      go_roundw
      case rel => exact ⟨i' + 1, by omega, by first | rfl | go_num, hO9, by rw [hpn.out]; exact hf2.out, fun p h => by rw [hpn.out] at h; cases h; exact h6⟩
      case measure => (try go_num); (try simp [intOf]); (try omega)
     ·have gc : (0 : Int) ≤ cc := by omega
      have hf2 : fin = false := by rw [hf.out, decide_eq_false hc, Bool.false_and]
      replace hf2 := Lib.hid hf2
      clear hc
      go_upto_region 4 with (fail)
      refine wp_region_held_drew (S := fun w' => OwnB w w' [(w.heap.size, [.int .i64 k, .bool b, .int .i64 i, .string s, .slice A n c, .slice (some ⟨bx, ox, none⟩) n2 c2])] ∧ w'.cell? ⟨w.heap.size, 5, none⟩ = some (.slice (some ⟨bx, ox, none⟩) n2 c2) ∧ w'.cell? ⟨bx, ox + i', none⟩ = some (.string kk) ∧ w'.cell? ⟨bx, ox + j, none⟩ = some (.string pk)) (by kernel_rfl) ?_ (fun hHeld => ?_)
      ·(try dsimp only)
       exact hS1
      refine tkY 0 (v := ?v54) rfl (.inl ⟨by rfl, ?hy54⟩) ?rest54
      case hy54 => (intro w hSw; (try dsimp only at hSw); go_simp; try with_reducible rfl)
      simp only [Act.put, List.getElem_toArray, List.getElem_cons_zero, List.setIfInBounds_toArray, List.set_cons_zero, List.set_cons_succ]
      refine tkY 1 (v := ?v55) rfl (.inl ⟨by rfl, ?hy55⟩) ?rest55
      case hy55 => (intro w hSw; (try dsimp only at hSw); go_simp; try with_reducible rfl)
      simp only [Act.put, Z1, Z2, Z3, Z4, Z5, Z6]
      refine tkY 2 (v := ?v56) rfl (.inl ⟨by rfl, ?hy56⟩) ?rest56
      case hy56 => (intro w hSw; (try dsimp only at hSw); go_simp; try with_reducible rfl)
      simp only [Act.put, Z1, Z2, Z3, Z4, Z5, Z6]
      refine tkY 3 (v := ?v57) rfl (.inl ⟨by rfl, ?hy57⟩) ?rest57
      case hy57 => (intro w hSw; (try dsimp only at hSw); go_simp; try with_reducible rfl)
      simp only [Act.put, Z1, Z2, Z3, Z4, Z5, Z6]
      refine tkY 4 (v := ?v58) rfl (.inl ⟨by rfl, ?hy58⟩) ?rest58
      case hy58 => (intro w hSw; (try dsimp only at hSw); go_simp; try with_reducible rfl)
      simp only [Act.put, Z1, Z2, Z3, Z4, Z5, Z6]
      refine wpAnyH_ready (rs := [5]) (by kernel_rfl) (by simp) ?_
      refine AllReadyH.cons rfl (fun K hK => ?_) AllReadyH.nil
      go_simp
      go_at_call 131
      refine (CK.out _).mono ?_
      rintro e w7 ⟨rfl, rfl⟩
      dsimp only
      refine hK.out _ _ ?_ (fun hHeld => ?_)
      ·(try dsimp only)
       first | exact hHeld | exact keepS.out _ _ hHeld hbq
      clear hK K
      try simp only [Act.put, Z1, Z2, Z3, Z4, Z5, Z6]
      refine tkY 6 (v := ?v59) rfl (.inl ⟨by rfl, ?hy59⟩) ?rest59
      case hy59 => (intro w hSw; (try dsimp only at hSw); go_simp; try with_reducible rfl)
      simp only [Act.put, Z1, Z2, Z3, Z4, Z5, Z6]
      refine tkY 7 (v := ?v60) rfl (.inl ⟨by rfl, ?hy60⟩) ?rest60
      case hy60 => (intro w hSw; (try dsimp only at hSw); go_simp; try with_reducible rfl)
      simp only [Act.put, Z1, Z2, Z3, Z4, Z5, Z6]
      refine tkY 8 (v := ?v61) rfl (.inl ⟨by rfl, ?hy61⟩) ?rest61
      case hy61 => (intro w hSw; (try dsimp only at hSw); go_simp; try with_reducible rfl)
      simp only [Act.put, Z1, Z2, Z3, Z4, Z5, Z6]
      refine tkY 9 (v := ?v62) rfl (.inl ⟨by rfl, ?hy62⟩) ?rest62
      case hy62 => (intro w hSw; (try dsimp only at hSw); go_simp; try with_reducible rfl)
      simp only [Act.put, Z1, Z2, Z3, Z4, Z5, Z6]
      refine tkY 10 (v := ?v63) rfl (.inl ⟨by rfl, ?hy63⟩) ?rest63
      case hy63 => (intro w hSw; (try dsimp only at hSw); go_simp; try with_reducible rfl)
      simp only [Act.put, Z1, Z2, Z3, Z4, Z5, Z6]
      refine tkY 11 (v := ?v64) rfl (.inl ⟨by rfl, ?hy64⟩) ?rest64
      case hy64 => (intro w hSw; (try dsimp only at hSw); go_simp; try with_reducible rfl)
      simp only [Act.put, Z1, Z2, Z3, Z4, Z5, Z6]
      refine tkY 12 (v := ?v65) rfl (.inl ⟨by rfl, ?hy65⟩) ?rest65
      case hy65 => (intro w hSw; (try dsimp only at hSw); go_simp; try with_reducible rfl)
      simp only [Act.put, Z1, Z2, Z3, Z4, Z5, Z6]
      refine tkY 13 (v := ?v66) rfl (.inl ⟨by rfl, ?hy66⟩) ?rest66
      case hy66 => (intro w hSw; (try dsimp only at hSw); go_simp; try with_reducible rfl)
      simp only [Act.put, Z1, Z2, Z3, Z4, Z5, Z6]
      refine tkY 14 (v := ?v67) rfl (.inl ⟨by rfl, ?hy67⟩) ?rest67
      case hy67 => (intro w hSw; (try dsimp only at hSw); go_simp; try with_reducible rfl)
      simp only [Act.put, Z1, Z2, Z3, Z4, Z5, Z6]
      refine tkY 15 (v := ?v68) rfl (.inl ⟨by rfl, ?hy68⟩) ?rest68
      case hy68 => (intro w hSw; (try dsimp only at hSw); go_simp; try with_reducible rfl)
      simp only [Act.put, Z1, Z2, Z3, Z4, Z5, Z6]
      refine tkY 16 (v := ?v69) rfl (.inl ⟨by rfl, ?hy69⟩) ?rest69
      case hy69 => (intro w hSw; (try dsimp only at hSw); go_simp; try with_reducible rfl)
      simp only [Act.put, Z1, Z2, Z3, Z4, Z5, Z6]
      refine tkY 17 (v := ?v70) rfl (.inl ⟨by rfl, ?hy70⟩) ?rest70
      case hy70 => (intro w hSw; (try dsimp only at hSw); go_simp; try with_reducible rfl)
      simp only [Act.put, Z1, Z2, Z3, Z4, Z5, Z6]
      refine tkY 18 (v := ?v71) rfl (.inl ⟨by rfl, ?hy71⟩) ?rest71
      case hy71 => (intro w hSw; (try dsimp only at hSw); go_simp; try with_reducible rfl)
      simp only [Act.put, Z1, Z2, Z3, Z4, Z5, Z6]
      refine tkY 19 (v := ?v72) rfl (.inl ⟨by rfl, ?hy72⟩) ?rest72
      case hy72 => (intro w hSw; (try dsimp only at hSw); go_simp; try with_reducible rfl)
      simp only [Act.put, Z1, Z2, Z3, Z4, Z5, Z6]
      refine tkY 20 (v := ?v73) rfl (.inl ⟨by rfl, ?hy73⟩) ?rest73
      case hy73 => (intro w hSw; (try dsimp only at hSw); go_simp; try with_reducible rfl)
      simp only [Act.put, Z1, Z2, Z3, Z4, Z5, Z6]
      refine tkY 21 (v := ?v74) rfl (.inl ⟨by rfl, ?hy74⟩) ?rest74
      case hy74 => (intro w hSw; (try dsimp only at hSw); go_simp; try with_reducible rfl)
      simp only [Act.put, Z1, Z2, Z3, Z4, Z5, Z6]
      refine wpAnyH_ready (rs := [22]) (by kernel_rfl) (by simp) ?_
      refine AllReadyH.cons rfl (fun K hK => ?_) AllReadyH.nil
      go_simp
      go_at_call 132
      refine (CC.out _).mono ?_
      rintro e w7 ⟨rfl, hbq⟩
      dsimp only
      refine hK.out _ _ ?_ (fun hHeld => ?_)
      ·(try dsimp only)
       first | exact hHeld | exact keepS.out _ _ hHeld hbq
      clear hK K
      try simp only [Act.put, Z1, Z2, Z3, Z4, Z5, Z6]
      refine tkY 23 (v := ?v75) rfl (.inl ⟨by rfl, ?hy75⟩) ?rest75
      case hy75 => (intro w hSw; (try dsimp only at hSw); go_simp; try with_reducible rfl)
      simp only [Act.put, Z1, Z2, Z3, Z4, Z5, Z6]
      refine tkY 24 (v := ?v76) rfl (.inl ⟨by rfl, ?hy76⟩) ?rest76
      case hy76 => (intro w hSw; (try dsimp only at hSw); go_simp; try with_reducible rfl)
      simp only [Act.put, Z1, Z2, Z3, Z4, Z5, Z6]
      refine tkY 25 (v := ?v77) rfl (.inl ⟨by rfl, ?hy77⟩) ?rest77
      case hy77 => (intro w hSw; (try dsimp only at hSw); go_simp; try with_reducible rfl)
      simp only [Act.put, Z1, Z2, Z3, Z4, Z5, Z6]
      refine wpAnyH_done (by kernel_rfl) ?_ _
      have hb9 := hHeld.1.below
      repeat' (first | go_skip | go_guarded | go_step)
      go_ret
      exact ⟨ret_b (by rw [hf2.out, Bool.and_false]), hb9⟩
   ·have hkb : (decide (1 ≤ kk.size) && decide (kk.size ≤ 64)) = false := by
     simp only [Bool.and_eq_false_iff, decide_eq_false_iff_not]
     omega
    have hf : fin = false := by rw [hu, ← Bool.and_assoc, hkb, Bool.false_and]
    replace hf := Lib.hid hf
    simp only [hkb] at CK
    replace CK := Lib.hid CK
    have keepS : ∀ v1 v2 : World, (OwnB w v1 [(w.heap.size, [.int .i64 k, .bool b, .int .i64 i, .string s, .slice A n c, .slice (some ⟨bx, ox, none⟩) n2 c2])] ∧ v1.cell? ⟨w.heap.size, 5, none⟩ = some (.slice (some ⟨bx, ox, none⟩) n2 c2) ∧ v1.cell? ⟨bx, ox + i', none⟩ = some (.string kk)) → Below v1.heap.size v1 v2 → (OwnB w v2 [(w.heap.size, [.int .i64 k, .bool b, .int .i64 i, .string s, .slice A n c, .slice (some ⟨bx, ox, none⟩) n2 c2])] ∧ v2.cell? ⟨w.heap.size, 5, none⟩ = some (.slice (some ⟨bx, ox, none⟩) n2 c2) ∧ v2.cell? ⟨bx, ox + i', none⟩ = some (.string kk)) := fun v1 v2 h hb => ⟨h.1.kept hb, (h.1.kept hb).c 0 5, ((h.1.kept hb).below.cell (p := ⟨bx, ox + i', none⟩) hbx).trans (hcl i' kk hkk)⟩
    have hS1 : (OwnB w wr.drew [(w.heap.size, [.int .i64 k, .bool b, .int .i64 i, .string s, .slice A n c, .slice (some ⟨bx, ox, none⟩) n2 c2])] ∧ wr.drew.cell? ⟨w.heap.size, 5, none⟩ = some (.slice (some ⟨bx, ox, none⟩) n2 c2) ∧ wr.drew.cell? ⟨bx, ox + i', none⟩ = some (.string kk)) := ⟨hO2.kept ((Below.refl _ _).drew), (hO2.kept ((Below.refl _ _).drew)).c 0 5, ((hO2.kept ((Below.refl _ _).drew)).below.cell (p := ⟨bx, ox + i', none⟩) hbx).trans (hcl i' kk hkk)⟩
    replace keepS := Lib.hid keepS
    clear hu hp hcl hkk h1 hkb
    go_upto_region 4 with (fail)
    refine wp_region_held_drew (S := fun w' => OwnB w w' [(w.heap.size, [.int .i64 k, .bool b, .int .i64 i, .string s, .slice A n c, .slice (some ⟨bx, ox, none⟩) n2 c2])] ∧ w'.cell? ⟨w.heap.size, 5, none⟩ = some (.slice (some ⟨bx, ox, none⟩) n2 c2) ∧ w'.cell? ⟨bx, ox + i', none⟩ = some (.string kk)) (by kernel_rfl) ?_ (fun hHeld => ?_)
    ·(try dsimp only)
     exact hS1
    refine tkY 0 (v := ?v78) rfl (.inl ⟨by rfl, ?hy78⟩) ?rest78
    case hy78 => (intro w hSw; (try dsimp only at hSw); go_simp; try with_reducible rfl)
    simp only [Act.put, List.getElem_toArray, List.getElem_cons_zero, List.setIfInBounds_toArray, List.set_cons_zero, List.set_cons_succ]
    refine tkY 1 (v := ?v79) rfl (.inl ⟨by rfl, ?hy79⟩) ?rest79
    case hy79 => (intro w hSw; (try dsimp only at hSw); go_simp; try with_reducible rfl)
    simp only [Act.put, Z1, Z2, Z3, Z4, Z5, Z6]
    refine tkY 2 (v := ?v80) rfl (.inl ⟨by rfl, ?hy80⟩) ?rest80
    case hy80 => (intro w hSw; (try dsimp only at hSw); go_simp; try with_reducible rfl)
    simp only [Act.put, Z1, Z2, Z3, Z4, Z5, Z6]
    refine tkY 3 (v := ?v81) rfl (.inl ⟨by rfl, ?hy81⟩) ?rest81
    case hy81 => (intro w hSw; (try dsimp only at hSw); go_simp; try with_reducible rfl)
    simp only [Act.put, Z1, Z2, Z3, Z4, Z5, Z6]
    refine tkY 4 (v := ?v82) rfl (.inl ⟨by rfl, ?hy82⟩) ?rest82
    case hy82 => (intro w hSw; (try dsimp only at hSw); go_simp; try with_reducible rfl)
    simp only [Act.put, Z1, Z2, Z3, Z4, Z5, Z6]
    refine wpAnyH_ready (rs := [5]) (by kernel_rfl) (by simp) ?_
    refine AllReadyH.cons rfl (fun K hK => ?_) AllReadyH.nil
    go_simp
    go_at_call 131
    refine (CK.out _).mono ?_
    rintro e w7 ⟨rfl, rfl⟩
    dsimp only
    refine hK.out _ _ ?_ (fun hHeld => ?_)
    ·(try dsimp only)
     first | exact hHeld | exact keepS.out _ _ hHeld hbq
    clear hK K
    try simp only [Act.put, Z1, Z2, Z3, Z4, Z5, Z6]
    refine tkY 6 (v := ?v83) rfl (.inl ⟨by rfl, ?hy83⟩) ?rest83
    case hy83 => (intro w hSw; (try dsimp only at hSw); go_simp; try with_reducible rfl)
    simp only [Act.put, Z1, Z2, Z3, Z4, Z5, Z6]
    refine tkY 7 (v := ?v84) rfl (.inl ⟨by rfl, ?hy84⟩) ?rest84
    case hy84 => (intro w hSw; (try dsimp only at hSw); go_simp; try with_reducible rfl)
    simp only [Act.put, Z1, Z2, Z3, Z4, Z5, Z6]
    refine tkN 8 rfl ?_
    simp only [Act.put, Z1, Z2, Z3, Z4, Z5, Z6]
    refine tkN 9 rfl ?_
    simp only [Act.put, Z1, Z2, Z3, Z4, Z5, Z6]
    refine tkN 10 rfl ?_
    simp only [Act.put, Z1, Z2, Z3, Z4, Z5, Z6]
    refine tkN 11 rfl ?_
    simp only [Act.put, Z1, Z2, Z3, Z4, Z5, Z6]
    refine tkN 12 rfl ?_
    simp only [Act.put, Z1, Z2, Z3, Z4, Z5, Z6]
    refine tkN 13 rfl ?_
    simp only [Act.put, Z1, Z2, Z3, Z4, Z5, Z6]
    refine tkN 14 rfl ?_
    simp only [Act.put, Z1, Z2, Z3, Z4, Z5, Z6]
    refine tkN 15 rfl ?_
    simp only [Act.put, Z1, Z2, Z3, Z4, Z5, Z6]
    refine tkN 16 rfl ?_
    simp only [Act.put, Z1, Z2, Z3, Z4, Z5, Z6]
    refine tkN 17 rfl ?_
    simp only [Act.put, Z1, Z2, Z3, Z4, Z5, Z6]
    refine tkN 18 rfl ?_
    simp only [Act.put, Z1, Z2, Z3, Z4, Z5, Z6]
    refine tkN 19 rfl ?_
    simp only [Act.put, Z1, Z2, Z3, Z4, Z5, Z6]
    refine tkN 20 rfl ?_
    simp only [Act.put, Z1, Z2, Z3, Z4, Z5, Z6]
    refine tkN 21 rfl ?_
    simp only [Act.put, Z1, Z2, Z3, Z4, Z5, Z6]
    refine tkN 22 rfl ?_
    simp only [Act.put, Z1, Z2, Z3, Z4, Z5, Z6]
    refine tkN 23 rfl ?_
    simp only [Act.put, Z1, Z2, Z3, Z4, Z5, Z6]
    refine tkN 24 rfl ?_
    simp only [Act.put, Z1, Z2, Z3, Z4, Z5, Z6]
    refine tkY 25 (v := ?v85) rfl (.inl ⟨by rfl, ?hy85⟩) ?rest85
    case hy85 => (intro w hSw; (try dsimp only at hSw); go_simp; try with_reducible rfl)
    simp only [Act.put, Z1, Z2, Z3, Z4, Z5, Z6]
    refine wpAnyH_done (by kernel_rfl) ?_ _
    have hb9 := hHeld.1.below
    repeat' (first | go_skip | go_guarded | go_step)
    go_ret
    exact ⟨ret_b (by rw [hf.out, Bool.and_false]), hb9⟩
  ·obtain rfl : i' = n2 := by omega
   have i3 : ¬ (i' : Int) < (i' : Int) := by omega
   have hf : fin = true := by rw [hu, List.drop_of_length_le (by rw [← hn2.out]; exact Nat.le_refl _)]; cases prevK ks i' <;> rfl
   replace hf := Lib.hid hf
   clear hu hp
   by_cases hne : i' = n
   ·subst hne
    repeat' (first | go_skip | go_guarded | go_step)
    go_ret
    exact ⟨ret_b (by rw [hf.out]; simp), hb4⟩
   ·have gn : ((i' : Int) == (n : Int)) = false := by simp; omega
    repeat' (first | go_skip | go_guarded | go_step)
    go_ret
    exact ⟨ret_b (by rw [hf.out]; simp [hne]), hb4⟩
end Go.Proofs.YtgdapkglofchjaaGreatDoor
