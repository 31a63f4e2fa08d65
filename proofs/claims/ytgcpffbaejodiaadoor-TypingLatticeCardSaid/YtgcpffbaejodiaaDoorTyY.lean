/- Typing: the checks of a value without its elements. -/
import Derived.Test.YtgcpffbaejodiaaDoorTyU
import Derived.Test.YtgcpffbaejodiaaDoorCmpW
import Derived.Test.YtgcpffbaejodiaaDoorTyChk
namespace Go.Proofs.YtgcpffbaejodiaaDoor
open Go.RowKit
/-- the error of a value without its elements, of its parts -/
def ownZ (f : Nat) (k : Int) (b : Bool) (i : Int) (s : ByteArray) (n n2 : Nat) (a : Bool) : Int :=
 if f = 0 then 13
 else if k < 0 ∨ 5 < k ∨ unusedZ k b i s n n2 = false then 1
 else if i < -9007199254740992 ∨ 9007199254740992 < i then 2
 else if 4096 < s.size ∨ 1024 < n ∨ 1024 < n2 then 3
 else if k = 5 ∧ (decide (n2 = n) && a) = false then 1
 else if (k = 4 ∨ k = 5) ∧ n = 0 ∧ f = 1 then 13
 else 0
theorem own_z (f : Nat) (k : Int) (b : Bool) (i : Int) (s : ByteArray) (l : List Vl) (ks : List ByteArray) : ownV f (.mk k b i s l ks) = ownZ f k b i s l.length ks.length (ascK none ks) := rfl
def prevK (ks : List ByteArray) (i : Nat) : Option ByteArray := if i = 0 then none else ks[i - 1]?
theorem prevK_zero (ks : List ByteArray) : prevK ks 0 = none := rfl
theorem prevK_succ (ks : List ByteArray) (i : Nat) : prevK ks (i + 1) = ks[i]? := by unfold prevK; rw [if_neg (by omega)]; rfl
theorem ascK_cons (p : Option ByteArray) (k : ByteArray) (r : List ByteArray) : ascK p (k :: r) = (decide (1 ≤ k.size) && (decide (k.size ≤ 64) && ((match p with
  | none => true
  | some q => decide (cmpN q.data.toList k.data.toList < 0)) && ascK (some k) r))) := rfl
theorem seq_str {w : World} {B : Nat} {A : Option Addr} {n : Nat} {ks : List ByteArray} (h : SeqP w (fun b => b < B) 1 A n (ks.map Value.string)) (hn : 0 < n) : ∃ b o, A = some ⟨b, o, none⟩ ∧ b < B ∧ ∀ (j : Nat) (x : ByteArray), ks[j]? = some x → w.cell? ⟨b, o + j, none⟩ = some (.string x) := by
 obtain ⟨b, o, h1, h2, h3⟩ := h.2 hn
 exact ⟨b, o, h1, h2, fun j x hx => h3 j _ (by rw [List.getElem?_map, hx]; rfl)⟩
set_option maxRecDepth 100000 in
set_option maxHeartbeats 4000000 in
theorem keyed_any (k : Int) (b : Bool) (i : Int) (s : ByteArray) (A : Option Addr) (n c : Nat) (A2 : Option Addr) (n2 c2 : Nat) (ks : List ByteArray) (w : World) (hn2 : n2 = ks.length) (h10 : n2 ≤ 1024) (hs2 : SeqP w (fun b => b < w.heap.size) 1 A2 n2 (ks.map Value.string)) :
  Calls Tryd.prog 64 #[.agg #[.int .i64 k, .bool b, .int .i64 i, .string s, .slice A n c, .slice A2 n2 c2]] w fun e w' => e = .returned (.bool (decide (n2 = n) && ascK none ks)) ∧ Below w.heap.size w w' := by
 obtain ⟨fin, hfin⟩ : ∃ fin, fin = ascK none ks := ⟨_, rfl⟩
 rw [← hfin]
 replace hn2 := Lib.hid hn2
 replace hs2 := Lib.hid hs2
 by_cases hne : n2 = n
 ·
  subst hne
  rw [decide_eq_true rfl, Bool.true_and]
  go_enter Tryd.func64, Tryd.ntmps64
  go_upto_region 1 with (fail)
  generalize hx_ : World.alloc w _ = wo1
  have hO1 : OwnB w wo1 [(w.heap.size, [.int .i64 k, .bool b, .int .i64 i, .string s, .slice A n2 c, .slice A2 n2 c2])] := by rw [← hx_]; exact (OwnB.refl w).new #[.int .i64 k, .bool b, .int .i64 i, .string s, .slice A n2 c, .slice A2 n2 c2] _ (g := w.heap.size)
  clear hx_
  have c0_0 := hO1.c 0 0
  have c0_1 := hO1.c 0 1
  have c0_2 := hO1.c 0 2
  have c0_3 := hO1.c 0 3
  have c0_4 := hO1.c 0 4
  have c0_5 := hO1.c 0 5
  have cf0 := hO1.fr 0
  repeat' ((fail_if_success at_builtin); (first | go_skip | go_guarded | go_step))
  go_loopw [15] (fun u15 wr => ∃ i' : Nat, i' ≤ n2 ∧ u15 = .int .i64 (i' : Int) ∧ OwnB w wr [(w.heap.size, [.int .i64 k, .bool b, .int .i64 i, .string s, .slice A n2 c, .slice A2 n2 c2])] ∧ fin = ascK (prevK ks i') (ks.drop i') ∧ ∀ p, prevK ks i' = some p → p.size ≤ 64) (fun u15 _ => n2 - (intOf u15).toNat)
  case atStart => exact ⟨0, by omega, rfl, hO1, hfin, fun p h => by rw [prevK_zero] at h; cases h⟩
  case round =>
   clear c0_0 c0_1 c0_2 c0_3 c0_4 c0_5 cf0 hO1 hfin
   obtain ⟨i', hi, rfl, hO2, hu, hp⟩ := hrel
   have c0_0 := hO2.c 0 0
   have c0_1 := hO2.c 0 1
   have c0_2 := hO2.c 0 2
   have c0_3 := hO2.c 0 3
   have c0_4 := hO2.c 0 4
   have c0_5 := hO2.c 0 5
   have cf0 := hO2.fr 0
   have i1 : (0 : Int) ≤ (i' : Int) := by omega
   have i2 : IntKind.i64.wrap ((i' : Int) + 1) = ((i' + 1 : Nat) : Int) := by rw [IntWalk.i64_in _ (by omega)]; omega
   have hb4 := hO2.below
   by_cases hlt : i' < n2
   ·
    have i3 : (i' : Int) < (n2 : Int) := by omega
    obtain ⟨kk, hkk⟩ : ∃ kk, ks[i']? = some kk := ⟨_, List.getElem?_eq_getElem (by rw [← hn2.out]; exact hlt)⟩
    obtain ⟨bx, ox, rfl, hbx, hcl⟩ := seq_str hs2.out (by omega)
    have y0 : wr.cell? ⟨bx, ox + i', none⟩ = some (.string kk) := (hb4.cell (p := ⟨bx, ox + i', none⟩) hbx).trans (hcl i' kk hkk)
    have hd : ks.drop i' = kk :: ks.drop (i' + 1) := by
     obtain ⟨h1, h2⟩ := List.getElem?_eq_some_iff.1 hkk
     rw [List.drop_eq_getElem_cons h1, h2]
    rw [hd, ascK_cons] at hu
    have hpn : prevK ks (i' + 1) = some kk := by rw [prevK_succ]; exact hkk
    clear hd
    replace hpn := Lib.hid hpn
    by_cases h1 : 1 ≤ kk.size
    ·
     have g1 : ¬ (kk.size : Int) < 1 := by omega
     rw [decide_eq_true h1, Bool.true_and] at hu
     by_cases h6 : kk.size ≤ 64
     ·
      have g6 : ¬ (64 : Int) < (kk.size : Int) := by omega
      rw [decide_eq_true h6, Bool.true_and] at hu
      by_cases h0 : i' = 0
      ·
       have hpp : prevK ks i' = none := by rw [h0]; rfl
       rw [hpp] at hu
       have hj4 : ¬ (0 : Int) < (i' : Int) := by omega
       have hf : fin = ascK (some kk) (ks.drop (i' + 1)) := by rw [hu]; rfl
       replace hf := Lib.hid hf
       clear hu hp hcl hkk h0 hpp
       repeat' ((fail_if_success at_builtin); (first | go_skip | go_guarded | go_step))
       go_roundw
       case rel => exact ⟨i' + 1, by omega, by first | rfl | go_num, hO2, by rw [hpn.out]; exact hf.out, fun p h => by rw [hpn.out] at h; cases h; exact h6⟩
       case measure => (try go_num); (try simp [intOf]); (try omega)
      ·
       obtain ⟨j, hj⟩ : ∃ j, i' = j + 1 := ⟨i' - 1, by omega⟩
       have hj1 : IntKind.i64.wrap ((i' : Int) - 1) = (j : Int) := by rw [IntWalk.i64_in _ (by omega)]; omega
       have hj2 : (0 : Int) ≤ (j : Int) := by omega
       have hj3 : (j : Int) < (n2 : Int) := by omega
       have hj4 : (0 : Int) < (i' : Int) := by omega
       obtain ⟨pk, hpk⟩ : ∃ pk, ks[j]? = some pk := ⟨_, List.getElem?_eq_getElem (by rw [← hn2.out]; omega)⟩
       have y1 : wr.cell? ⟨bx, ox + j, none⟩ = some (.string pk) := (hb4.cell (p := ⟨bx, ox + j, none⟩) hbx).trans (hcl j pk hpk)
       have hpp : prevK ks i' = some pk := by rw [hj, prevK_succ]; exact hpk
       rw [hpp] at hu
       have hps := hp pk hpp
       have hf : fin = (decide (cmpN pk.data.toList kk.data.toList < 0) && ascK (some kk) (ks.drop (i' + 1))) := hu
       replace hf := Lib.hid hf
       replace hj := Lib.hid hj
       clear hu hp hcl hkk hpp hpk h0
       repeat' ((fail_if_success at_builtin); (first | go_skip | go_guarded | go_step))
       refine (compare_any pk kk _ (by omega) (by omega)).mono ?_
       rintro e w2 ⟨rfl, hb2⟩
       dsimp only
       have hO3 : OwnB w w2 [(w.heap.size, [.int .i64 k, .bool b, .int .i64 i, .string s, .slice A n2 c, .slice (some ⟨bx, ox, none⟩) n2 c2])] := hO2.kept hb2
       clear c0_0 c0_1 c0_2 c0_3 c0_4 c0_5 cf0 hO2
       have c0_0 := hO3.c 0 0
       have c0_1 := hO3.c 0 1
       have c0_2 := hO3.c 0 2
       have c0_3 := hO3.c 0 3
       have c0_4 := hO3.c 0 4
       have c0_5 := hO3.c 0 5
       have cf0 := hO3.fr 0
       generalize hcc : cmpN pk.data.toList kk.data.toList = cc at *
       replace hcc := Lib.hid hcc
       by_cases hc : cc < 0
       ·
        have gc : ¬ (0 : Int) ≤ cc := by omega
        have hf2 : fin = ascK (some kk) (ks.drop (i' + 1)) := by rw [hf.out, decide_eq_true hc, Bool.true_and]
        replace hf2 := Lib.hid hf2
        clear hc
        repeat' ((fail_if_success at_builtin); (first | go_skip | go_guarded | go_step))
        go_roundw
        case rel => exact ⟨i' + 1, by omega, by first | rfl | go_num, hO3, by rw [hpn.out]; exact hf2.out, fun p h => by rw [hpn.out] at h; cases h; exact h6⟩
        case measure => (try go_num); (try simp [intOf]); (try omega)
       ·
        have gc : (0 : Int) ≤ cc := by omega
        have hf2 : fin = false := by rw [hf.out, decide_eq_false hc, Bool.false_and]
        have hbz := hO3.below
        replace hf2 := Lib.hid hf2
        clear hc
        repeat' ((fail_if_success at_builtin); (first | go_skip | go_guarded | go_step))
        go_ret
        exact ⟨ret_b (by rw [hf2.out]), hbz⟩
     ·
      have g6 : (64 : Int) < (kk.size : Int) := by omega
      rw [decide_eq_false h6, Bool.false_and] at hu
      have hf := Lib.hid hu
      clear hu hp hcl hkk h6
      repeat' ((fail_if_success at_builtin); (first | go_skip | go_guarded | go_step))
      go_ret
      exact ⟨ret_b (by rw [hf.out]), hb4⟩
    ·
     have g1 : (kk.size : Int) < 1 := by omega
     rw [decide_eq_false h1, Bool.false_and] at hu
     have hf := Lib.hid hu
     clear hu hp hcl hkk h1
     repeat' ((fail_if_success at_builtin); (first | go_skip | go_guarded | go_step))
     go_ret
     exact ⟨ret_b (by rw [hf.out]), hb4⟩
   ·
    obtain rfl : i' = n2 := by omega
    have i3 : ¬ (i' : Int) < (i' : Int) := by omega
    have hf : fin = true := by rw [hu, List.drop_of_length_le (by rw [← hn2.out]; exact Nat.le_refl _)]; cases prevK ks i' <;> rfl
    replace hf := Lib.hid hf
    clear hu hp
    repeat' ((fail_if_success at_builtin); (first | go_skip | go_guarded | go_step))
    go_ret
    exact ⟨ret_b (by rw [hf.out]), hb4⟩
 ·
  rw [decide_eq_false hne, Bool.false_and]
  have gn : ((n2 : Int) == (n : Int)) = false := by simp; omega
  clear hne hfin
  go_enter Tryd.func64, Tryd.ntmps64
  go_upto_region 1 with (fail)
  generalize hx_ : World.alloc w _ = wo1
  have hO1 : OwnB w wo1 [(w.heap.size, [.int .i64 k, .bool b, .int .i64 i, .string s, .slice A n c, .slice A2 n2 c2])] := by rw [← hx_]; exact (OwnB.refl w).new #[.int .i64 k, .bool b, .int .i64 i, .string s, .slice A n c, .slice A2 n2 c2] _ (g := w.heap.size)
  clear hx_
  have c0_0 := hO1.c 0 0
  have c0_1 := hO1.c 0 1
  have c0_2 := hO1.c 0 2
  have c0_3 := hO1.c 0 3
  have c0_4 := hO1.c 0 4
  have c0_5 := hO1.c 0 5
  have cf0 := hO1.fr 0
  have hb := hO1.below
  repeat' ((fail_if_success at_builtin); (first | go_skip | go_guarded | go_step))
  go_ret
  exact ⟨rfl, hb⟩
set_option maxRecDepth 100000 in
set_option maxHeartbeats 4000000 in
theorem node_any (k : Int) (b : Bool) (i : Int) (s : ByteArray) (A : Option Addr) (n c : Nat) (A2 : Option Addr) (n2 c2 : Nat) (ks : List ByteArray) (lvl : Int) (w : World) (hn2 : n2 = ks.length) (hs2 : SeqP w (fun b => b < w.heap.size) 1 A2 n2 (ks.map Value.string)) :
  Calls Tryd.prog 54 #[.agg #[.int .i64 k, .bool b, .int .i64 i, .string s, .slice A n c, .slice A2 n2 c2], .int .i64 lvl] w fun e w' => e = .returned (.int .i64 (ownZ (17 - lvl).toNat k b i s n n2 (ascK none ks))) ∧ Below w.heap.size w w' := by
 obtain ⟨fin, hfin⟩ : ∃ fin, fin = ownZ (17 - lvl).toNat k b i s n n2 (ascK none ks) := ⟨_, rfl⟩
 rw [← hfin]
 have hu := hfin
 clear hfin
 unfold ownZ at hu
 replace hu := Lib.hid hu
 replace hn2 := Lib.hid hn2
 replace hs2 := Lib.hid hs2
 by_cases hk5 : k = 5
 ·
  subst hk5
  go_enter Tryd.func54, Tryd.ntmps54
  go_upto_region 1 with (fail)
  generalize hx_ : World.alloc w _ = wo1
  have hO1 : OwnB w wo1 [(w.heap.size, [.int .i64 5, .bool b, .int .i64 i, .string s, .slice A n c, .slice A2 n2 c2])] := by rw [← hx_]; exact (OwnB.refl w).new #[.int .i64 5, .bool b, .int .i64 i, .string s, .slice A n c, .slice A2 n2 c2] _ (g := w.heap.size)
  clear hx_
  have c0_0 := hO1.c 0 0
  have c0_1 := hO1.c 0 1
  have c0_2 := hO1.c 0 2
  have c0_3 := hO1.c 0 3
  have c0_4 := hO1.c 0 4
  have c0_5 := hO1.c 0 5
  have cf0 := hO1.fr 0
  by_cases hl : (16 : Int) < lvl
  ·
   have hf : fin = 13 := by rw [hu.out, if_pos (by omega)]
   replace hf := Lib.hid hf
   clear hu
   have hb := hO1.below
   repeat' ((fail_if_success at_builtin); (first | go_skip | go_guarded | go_step))
   go_ret
   exact ⟨ret_i6 hf.out.symm, hb⟩
  repeat' ((fail_if_success at_builtin); (first | go_skip | go_guarded | go_step))
  refine (unused_any 5 b i s A n c A2 n2 c2 _).mono ?_
  rintro e w2 ⟨rfl, hb2⟩
  dsimp only
  have hO2 : OwnB w w2 [(w.heap.size, [.int .i64 5, .bool b, .int .i64 i, .string s, .slice A n c, .slice A2 n2 c2])] := hO1.kept hb2
  clear c0_0 c0_1 c0_2 c0_3 c0_4 c0_5 cf0 hO1
  have c0_0 := hO2.c 0 0
  have c0_1 := hO2.c 0 1
  have c0_2 := hO2.c 0 2
  have c0_3 := hO2.c 0 3
  have c0_4 := hO2.c 0 4
  have c0_5 := hO2.c 0 5
  have cf0 := hO2.fr 0
  generalize hun : unusedZ 5 b i s n n2 = un at *
  replace hun := Lib.hid hun
  cases un with
  | false =>
   have hf : fin = 1 := by rw [hu.out, if_neg (by omega), if_pos (by right; right; rfl)]
   replace hf := Lib.hid hf
   clear hu
   have hb := hO2.below
   repeat' ((fail_if_success at_builtin); (first | go_skip | go_guarded | go_step))
   go_ret
   exact ⟨ret_i6 hf.out.symm, hb⟩
  | true =>
   by_cases h1 : i < -9007199254740992
   ·
    have hf : fin = 2 := by rw [hu.out, if_neg (by omega), if_neg (by simp), if_pos (by omega)]
    replace hf := Lib.hid hf
    clear hu
    have hb := hO2.below
    repeat' ((fail_if_success at_builtin); (first | go_skip | go_guarded | go_step))
    go_ret
    exact ⟨ret_i6 hf.out.symm, hb⟩
   by_cases h2 : 9007199254740992 < i
   ·
    have hf : fin = 2 := by rw [hu.out, if_neg (by omega), if_neg (by simp), if_pos (by omega)]
    replace hf := Lib.hid hf
    clear hu
    have hb := hO2.below
    repeat' ((fail_if_success at_builtin); (first | go_skip | go_guarded | go_step))
    go_ret
    exact ⟨ret_i6 hf.out.symm, hb⟩
   by_cases h3 : 4096 < s.size
   ·
    have g3 : (4096 : Int) < (s.size : Int) := by omega
    have hf : fin = 3 := by rw [hu.out, if_neg (by omega), if_neg (by simp), if_neg (by omega), if_pos (by omega)]
    replace hf := Lib.hid hf
    clear hu
    have hb := hO2.below
    repeat' ((fail_if_success at_builtin); (first | go_skip | go_guarded | go_step))
    go_ret
    exact ⟨ret_i6 hf.out.symm, hb⟩
   have g3 : ¬ (4096 : Int) < (s.size : Int) := by omega
   by_cases h4 : 1024 < n
   ·
    have g4 : (1024 : Int) < (n : Int) := by omega
    have hf : fin = 3 := by rw [hu.out, if_neg (by omega), if_neg (by simp), if_neg (by omega), if_pos (by omega)]
    replace hf := Lib.hid hf
    clear hu
    have hb := hO2.below
    repeat' ((fail_if_success at_builtin); (first | go_skip | go_guarded | go_step))
    go_ret
    exact ⟨ret_i6 hf.out.symm, hb⟩
   have g4 : ¬ (1024 : Int) < (n : Int) := by omega
   by_cases h5 : 1024 < n2
   ·
    have g5 : (1024 : Int) < (n2 : Int) := by omega
    have hf : fin = 3 := by rw [hu.out, if_neg (by omega), if_neg (by simp), if_neg (by omega), if_pos (by omega)]
    replace hf := Lib.hid hf
    clear hu
    have hb := hO2.below
    repeat' ((fail_if_success at_builtin); (first | go_skip | go_guarded | go_step))
    go_ret
    exact ⟨ret_i6 hf.out.symm, hb⟩
   have g5 : ¬ (1024 : Int) < (n2 : Int) := by omega
   have hs3 : SeqP w2 (fun b => b < w2.heap.size) 1 A2 n2 (ks.map Value.string) := hs2.out.map (fun _ hp => hO2.below.cell hp) (fun _ hp => Nat.lt_of_lt_of_le hp hO2.below.size)
   replace hs3 := Lib.hid hs3
   repeat' ((fail_if_success at_builtin); (first | go_skip | go_guarded | go_step))
   refine (keyed_any 5 b i s A n c A2 n2 c2 ks _ hn2.out (by omega) hs3.out).mono ?_
   rintro e w3 ⟨rfl, hb3⟩
   dsimp only
   have hO3 : OwnB w w3 [(w.heap.size, [.int .i64 5, .bool b, .int .i64 i, .string s, .slice A n c, .slice A2 n2 c2])] := hO2.kept hb3
   clear c0_0 c0_1 c0_2 c0_3 c0_4 c0_5 cf0 hO2
   have c0_0 := hO3.c 0 0
   have c0_1 := hO3.c 0 1
   have c0_2 := hO3.c 0 2
   have c0_3 := hO3.c 0 3
   have c0_4 := hO3.c 0 4
   have c0_5 := hO3.c 0 5
   have cf0 := hO3.fr 0
   generalize hky : (decide (n2 = n) && ascK none ks) = ky at *
   replace hky := Lib.hid hky
   cases ky with
   | false =>
    have hf : fin = 1 := by rw [hu.out, if_neg (by omega), if_neg (by simp), if_neg (by omega), if_neg (by omega), if_pos ⟨rfl, rfl⟩]
    replace hf := Lib.hid hf
    clear hu
    have hb := hO3.below
    repeat' ((fail_if_success at_builtin); (first | go_skip | go_guarded | go_step))
    go_ret
    exact ⟨ret_i6 hf.out.symm, hb⟩
   | true =>
    by_cases h0 : n = 0
    ·
     subst h0
     by_cases hl2 : lvl = 16
     ·
      subst hl2
      have hf : fin = 13 := by rw [hu.out, if_neg (by omega), if_neg (by simp), if_neg (by omega), if_neg (by omega), if_neg (by simp), if_pos (by omega)]
      replace hf := Lib.hid hf
      clear hu
      have hb := hO3.below
      repeat' ((fail_if_success at_builtin); (first | go_skip | go_guarded | go_step))
      go_ret
      exact ⟨ret_i6 hf.out.symm, hb⟩
     ·
      have gl : (lvl == 16) = false := by simpa using hl2
      have hf : fin = 0 := by rw [hu.out, if_neg (by omega), if_neg (by simp), if_neg (by omega), if_neg (by omega), if_neg (by simp), if_neg (by omega)]
      replace hf := Lib.hid hf
      clear hu
      have hb := hO3.below
      repeat' ((fail_if_success at_builtin); (first | go_skip | go_guarded | go_step))
      go_ret
      exact ⟨ret_i6 hf.out.symm, hb⟩
    ·
     have g0 : ((n : Int) == 0) = false := by simp; omega
     have hf : fin = 0 := by rw [hu.out, if_neg (by omega), if_neg (by simp), if_neg (by omega), if_neg (by omega), if_neg (by simp), if_neg (by omega)]
     replace hf := Lib.hid hf
     clear hu
     have hb := hO3.below
     repeat' ((fail_if_success at_builtin); (first | go_skip | go_guarded | go_step))
     go_ret
     exact ⟨ret_i6 hf.out.symm, hb⟩
 by_cases hk4 : k = 4
 ·
  subst hk4
  go_enter Tryd.func54, Tryd.ntmps54
  go_upto_region 1 with (fail)
  generalize hx_ : World.alloc w _ = wo1
  have hO1 : OwnB w wo1 [(w.heap.size, [.int .i64 4, .bool b, .int .i64 i, .string s, .slice A n c, .slice A2 n2 c2])] := by rw [← hx_]; exact (OwnB.refl w).new #[.int .i64 4, .bool b, .int .i64 i, .string s, .slice A n c, .slice A2 n2 c2] _ (g := w.heap.size)
  clear hx_
  have c0_0 := hO1.c 0 0
  have c0_1 := hO1.c 0 1
  have c0_2 := hO1.c 0 2
  have c0_3 := hO1.c 0 3
  have c0_4 := hO1.c 0 4
  have c0_5 := hO1.c 0 5
  have cf0 := hO1.fr 0
  by_cases hl : (16 : Int) < lvl
  ·
   have hf : fin = 13 := by rw [hu.out, if_pos (by omega)]
   replace hf := Lib.hid hf
   clear hu
   have hb := hO1.below
   repeat' ((fail_if_success at_builtin); (first | go_skip | go_guarded | go_step))
   go_ret
   exact ⟨ret_i6 hf.out.symm, hb⟩
  repeat' ((fail_if_success at_builtin); (first | go_skip | go_guarded | go_step))
  refine (unused_any 4 b i s A n c A2 n2 c2 _).mono ?_
  rintro e w2 ⟨rfl, hb2⟩
  dsimp only
  have hO2 : OwnB w w2 [(w.heap.size, [.int .i64 4, .bool b, .int .i64 i, .string s, .slice A n c, .slice A2 n2 c2])] := hO1.kept hb2
  clear c0_0 c0_1 c0_2 c0_3 c0_4 c0_5 cf0 hO1
  have c0_0 := hO2.c 0 0
  have c0_1 := hO2.c 0 1
  have c0_2 := hO2.c 0 2
  have c0_3 := hO2.c 0 3
  have c0_4 := hO2.c 0 4
  have c0_5 := hO2.c 0 5
  have cf0 := hO2.fr 0
  generalize hun : unusedZ 4 b i s n n2 = un at *
  replace hun := Lib.hid hun
  cases un with
  | false =>
   have hf : fin = 1 := by rw [hu.out, if_neg (by omega), if_pos (by right; right; rfl)]
   replace hf := Lib.hid hf
   clear hu
   have hb := hO2.below
   repeat' ((fail_if_success at_builtin); (first | go_skip | go_guarded | go_step))
   go_ret
   exact ⟨ret_i6 hf.out.symm, hb⟩
  | true =>
   by_cases h1 : i < -9007199254740992
   ·
    have hf : fin = 2 := by rw [hu.out, if_neg (by omega), if_neg (by simp), if_pos (by omega)]
    replace hf := Lib.hid hf
    clear hu
    have hb := hO2.below
    repeat' ((fail_if_success at_builtin); (first | go_skip | go_guarded | go_step))
    go_ret
    exact ⟨ret_i6 hf.out.symm, hb⟩
   by_cases h2 : 9007199254740992 < i
   ·
    have hf : fin = 2 := by rw [hu.out, if_neg (by omega), if_neg (by simp), if_pos (by omega)]
    replace hf := Lib.hid hf
    clear hu
    have hb := hO2.below
    repeat' ((fail_if_success at_builtin); (first | go_skip | go_guarded | go_step))
    go_ret
    exact ⟨ret_i6 hf.out.symm, hb⟩
   by_cases h3 : 4096 < s.size
   ·
    have g3 : (4096 : Int) < (s.size : Int) := by omega
    have hf : fin = 3 := by rw [hu.out, if_neg (by omega), if_neg (by simp), if_neg (by omega), if_pos (by omega)]
    replace hf := Lib.hid hf
    clear hu
    have hb := hO2.below
    repeat' ((fail_if_success at_builtin); (first | go_skip | go_guarded | go_step))
    go_ret
    exact ⟨ret_i6 hf.out.symm, hb⟩
   have g3 : ¬ (4096 : Int) < (s.size : Int) := by omega
   by_cases h4 : 1024 < n
   ·
    have g4 : (1024 : Int) < (n : Int) := by omega
    have hf : fin = 3 := by rw [hu.out, if_neg (by omega), if_neg (by simp), if_neg (by omega), if_pos (by omega)]
    replace hf := Lib.hid hf
    clear hu
    have hb := hO2.below
    repeat' ((fail_if_success at_builtin); (first | go_skip | go_guarded | go_step))
    go_ret
    exact ⟨ret_i6 hf.out.symm, hb⟩
   have g4 : ¬ (1024 : Int) < (n : Int) := by omega
   by_cases h5 : 1024 < n2
   ·
    have g5 : (1024 : Int) < (n2 : Int) := by omega
    have hf : fin = 3 := by rw [hu.out, if_neg (by omega), if_neg (by simp), if_neg (by omega), if_pos (by omega)]
    replace hf := Lib.hid hf
    clear hu
    have hb := hO2.below
    repeat' ((fail_if_success at_builtin); (first | go_skip | go_guarded | go_step))
    go_ret
    exact ⟨ret_i6 hf.out.symm, hb⟩
   have g5 : ¬ (1024 : Int) < (n2 : Int) := by omega
   by_cases h0 : n = 0
   ·
    subst h0
    by_cases hl2 : lvl = 16
    ·
     subst hl2
     have hf : fin = 13 := by rw [hu.out, if_neg (by omega), if_neg (by simp), if_neg (by omega), if_neg (by omega), if_neg (by omega), if_pos (by omega)]
     replace hf := Lib.hid hf
     clear hu
     have hb := hO2.below
     repeat' ((fail_if_success at_builtin); (first | go_skip | go_guarded | go_step))
     go_ret
     exact ⟨ret_i6 hf.out.symm, hb⟩
    ·
     have gl : (lvl == 16) = false := by simpa using hl2
     have hf : fin = 0 := by rw [hu.out, if_neg (by omega), if_neg (by simp), if_neg (by omega), if_neg (by omega), if_neg (by omega), if_neg (by omega)]
     replace hf := Lib.hid hf
     clear hu
     have hb := hO2.below
     repeat' ((fail_if_success at_builtin); (first | go_skip | go_guarded | go_step))
     go_ret
     exact ⟨ret_i6 hf.out.symm, hb⟩
   ·
    have g0 : ((n : Int) == 0) = false := by simp; omega
    have hf : fin = 0 := by rw [hu.out, if_neg (by omega), if_neg (by simp), if_neg (by omega), if_neg (by omega), if_neg (by omega), if_neg (by omega)]
    replace hf := Lib.hid hf
    clear hu
    have hb := hO2.below
    repeat' ((fail_if_success at_builtin); (first | go_skip | go_guarded | go_step))
    go_ret
    exact ⟨ret_i6 hf.out.symm, hb⟩
 have e4 : (k == 4) = false := by simpa using hk4
 have e5 : (k == 5) = false := by simpa using hk5
 go_enter Tryd.func54, Tryd.ntmps54
 go_upto_region 1 with (fail)
 generalize hx_ : World.alloc w _ = wo1
 have hO1 : OwnB w wo1 [(w.heap.size, [.int .i64 k, .bool b, .int .i64 i, .string s, .slice A n c, .slice A2 n2 c2])] := by rw [← hx_]; exact (OwnB.refl w).new #[.int .i64 k, .bool b, .int .i64 i, .string s, .slice A n c, .slice A2 n2 c2] _ (g := w.heap.size)
 clear hx_
 have c0_0 := hO1.c 0 0
 have c0_1 := hO1.c 0 1
 have c0_2 := hO1.c 0 2
 have c0_3 := hO1.c 0 3
 have c0_4 := hO1.c 0 4
 have c0_5 := hO1.c 0 5
 have cf0 := hO1.fr 0
 by_cases hl : (16 : Int) < lvl
 ·
  have hf : fin = 13 := by rw [hu.out, if_pos (by omega)]
  replace hf := Lib.hid hf
  clear hu
  have hb := hO1.below
  repeat' ((fail_if_success at_builtin); (first | go_skip | go_guarded | go_step))
  go_ret
  exact ⟨ret_i6 hf.out.symm, hb⟩
 by_cases hk0 : k < 0
 ·
  have hf : fin = 1 := by rw [hu.out, if_neg (by omega), if_pos (by omega)]
  replace hf := Lib.hid hf
  clear hu
  have hb := hO1.below
  repeat' ((fail_if_success at_builtin); (first | go_skip | go_guarded | go_step))
  go_ret
  exact ⟨ret_i6 hf.out.symm, hb⟩
 by_cases hk6 : 5 < k
 ·
  have hf : fin = 1 := by rw [hu.out, if_neg (by omega), if_pos (by omega)]
  replace hf := Lib.hid hf
  clear hu
  have hb := hO1.below
  repeat' ((fail_if_success at_builtin); (first | go_skip | go_guarded | go_step))
  go_ret
  exact ⟨ret_i6 hf.out.symm, hb⟩
 repeat' ((fail_if_success at_builtin); (first | go_skip | go_guarded | go_step))
 refine (unused_any k b i s A n c A2 n2 c2 _).mono ?_
 rintro e w2 ⟨rfl, hb2⟩
 dsimp only
 have hO2 : OwnB w w2 [(w.heap.size, [.int .i64 k, .bool b, .int .i64 i, .string s, .slice A n c, .slice A2 n2 c2])] := hO1.kept hb2
 clear c0_0 c0_1 c0_2 c0_3 c0_4 c0_5 cf0 hO1
 have c0_0 := hO2.c 0 0
 have c0_1 := hO2.c 0 1
 have c0_2 := hO2.c 0 2
 have c0_3 := hO2.c 0 3
 have c0_4 := hO2.c 0 4
 have c0_5 := hO2.c 0 5
 have cf0 := hO2.fr 0
 generalize hun : unusedZ k b i s n n2 = un at *
 replace hun := Lib.hid hun
 cases un with
 | false =>
  have hf : fin = 1 := by rw [hu.out, if_neg (by omega), if_pos (by right; right; rfl)]
  replace hf := Lib.hid hf
  clear hu
  have hb := hO2.below
  repeat' ((fail_if_success at_builtin); (first | go_skip | go_guarded | go_step))
  go_ret
  exact ⟨ret_i6 hf.out.symm, hb⟩
 | true =>
  by_cases h1 : i < -9007199254740992
  ·
   have hf : fin = 2 := by rw [hu.out, if_neg (by omega), if_neg (by simp; omega), if_pos (by omega)]
   replace hf := Lib.hid hf
   clear hu
   have hb := hO2.below
   repeat' ((fail_if_success at_builtin); (first | go_skip | go_guarded | go_step))
   go_ret
   exact ⟨ret_i6 hf.out.symm, hb⟩
  by_cases h2 : 9007199254740992 < i
  ·
   have hf : fin = 2 := by rw [hu.out, if_neg (by omega), if_neg (by simp; omega), if_pos (by omega)]
   replace hf := Lib.hid hf
   clear hu
   have hb := hO2.below
   repeat' ((fail_if_success at_builtin); (first | go_skip | go_guarded | go_step))
   go_ret
   exact ⟨ret_i6 hf.out.symm, hb⟩
  by_cases h3 : 4096 < s.size
  ·
   have g3 : (4096 : Int) < (s.size : Int) := by omega
   have hf : fin = 3 := by rw [hu.out, if_neg (by omega), if_neg (by simp; omega), if_neg (by omega), if_pos (by omega)]
   replace hf := Lib.hid hf
   clear hu
   have hb := hO2.below
   repeat' ((fail_if_success at_builtin); (first | go_skip | go_guarded | go_step))
   go_ret
   exact ⟨ret_i6 hf.out.symm, hb⟩
  have g3 : ¬ (4096 : Int) < (s.size : Int) := by omega
  by_cases h4 : 1024 < n
  ·
   have g4 : (1024 : Int) < (n : Int) := by omega
   have hf : fin = 3 := by rw [hu.out, if_neg (by omega), if_neg (by simp; omega), if_neg (by omega), if_pos (by omega)]
   replace hf := Lib.hid hf
   clear hu
   have hb := hO2.below
   repeat' ((fail_if_success at_builtin); (first | go_skip | go_guarded | go_step))
   go_ret
   exact ⟨ret_i6 hf.out.symm, hb⟩
  have g4 : ¬ (1024 : Int) < (n : Int) := by omega
  by_cases h5 : 1024 < n2
  ·
   have g5 : (1024 : Int) < (n2 : Int) := by omega
   have hf : fin = 3 := by rw [hu.out, if_neg (by omega), if_neg (by simp; omega), if_neg (by omega), if_pos (by omega)]
   replace hf := Lib.hid hf
   clear hu
   have hb := hO2.below
   repeat' ((fail_if_success at_builtin); (first | go_skip | go_guarded | go_step))
   go_ret
   exact ⟨ret_i6 hf.out.symm, hb⟩
  have g5 : ¬ (1024 : Int) < (n2 : Int) := by omega
  have hf : fin = 0 := by rw [hu.out, if_neg (by omega), if_neg (by simp; omega), if_neg (by omega), if_neg (by omega), if_neg (by omega), if_neg (by omega)]
  replace hf := Lib.hid hf
  clear hu
  have hb := hO2.below
  repeat' ((fail_if_success at_builtin); (first | go_skip | go_guarded | go_step))
  go_ret
  exact ⟨ret_i6 hf.out.symm, hb⟩
end Go.Proofs.YtgcpffbaejodiaaDoor
