/- Joined: JnE JnE2 JnG JnS JnO JnR. -/
import Derived.Test.YtgdapkglofchjaaGreatDoorE6
set_option maxRecDepth 100000
set_option maxHeartbeats 4000000
set_option linter.unusedVariables false
namespace Go.Proofs.YtgdapkglofchjaaGreatDoor
open Go.RowKit
def eqF : Flds → Flds → Bool
 | .nil, .nil => true
 | .cons k x s sub r, .cons k' x' s' sub' r' => (k == k' && (x == x' && (s.toList == s'.toList && eqF sub sub'))) && eqF r r'
 | .nil, .cons _ _ _ _ _ => false
 | .cons _ _ _ _ _, .nil => false
def eq1 (k x : Int) (s : ByteArray) (sub : Flds) (k' x' : Int) (s' : ByteArray) (sub' : Flds) : Bool := k == k' && (x == x' && (s.toList == s'.toList && eqF sub sub'))
theorem eqF_cons (k x : Int) (s : ByteArray) (sub r : Flds) (k' x' : Int) (s' : ByteArray) (sub' r' : Flds) : eqF (.cons k x s sub r) (.cons k' x' s' sub' r') = (eq1 k x s sub k' x' s' sub' && eqF r r') := rfl
theorem ba_eq {s t : ByteArray} (h : s.toList = t.toList) : s = t := by
 rw [ByteArray.toList_eq, ByteArray.toList_eq] at h
 cases s; cases t
 congr 1
 exact Array.toList_inj.1 h
theorem eqF_iff : ∀ f g : Flds, eqF f g = true ↔ f = g
 | .nil, .nil => by simp [eqF]
 | .nil, .cons _ _ _ _ _ => by simp [eqF]
 | .cons _ _ _ _ _, .nil => by simp [eqF]
 | .cons k x s sub r, .cons k' x' s' sub' r' => by
  rw [eqF_cons, eq1]
  simp only [Bool.and_eq_true, beq_iff_eq, eqF_iff sub sub', eqF_iff r r', Flds.cons.injEq]
  constructor
  ·rintro ⟨⟨h1, h2, h3, h4⟩, h5⟩
   exact ⟨h1, h2, ba_eq h3, h4, h5⟩
  ·rintro ⟨h1, h2, h3, h4, h5⟩
   exact ⟨⟨h1, h2, by rw [h3], h4⟩, h5⟩
theorem eqF_len {f g : Flds} (h : f.length ≠ g.length) : eqF f g = false := by
 cases he : eqF f g with
 | false => rfl
 | true => exact absurd (congrArg Flds.length ((eqF_iff f g).1 he)) h
theorem eqF_at {f g : Flds} {i : Nat} {k x k' x' : Int} {s s' : ByteArray} {sub sub' : Flds} (h : f.get? i = some (k, x, s, sub)) (h' : g.get? i = some (k', x', s', sub')) : eqF (f.drop i) (g.drop i) = (eq1 k x s sub k' x' s' sub' && eqF (f.drop (i + 1)) (g.drop (i + 1))) := by
 rw [Flds.drop_get f i h, Flds.drop_get g i h', eqF_cons]
theorem eqF_end {f g : Flds} {i : Nat} (h : f.length ≤ i) (h' : g.length ≤ i) : eqF (f.drop i) (g.drop i) = true := by
 rw [Flds.drop_end f i h, Flds.drop_end g i h']; rfl
def PSame (f : Flds) : Prop := ∀ (g : Flds) (A1 : Option Addr) (c1 : Nat) (cs1 : List Value) (A2 : Option Addr) (c2 : Nat) (cs2 : List Value) (w : World) (B : Nat), B ≤ w.heap.size → Seq w B 4 A1 f.length cs1 → RepF w B f cs1 → Seq w B 4 A2 g.length cs2 → RepF w B g cs2 → f.size ≤ 1000000000 → g.size ≤ 1000000000 →
 Calls Tryz.prog 33 #[.slice A1 f.length c1, .slice A2 g.length c2] w fun e w' => e = .returned (.bool (eqF f g)) ∧ Below w.heap.size w w'
theorem same1_any (k x : Int) (s : ByteArray) (sub : Flds) (k' x' : Int) (s' : ByteArray) (sub' : Flds) (ih : PSame sub) (A3 : Option Addr) (c3 : Nat) (cs3 : List Value) (A4 : Option Addr) (c4 : Nat) (cs4 : List Value) (w : World) (B : Nat) (hB : B ≤ w.heap.size) (hs3 : Seq w B 4 A3 sub.length cs3) (hr3 : RepF w B sub cs3) (hs4 : Seq w B 4 A4 sub'.length cs4) (hr4 : RepF w B sub' cs4) (hz1 : sub.size ≤ 1000000000) (hz2 : sub'.size ≤ 1000000000) :
  Calls Tryz.prog 74 #[.agg #[.int .i64 k, .int .i64 x, .string s, .slice A3 sub.length c3], .agg #[.int .i64 k', .int .i64 x', .string s', .slice A4 sub'.length c4]] w fun e w' => e = .returned (.bool (eq1 k x s sub k' x' s' sub')) ∧ Below w.heap.size w w' := by
 by_cases hk : k = k'
 ·skip
  have q1 : (k == k') = true := by simpa using hk
  have p1 : (k != k') = false := by simpa using hk
  by_cases hx : x = x'
  ·skip
   have q2 : (x == x') = true := by simpa using hx
   have p2 : (x != x') = false := by simpa using hx
   by_cases hs : s.toList = s'.toList
   ·skip
    have q3 : (s.toList == s'.toList) = true := by simpa using hs
    have p3 : (s.toList != s'.toList) = false := by simpa using hs
    clear hk hx hs
    go_enter Tryz.func74, Tryz.ntmps74
    go_upto_region 1 with (fail)
    generalize hx_ : World.alloc (World.alloc w _) _ = wo1
    have hO1 : OwnB w wo1 [(w.heap.size + 1, [.int .i64 k', .int .i64 x', .string s', .slice A4 sub'.length c4]), (w.heap.size, [.int .i64 k, .int .i64 x, .string s, .slice A3 sub.length c3])] := by rw [← hx_]; exact ((OwnB.refl w).new #[.int .i64 k, .int .i64 x, .string s, .slice A3 sub.length c3] _ (g := w.heap.size)).new #[.int .i64 k', .int .i64 x', .string s', .slice A4 sub'.length c4] _ (g := w.heap.size + 1)
    have hbn : Below w.heap.size w wo1 := by rw [← hx_]; exact ((Below.refl _ _).alloc (Nat.le_refl _) _).alloc (by simp) _
    have zwo1 : wo1.heap.size = w.heap.size + 2 := by rw [← hx_]; simp
    clear hx_
    have c0_0 := hO1.c 0 0
    have c0_1 := hO1.c 0 1
    have c0_2 := hO1.c 0 2
    have c0_3 := hO1.c 0 3
    have cf0 := hO1.fr 0
    have c1_0 := hO1.c 1 0
    have c1_1 := hO1.c 1 1
    have c1_2 := hO1.c 1 2
    have c1_3 := hO1.c 1 3
    have cf1 := hO1.fr 1
    clear hbn
    have hb0 := hO1.below
    repeat' (first | go_skip | go_guarded | go_step)
    refine (ih sub' A3 c3 cs3 A4 c4 cs4 wo1 B (Nat.le_trans hB hb0.size) (hs3.below (hb0.mono hB)) (hr3.below (hb0.mono hB)) (hs4.below (hb0.mono hB)) (hr4.below (hb0.mono hB)) hz1 hz2).mono ?_
    rintro e w7 ⟨rfl, hb7⟩
    dsimp only
    repeat' (first | go_skip | go_guarded | go_step)
    go_ret
    exact ⟨ret_b (by unfold eq1; rw [q1, q2, q3]; simp), hb0.trans (hb7.mono hb0.size)⟩
   ·skip
    have q3 : (s.toList == s'.toList) = false := by simpa using hs
    have p3 : (s.toList != s'.toList) = true := by simpa using hs
    clear hk hx hs
    go_enter Tryz.func74, Tryz.ntmps74
    go_upto_region 1 with (fail)
    generalize hx_ : World.alloc (World.alloc w _) _ = wo1
    have hO1 : OwnB w wo1 [(w.heap.size + 1, [.int .i64 k', .int .i64 x', .string s', .slice A4 sub'.length c4]), (w.heap.size, [.int .i64 k, .int .i64 x, .string s, .slice A3 sub.length c3])] := by rw [← hx_]; exact ((OwnB.refl w).new #[.int .i64 k, .int .i64 x, .string s, .slice A3 sub.length c3] _ (g := w.heap.size)).new #[.int .i64 k', .int .i64 x', .string s', .slice A4 sub'.length c4] _ (g := w.heap.size + 1)
    have hbn : Below w.heap.size w wo1 := by rw [← hx_]; exact ((Below.refl _ _).alloc (Nat.le_refl _) _).alloc (by simp) _
    have zwo1 : wo1.heap.size = w.heap.size + 2 := by rw [← hx_]; simp
    clear hx_
    have c0_0 := hO1.c 0 0
    have c0_1 := hO1.c 0 1
    have c0_2 := hO1.c 0 2
    have c0_3 := hO1.c 0 3
    have cf0 := hO1.fr 0
    have c1_0 := hO1.c 1 0
    have c1_1 := hO1.c 1 1
    have c1_2 := hO1.c 1 2
    have c1_3 := hO1.c 1 3
    have cf1 := hO1.fr 1
    clear hbn
    have hb0 := hO1.below
    repeat' (first | go_skip | go_guarded | go_step)
    go_ret
    exact ⟨ret_b (by unfold eq1; rw [q1, q2, q3]; simp), hb0⟩
  ·skip
   have q2 : (x == x') = false := by simpa using hx
   have p2 : (x != x') = true := by simpa using hx
   clear hk hx
   go_enter Tryz.func74, Tryz.ntmps74
   go_upto_region 1 with (fail)
   generalize hx_ : World.alloc (World.alloc w _) _ = wo1
   have hO1 : OwnB w wo1 [(w.heap.size + 1, [.int .i64 k', .int .i64 x', .string s', .slice A4 sub'.length c4]), (w.heap.size, [.int .i64 k, .int .i64 x, .string s, .slice A3 sub.length c3])] := by rw [← hx_]; exact ((OwnB.refl w).new #[.int .i64 k, .int .i64 x, .string s, .slice A3 sub.length c3] _ (g := w.heap.size)).new #[.int .i64 k', .int .i64 x', .string s', .slice A4 sub'.length c4] _ (g := w.heap.size + 1)
   have hbn : Below w.heap.size w wo1 := by rw [← hx_]; exact ((Below.refl _ _).alloc (Nat.le_refl _) _).alloc (by simp) _
   have zwo1 : wo1.heap.size = w.heap.size + 2 := by rw [← hx_]; simp
   clear hx_
   have c0_0 := hO1.c 0 0
   have c0_1 := hO1.c 0 1
   have c0_2 := hO1.c 0 2
   have c0_3 := hO1.c 0 3
   have cf0 := hO1.fr 0
   have c1_0 := hO1.c 1 0
   have c1_1 := hO1.c 1 1
   have c1_2 := hO1.c 1 2
   have c1_3 := hO1.c 1 3
   have cf1 := hO1.fr 1
   clear hbn
   have hb0 := hO1.below
   repeat' (first | go_skip | go_guarded | go_step)
   go_ret
   exact ⟨ret_b (by unfold eq1; rw [q1, q2]; simp), hb0⟩
 ·skip
  have q1 : (k == k') = false := by simpa using hk
  have p1 : (k != k') = true := by simpa using hk
  clear hk
  go_enter Tryz.func74, Tryz.ntmps74
  go_upto_region 1 with (fail)
  generalize hx_ : World.alloc (World.alloc w _) _ = wo1
  have hO1 : OwnB w wo1 [(w.heap.size + 1, [.int .i64 k', .int .i64 x', .string s', .slice A4 sub'.length c4]), (w.heap.size, [.int .i64 k, .int .i64 x, .string s, .slice A3 sub.length c3])] := by rw [← hx_]; exact ((OwnB.refl w).new #[.int .i64 k, .int .i64 x, .string s, .slice A3 sub.length c3] _ (g := w.heap.size)).new #[.int .i64 k', .int .i64 x', .string s', .slice A4 sub'.length c4] _ (g := w.heap.size + 1)
  have hbn : Below w.heap.size w wo1 := by rw [← hx_]; exact ((Below.refl _ _).alloc (Nat.le_refl _) _).alloc (by simp) _
  have zwo1 : wo1.heap.size = w.heap.size + 2 := by rw [← hx_]; simp
  clear hx_
  have c0_0 := hO1.c 0 0
  have c0_1 := hO1.c 0 1
  have c0_2 := hO1.c 0 2
  have c0_3 := hO1.c 0 3
  have cf0 := hO1.fr 0
  have c1_0 := hO1.c 1 0
  have c1_1 := hO1.c 1 1
  have c1_2 := hO1.c 1 2
  have c1_3 := hO1.c 1 3
  have cf1 := hO1.fr 1
  clear hbn
  have hb0 := hO1.below
  repeat' (first | go_skip | go_guarded | go_step)
  go_ret
  exact ⟨ret_b (by unfold eq1; rw [q1]; simp), hb0⟩
theorem eqfunc_any (f : Flds) (ih : ∀ i k x s sub, f.get? i = some (k, x, s, sub) → PSame sub) (g : Flds) (A1 : Option Addr) (c1 : Nat) (cs1 : List Value) (A2 : Option Addr) (c2 : Nat) (cs2 : List Value) (w : World) (B : Nat) (hB : B ≤ w.heap.size) (hs1 : Seq w B 4 A1 f.length cs1) (hr1 : RepF w B f cs1) (hs2 : Seq w B 4 A2 g.length cs2) (hr2 : RepF w B g cs2) (hsz : f.size ≤ 1000000000) (hsz' : g.size ≤ 1000000000) :
  Calls Tryz.prog 73 #[.slice A1 f.length c1, .slice A2 g.length c2, .func (.func 74) #[] #[]] w fun e w' => e = .returned (.bool (eqF f g)) ∧ Below w.heap.size w w' := by
 have hlen := Flds.length_le_size f
 have hlen' := Flds.length_le_size g
 have Ih := Lib.hid ih; clear ih
 by_cases hfg : f.length = g.length
 ·have hn : ((f.length : Int) == (g.length : Int)) = true := by simp [hfg]
  have hn' : ((f.length : Int) != (g.length : Int)) = false := by simp [hfg]
  replace hfg := Lib.hid hfg
  go_enter Tryz.func73, Tryz.ntmps73
  repeat' (first | go_skip | go_guarded | go_step)
  go_loopw [17] (fun u17 wr => ∃ (i : Nat), i ≤ f.length ∧ u17 = .int .i64 (i : Int) ∧ Below w.heap.size w wr ∧ eqF f g = eqF (f.drop i) (g.drop i)) (fun u17 _ => f.length - (intOf u17).toNat)
  case atStart => exact ⟨0, by omega, rfl, Below.refl _ _, by rw [Flds.drop_zero, Flds.drop_zero]⟩
  case round =>
   obtain ⟨i, hi, rfl, hbr, hu⟩ := hrel
   have hfg' := hfg.out
   by_cases hlt : i < f.length
   ·obtain ⟨⟨k, x, s, sub⟩, hg⟩ := Flds.get?_lt f i hlt
    obtain ⟨⟨k', x', s', sub'⟩, hg'⟩ := Flds.get?_lt g i (by omega)
    obtain ⟨b1, o1, rfl, hb1, hcell1⟩ := hs1.2 (by omega)
    obtain ⟨b2, o2, rfl, hb2, hcell2⟩ := hs2.2 (by omega)
    obtain ⟨A3, c3, cs3, g1, g2, g3, g4, _, _, hs3, hr3⟩ := RepF.at_ hr1 hg
    obtain ⟨A4, c4, cs4, g5, g6, g7, g8, _, _, hs4, hr4⟩ := RepF.at_ hr2 hg'
    have e1 := (hbr.cell (p := ⟨b1, o1 + i * 4, none⟩) (by dsimp only; omega)).trans (hcell1 _ _ g1)
    have e2 := (hbr.cell (p := ⟨b1, o1 + (i * 4 + 1), none⟩) (by dsimp only; omega)).trans (hcell1 _ _ g2)
    have e3 := (hbr.cell (p := ⟨b1, o1 + (i * 4 + 2), none⟩) (by dsimp only; omega)).trans (hcell1 _ _ g3)
    have e4 := (hbr.cell (p := ⟨b1, o1 + (i * 4 + 3), none⟩) (by dsimp only; omega)).trans (hcell1 _ _ g4)
    have e5 := (hbr.cell (p := ⟨b2, o2 + i * 4, none⟩) (by dsimp only; omega)).trans (hcell2 _ _ g5)
    have e6 := (hbr.cell (p := ⟨b2, o2 + (i * 4 + 1), none⟩) (by dsimp only; omega)).trans (hcell2 _ _ g6)
    have e7 := (hbr.cell (p := ⟨b2, o2 + (i * 4 + 2), none⟩) (by dsimp only; omega)).trans (hcell2 _ _ g7)
    have e8 := (hbr.cell (p := ⟨b2, o2 + (i * 4 + 3), none⟩) (by dsimp only; omega)).trans (hcell2 _ _ g8)
    rw [← Nat.add_assoc] at e2 e3 e4 e6 e7 e8
    clear g1 g2 g3 g4 g5 g6 g7 g8 hcell1 hcell2 hr1 hr2 hs1 hs2
    have hbw1 : b1 < wr.heap.size := by have := hbr.size; omega
    have hbw2 : b2 < wr.heap.size := by have := hbr.size; omega
    have hsz1 := Flds.get?_size f i hg
    have hsz2 := Flds.get?_size g i hg'
    have ihs := Lib.hid (Ih.out i k x s sub hg)
    have he := eqF_at hg hg'
    clear hg hg'
    have f1 : (0 : Int) ≤ (i : Int) := by omega
    have f2 : (i : Int) < (f.length : Int) := by omega
    have f2' : (i : Int) < (g.length : Int) := by omega
    replace hsz1 := Lib.hid hsz1
    replace hsz2 := Lib.hid hsz2
    rw [he] at hu
    clear he hfg'
    replace hu := Lib.hid hu
    go_upto_region 7 with (fail)
    generalize hx_ : World.alloc (World.alloc wr _) _ = wo1
    have hO1 : OwnB wr wo1 [(wr.heap.size + 1, [.int .i64 k', .int .i64 x', .string s', .slice A4 sub'.length c4]), (wr.heap.size, [.int .i64 k, .int .i64 x, .string s, .slice A3 sub.length c3])] := by rw [← hx_]; exact ((OwnB.refl wr).new #[.int .i64 k, .int .i64 x, .string s, .slice A3 sub.length c3] _ (g := wr.heap.size)).new #[.int .i64 k', .int .i64 x', .string s', .slice A4 sub'.length c4] _ (g := wr.heap.size + 1)
    have hbn : Below wr.heap.size wr wo1 := by rw [← hx_]; exact ((Below.refl _ _).alloc (Nat.le_refl _) _).alloc (by simp) _
    have zwo1 : wo1.heap.size = wr.heap.size + 2 := by rw [← hx_]; simp
    clear hx_
    have c0_0 := hO1.c 0 0
    have c0_1 := hO1.c 0 1
    have c0_2 := hO1.c 0 2
    have c0_3 := hO1.c 0 3
    have cf0 := hO1.fr 0
    have c1_0 := hO1.c 1 0
    have c1_1 := hO1.c 1 1
    have c1_2 := hO1.c 1 2
    have c1_3 := hO1.c 1 3
    have cf1 := hO1.fr 1
    clear hbn
    have hb0 := hO1.below
    repeat' (first | go_skip | go_guarded | go_step)
    refine (same1_any k x s sub k' x' s' sub' ihs.out A3 c3 cs3 A4 c4 cs4 wo1 B (Nat.le_trans (Nat.le_trans hB hbr.size) hb0.size) (hs3.below ((hbr.mono hB).trans (hb0.mono (Nat.le_trans hB hbr.size)))) (hr3.below ((hbr.mono hB).trans (hb0.mono (Nat.le_trans hB hbr.size)))) (hs4.below ((hbr.mono hB).trans (hb0.mono (Nat.le_trans hB hbr.size)))) (hr4.below ((hbr.mono hB).trans (hb0.mono (Nat.le_trans hB hbr.size)))) (by have := hsz1.out; omega) (by have := hsz2.out; omega)).mono ?_
    rintro e w7 ⟨rfl, hb7⟩
    dsimp only
    have hbx := hbr.trans ((hb0.trans (hb7.mono hb0.size)).mono hbr.size)
    clear hb7 hb0 hs3 hr3 hs4 hr4 e1 e2 e3 e4 e5 e6 e7 e8
    clear c0_0 c0_1 c0_2 c0_3 cf0 c1_0 c1_1 c1_2 c1_3 cf1 hO1
    cases hq : eq1 k x s sub k' x' s' sub' with
    | true =>
     have f3 : IntKind.i64.wrap ((i : Int) + 1) = (i : Int) + 1 := IntWalk.i64_in _ (by omega)
     repeat' (first | go_skip | go_guarded | go_step)
     go_roundw
     case rel =>
      have hu' := hu.out
      rw [hq, Bool.true_and] at hu'
      exact ⟨i + 1, by omega, by congr 1, hbx, hu'⟩
     case measure => simp [intOf]; omega
    | false =>
     repeat' (first | go_skip | go_guarded | go_step)
     go_ret
     have hu' := hu.out
     rw [hq, Bool.false_and] at hu'
     exact ⟨ret_b hu'.symm, hbx⟩
   ·repeat' (first | go_skip | go_guarded | go_step)
    go_ret
    rw [hu, eqF_end (by omega) (by omega)]
    exact ⟨rfl, hbr⟩
 ·have hn : ((f.length : Int) == (g.length : Int)) = false := by simp; omega
  have hn' : ((f.length : Int) != (g.length : Int)) = true := by simp; omega
  rw [eqF_len hfg]
  clear hfg
  go_enter Tryz.func73, Tryz.ntmps73
  repeat' (first | go_skip | go_guarded | go_step)
  go_ret
  exact ⟨rfl, Below.refl _ _⟩
theorem psame_body (f : Flds) (ih : ∀ i k x s sub, f.get? i = some (k, x, s, sub) → PSame sub) : PSame f := by
 intro g A1 c1 cs1 A2 c2 cs2 w B hB hs1 hr1 hs2 hr2 hsz hsz'
 go_enter Tryz.func33, Tryz.ntmps33
 repeat' (first | go_skip | go_guarded | go_step)
 refine (eqfunc_any f ih g A1 c1 cs1 A2 c2 cs2 w B hB hs1 hr1 hs2 hr2 hsz hsz').mono ?_
 rintro e w7 ⟨rfl, hb7⟩
 dsimp only
 repeat' (first | go_skip | go_guarded | go_step)
 go_ret
 exact ⟨rfl, hb7⟩
theorem psame_any_all : ∀ (f : Flds) (i : Nat) (k x : Int) (s : ByteArray) (sub : Flds), f.get? i = some (k, x, s, sub) → PSame sub
 | .nil, i, _, _, _, _, h => by simp [Flds.get?] at h
 | .cons k x s sub r, 0, _, _, _, _, h => by
  simp only [Flds.get?, Option.some.injEq, Prod.mk.injEq] at h
  obtain ⟨rfl, rfl, rfl, rfl⟩ := h
  exact psame_body sub (psame_any_all sub)
 | .cons _ _ _ _ r, i + 1, k, x, s, sub, h => psame_any_all r i k x s sub h
theorem psame_any (f : Flds) : PSame f := psame_body f (psame_any_all f)
theorem one_list {α : Type} {l : List α} (h : l.length = 1) : ∃ v, l = [v] := by
 match l, h with
 | [v], _ => exact ⟨v, rfl⟩
structure EvR (w : World) (fs : List FV) (E : List Value) : Prop where
 rd : RecL evC w (fun b => b < w.heap.size) fs E
 sz : lsz fs ≤ 1000000000
theorem EvR.len {w : World} {fs : List FV} {E : List Value} (h : EvR w fs E) : E.length = 42 := (h.rd.len evC_ok).1
theorem EvR.up {w z : World} {fs : List FV} {E : List Value} (h : EvR w fs E) (hb : Below w.heap.size w z) : EvR z fs E := ⟨h.rd.map evC_ok (fun p hp => hb.cell hp) (fun b hb' => Nat.lt_of_lt_of_le hb' hb.size), h.sz⟩
theorem ev_info {E : List Value} (h : E.length = 42) : (Tryz.prog.info? 43).map (·.size) = some E.length := by rw [h]; kernel_rfl
theorem RetFs.fields {w z : World} {l : List FV} {A : Option Addr} {c : Nat} {cs : List Value} (hO : Own w z fldT 4 (.slice A l.length c) l.length cs) (hL : RList rF 4 z (Fresh w z) l cs) : Seq z z.heap.size 4 A (ofL l).length cs ∧ RepF z z.heap.size (ofL l) cs := by
 refine ⟨by rw [ofL_length]; exact hO.seq, (rep_of hL).imp fun b hb => hb.2⟩
theorem range_up {w w' : World} {b o : Nat} {J : List Value} (h : w.rangeAt b o J) (hb : Below w.heap.size w w') (hl : b < w.heap.size) : w'.rangeAt b o J := fun j v hj => (hb.cell (p := ⟨b, o + j, none⟩) hl).trans (h j v hj)
theorem psame_ev (fs fs' : List FV) (E E' : List Value) (w : World) (h : EvR w fs E) (h' : EvR w fs' E') : Calls Tryz.prog 16 #[.agg E.toArray, .agg E'.toArray] w fun e w' => e = .returned (.bool (eqF (ofL fs) (ofL fs'))) ∧ Below w.heap.size w w' := by
 go_enter Tryz.func16, Tryz.ntmps16
 go_upto_region 1 with (fail)
 have hA : ((w.alloc (.cells E.toArray 43)).alloc (.cells E'.toArray 43)).rangeAt w.heap.size 0 E := World.rangeAt_alloc (at_new w E 43) _
 have hA' : ((w.alloc (.cells E.toArray 43)).alloc (.cells E'.toArray 43)).rangeAt (w.heap.size + 1) 0 E' := by
  have := at_new (w.alloc (.cells E.toArray 43)) E' 43
  rw [World.size_alloc] at this
  exact this
 have hlt0 : w.heap.size < ((w.alloc (.cells E.toArray 43)).alloc (.cells E'.toArray 43)).heap.size := by simp; omega
 have hlt1 : w.heap.size + 1 < ((w.alloc (.cells E.toArray 43)).alloc (.cells E'.toArray 43)).heap.size := by simp
 have hb0 : Below w.heap.size w ((w.alloc (.cells E.toArray 43)).alloc (.cells E'.toArray 43)) := ((Below.refl w.heap.size w).alloc (Nat.le_refl _) _).alloc (by simp) _
 generalize World.alloc (World.alloc w _) _ = w1 at *
 have hi := ev_info h.len
 have hi' := ev_info h'.len
 replace h := Lib.hid h
 replace h' := Lib.hid h'
 have hS0 : (Below w1.heap.size w1 w1 ∧ w1.rangeAt w.heap.size 0 E ∧ w1.rangeAt (w.heap.size + 1) 0 E') := ⟨Below.refl _ _, hA, hA'⟩
 have keepS : ∀ v1 v2 : World, (Below w1.heap.size w1 v1 ∧ v1.rangeAt w.heap.size 0 E ∧ v1.rangeAt (w.heap.size + 1) 0 E') → Below v1.heap.size v1 v2 → (Below w1.heap.size w1 v2 ∧ v2.rangeAt w.heap.size 0 E ∧ v2.rangeAt (w.heap.size + 1) 0 E') := fun v1 v2 h hb => ⟨h.1.trans (hb.mono h.1.size), range_up h.2.1 hb (Nat.lt_of_lt_of_le hlt0 h.1.size), range_up h.2.2 hb (Nat.lt_of_lt_of_le hlt1 h.1.size)⟩
 have hS1 : (Below w1.heap.size w1 w1.drew ∧ w1.drew.rangeAt w.heap.size 0 E ∧ w1.drew.rangeAt (w.heap.size + 1) 0 E') := keepS _ _ hS0 ((Below.refl _ _).drew)
 replace keepS := Lib.hid keepS
 clear hS0
 refine wp_region_held_drew (S := fun w' => Below w1.heap.size w1 w' ∧ w'.rangeAt w.heap.size 0 E ∧ w'.rangeAt (w.heap.size + 1) 0 E') (by kernel_rfl) ?_ (fun hHeld => ?_)
 ·(try dsimp only)
  exact hS1
 refine tkY 0 (v := .agg E.toArray) rfl (yieldsIf_load_mid (by rfl) 43 _ rfl w.heap.size 0 rfl E _ (fun v h => h.2.1) Tryz.underlying43 rfl hi) ?hr1
 simp only [Act.put, Z1, Z2, Z4, Z5, Z6]
 refine tkY 2 (v := .agg E'.toArray) rfl (yieldsIf_load_mid (by rfl) 43 _ rfl (w.heap.size + 1) 0 rfl E' _ (fun v h => h.2.2) Tryz.underlying43 rfl hi') ?hr2
 simp only [Act.put, Z1, Z2, Z3, Z4, Z5, Z6]
 refine wpAnyH_ready (rs := [1]) (by kernel_rfl) (by simp) ?_
 refine AllReadyH.cons rfl (fun K hK => ?_) AllReadyH.nil
 go_simp
 go_at_call 28
 refine (form_any fs E _ ((h.out.up (hb0.trans (hHeld.1.mono hb0.size))).rd) h.out.sz).mono ?_
 rintro e z1 ⟨A1, c1, cs1, rfl, hO1, hL1⟩
 dsimp only
 have hbq := hO1.2
 obtain ⟨g1, g2⟩ := RetFs.fields hO1 hL1
 clear hO1 hL1
 have hB1 := Nat.le_refl z1.heap.size
 refine hK.out _ _ ?_ (fun hHeld => ?_)
 ·(try dsimp only)
  exact keepS.out _ _ hHeld hbq
 clear hK K
 try simp only [Act.put, Z1, Z2, Z3, Z4, Z5, Z6]
 refine wpAnyH_ready (rs := [3]) (by kernel_rfl) (by simp) ?_
 refine AllReadyH.cons rfl (fun K hK => ?_) AllReadyH.nil
 go_simp
 go_at_call 28
 refine (form_any fs' E' _ ((h'.out.up (hb0.trans (hHeld.1.mono hb0.size))).rd) h'.out.sz).mono ?_
 rintro e z2 ⟨A2, c2, cs2, rfl, hO2, hL2⟩
 dsimp only
 have hbq := hO2.2
 obtain ⟨g3, g4⟩ := RetFs.fields hO2 hL2
 clear hO2 hL2
 replace g1 := (g1.below hbq).more hbq.size
 replace g2 := (g2.below hbq).more hbq.size
 refine hK.out _ _ ?_ (fun hHeld => ?_)
 ·(try dsimp only)
  exact keepS.out _ _ hHeld hbq
 clear hK K
 try simp only [Act.put, Z1, Z2, Z3, Z4, Z5, Z6]
 refine wpAnyH_ready (rs := [4]) (by kernel_rfl) (by simp) ?_
 refine AllReadyH.cons rfl (fun K hK => ?_) AllReadyH.nil
 go_simp
 go_at_call 33
 have CJ := psame_any (ofL fs) (ofL fs') A1 c1 cs1 A2 c2 cs2 z2 z2.heap.size (Nat.le_refl _) g1 g2 g3 g4 h.out.sz h'.out.sz
 rw [ofL_length, ofL_length] at CJ
 refine CJ.mono ?_
 clear CJ g1 g2 g3 g4
 rintro e z3 ⟨rfl, hbq⟩
 dsimp only
 refine hK.out _ _ ?_ (fun hHeld => ?_)
 ·(try dsimp only)
  exact keepS.out _ _ hHeld hbq
 clear hK K
 try simp only [Act.put, Z1, Z2, Z3, Z4, Z5, Z6]
 refine tkY 5 (v := ?v3) rfl (.inl ⟨by rfl, ?hy3⟩) ?hr3
 case hy3 => (intro w hSw; (try dsimp only at hSw); go_simp; try with_reducible rfl)
 simp only [Act.put, Z1, Z2, Z3, Z4, Z5, Z6]
 refine wpAnyH_done (by kernel_rfl) ?_ _
 have hbW := hHeld.1
 clear hHeld hS1 keepS
 repeat' (first | go_skip | go_guarded | go_step)
 go_ret
 exact ⟨rfl, hb0.trans (hbW.mono hb0.size)⟩
end Go.Proofs.YtgdapkglofchjaaGreatDoor
namespace Go.Proofs.YtgdapkglofchjaaGreatDoor
open Go.ChangeShapes Go.WideShapes Go.ChangeAt Go.RowKit
theorem cells_ev : Tryz.prog.cellsOf 43 = 42 := by kernel_rfl
theorem RList.convO {α : Type} {r r' : Rd α} {sz : Nat} {w : World} {S : Nat → Prop} (hr : ∀ x cs, r w S x cs → r' w S x cs) : ∀ {l : List α} {cs : List Value}, RList r sz w S l cs → RList r' sz w S l cs
 | [], _, h => h
 | _ :: _, _, ⟨c1, c2, h1, h2, h3, h4⟩ => ⟨c1, c2, h1, h2, hr _ _ h3, RList.convO hr h4⟩
theorem val_up : ∀ {g : Nat} {w : World} {S : Nat → Prop} {f : FV} {cs : List Value}, (Cod.val g).rp w S f cs → (Cod.val (g + 1)).rp w S f cs
 | 0, _, _, _, _, h => h.elim
 | g + 1, w, S, f, cs, ⟨l, h1, f0, r0, a0, b0, e0, x0, h2, f1, r1, a1, b1, e1, x1, h3, f2, r2, a2, b2, e2, x2, h4, f3, r3, a3, b3, e3, x3, h5, f4, r4, a4, b4, e4, x4, ⟨lv, A, c, k1, k2, k3, k4, k5, ds, k6, k7⟩, h7⟩ =>
  ⟨l, h1, f0, r0, a0, b0, e0, x0, h2, f1, r1, a1, b1, e1, x1, h3, f2, r2, a2, b2, e2, x2, h4, f3, r3, a3, b3, e3, x3, h5, f4, r4, a4, b4, e4, x4, ⟨lv, A, c, k1, k2, by rw [Cod.val_sz] at *; exact ⟨k3, k4, k5, ds, k6, RList.convO (fun _ _ hx => val_up hx) k7⟩⟩, h7⟩
def hb (f : FV) : Nat := (fsz f + 2) / 2
theorem lsz_hb : ∀ l : List FV, lsz l ≤ 1 + 2 * (l.map hb).sum
 | [] => by rw [lsz_nil]; omega
 | f :: l => by
  have := lsz_hb l
  rw [lsz_cons, List.map_cons, List.sum_cons]
  unfold hb at this ⊢
  omega
section
variable {H : Type}
def Opn (enc : TypeId × Value → H) (W : World) (spare : Nat → Bool) (held : Bool) (n : Nat) (C : Cod) (t : TypeId) : Prop :=
 ∀ (cs : List Value) (y : DataW H × List MemPlace), cs.length = C.sz → DataW.trod enc Tryz.prog W 0 spare held n t cs = some y → ∃ f, C.rp W (fun b => b < W.heap.size) f cs ∧ fsz f + 1 ≤ 2 * Rows.uptoBulk y.1
variable {enc : TypeId × Value → H} {W : World} {spare : Nat → Bool} {held : Bool} {n : Nat} {t e : TypeId} {C : Cod}
theorem opn_int (ht : Tryz.prog.underlying t = some (.int .i64)) : Opn enc W spare held n .int t := by
 intro cs y hl h
 match cs, hl with
 | [v], _ =>
  obtain ⟨x, rfl, rfl, hw⟩ := int_val ht h
  refine ⟨fI x, ⟨x, by simpa [Lit.wf, IntKind.min, IntKind.max, IntKind.signed, IntKind.bits, IsInt] using hw, rfl, rfl⟩, ?_⟩
  simp only [Rows.uptoBulk]
  exact Nat.le_refl 2
theorem opn_dig (ht : Tryz.prog.underlying t = some (.int .u64)) : Opn enc W spare held n .dig t := by
 intro cs y hl h
 match cs, hl with
 | [v], _ =>
  obtain ⟨x, rfl, rfl, hw⟩ := int_val ht h
  have hx : 0 ≤ x ∧ x ≤ 18446744073709551615 := by simpa [Lit.wf, IntKind.min, IntKind.max, IntKind.signed, IntKind.bits] using hw
  obtain ⟨m, rfl⟩ := Int.eq_ofNat_of_zero_le hx.1
  refine ⟨fI (wrap64 (m : Int)), ⟨m, by omega, rfl, rfl⟩, ?_⟩
  simp only [Rows.uptoBulk]
  exact Nat.le_refl 2
theorem opn_flag (ht : Tryz.prog.underlying t = some .bool) : Opn enc W spare held n .flag t := by
 intro cs y hl h
 match cs, hl with
 | [v], _ =>
  obtain ⟨b, rfl, rfl⟩ := bool_val ht h
  refine ⟨fI (if b then 1 else 0), ⟨b, rfl, rfl⟩, ?_⟩
  simp only [Rows.uptoBulk]
  exact Nat.le_refl 2
theorem opn_str (ht : Tryz.prog.underlying t = some .string) : Opn enc W spare held n .str t := by
 intro cs y hl h
 match cs, hl with
 | [v], _ =>
  obtain ⟨s, rfl, rfl, _⟩ := str_val ht h
  refine ⟨fS s, ⟨s, rfl, rfl⟩, ?_⟩
  simp only [Rows.uptoBulk]
  have h1 : s.data.toList.length = s.size := by simp
  show s.size + 1 + 1 ≤ _
  omega
theorem opn_list (ht : Tryz.prog.underlying t = some (.slice e)) (hC : Tryz.prog.cellsOf e = C.sz) (hs : 0 < C.sz) (hel : ∀ m, m + 1 = n → Opn enc W spare held m C e) : Opn enc W spare held n (.list C) t := by
 intro cs y hl h
 match cs, hl with
 | [v], _ =>
  obtain ⟨A, len, cap, rfl⟩ := slice_val ht h
  obtain ⟨l, g1, _, g3⟩ := open_list (r := C.rp) (sz := C.sz) (bulk := hb) ht hC hs (fun m cs y hm hl hy => by
   obtain ⟨f, k1, k2⟩ := hel m hm cs y hl hy
   exact ⟨f, k1, by unfold hb; omega⟩) h
  obtain rfl : len = l.length := g1.1.symm
  refine ⟨fL l, ⟨l, A, cap, rfl, rfl, g1⟩, ?_⟩
  rw [fsz_fL]
  have := lsz_hb l
  omega
def Fit (enc : TypeId × Value → H) (W : World) (spare : Nat → Bool) (held : Bool) (n : Nat) (fs : Array Field) : Nat → Nat → List (Cod × TypeId) → Prop
 | _, _, [] => True
 | j, o, (C, t) :: r => fs[j]?.map (fun f => (f.type, f.offset)) = some (t, o) ∧ Tryz.prog.cellsOf t = C.sz ∧ Opn enc W spare held n C t ∧ Fit enc W spare held n fs (j + 1) (o + C.sz) r
theorem opn_rec {fs : Array Field} {n : Nat} {cs : List Value} {xs : List (DataW H × List MemPlace)} (hx : xs.length = fs.size)
  (hf : ∀ (i : Nat) (f : Field), fs[i]? = some f → DataW.trod enc Tryz.prog W 0 spare held n f.type ((cs.drop f.offset).take (Tryz.prog.cellsOf f.type)) = xs[i]?) :
  ∀ (Ts : List (Cod × TypeId)) (j o : Nat), Fit enc W spare held n fs j o Ts → cs.length = o + csz (Ts.map Prod.fst) → ∃ l, RecL (Ts.map Prod.fst) W (fun b => b < W.heap.size) l (cs.drop o) ∧ lsz l ≤ 1 + 2 * Rows.uptoBulkAll ((xs.drop j).map (·.1))
 | [], j, o, _, hl => ⟨[], ⟨rfl, by rw [List.drop_of_length_le]; simp [csz] at hl; omega⟩, by rw [lsz_nil]; omega⟩
 | (C, t) :: r, j, o, ⟨h1, h2, h3, h4⟩, hl => by
  have hcz : csz (((C, t) :: r).map Prod.fst) = C.sz + csz (r.map Prod.fst) := by simp [csz]
  rw [hcz] at hl
  obtain ⟨l, g1, g2⟩ := opn_rec hx hf r (j + 1) (o + C.sz) h4 (by omega)
  have hj : j < xs.length := by
   obtain ⟨f, hf1, _⟩ := Option.map_eq_some_iff.1 h1
   have := (Array.getElem?_eq_some_iff.1 hf1).1
   omega
  have hy : xs[j]? = some xs[j] := List.getElem?_eq_getElem hj
  have hw := field_wide hf j h1 h2 hy
  obtain ⟨f, k1, k2⟩ := h3 _ _ (by rw [List.length_take, List.length_drop]; omega) hw
  refine ⟨f :: l, ⟨f, l, (cs.drop o).take C.sz, cs.drop (o + C.sz), rfl, ?_, k1, g1⟩, ?_⟩
  ·rw [← List.drop_drop, List.take_append_drop]
  ·rw [lsz_cons, List.drop_eq_getElem_cons hj]
   simp only [List.map_cons, Rows.uptoBulkAll]
   omega
theorem opn_recd {fs : Array Field} (ht : Tryz.prog.underlying t = some (.struct fs)) (Ts : List (Cod × TypeId)) (hF : ∀ m, m + 1 = n → Fit enc W spare held m fs 0 0 Ts) : Opn enc W spare held n (.recd (Ts.map Prod.fst)) t := by
 intro cs y hl h
 obtain ⟨xs, m, rfl, rfl, _, hxl, hf⟩ := DataW.trod_struct ht h
 obtain ⟨l, g1, g2⟩ := opn_rec hxl hf Ts 0 0 (hF m rfl) (by rw [Nat.zero_add]; exact hl)
 refine ⟨fL l, ⟨l, rfl, g1⟩, ?_⟩
 rw [fsz_fL]
 rw [List.drop_zero] at g2
 simp only [Rows.uptoBulk]
 omega
set_option maxRecDepth 100000
theorem opn_val (n : Nat) : Opn enc W spare held n (.val n) 75 := by
 intro cs y hl h
 rw [Cod.val_sz] at hl
 obtain ⟨f, h1, h2⟩ := opn_recd (n := n) Tryz.underlying75 [(.int, 3), (.flag, 4), (.int, 3), (.str, 9), (.list (.val (n - 1)), 73), (.strs, 30)] (fun m hm => by
  have hV : Opn enc W spare held m (.list (.val (n - 1))) 73 := opn_list Tryz.underlying73 (by rw [Cod.val_sz]; kernel_rfl) (by rw [Cod.val_sz]; omega) (fun k hk => by
   intro cs y hl hy
   rw [Cod.val_sz] at hl
   obtain ⟨f, g1, g2⟩ := opn_val k cs y (by rw [Cod.val_sz]; exact hl) hy
   exact ⟨f, by rw [show n - 1 = k + 1 by omega]; exact val_up g1, g2⟩)
  exact ⟨rfl, by kernel_rfl, opn_int Tryz.underlying3, rfl, by kernel_rfl, opn_flag Tryz.underlying4, rfl, by kernel_rfl, opn_int Tryz.underlying3, rfl, by kernel_rfl, opn_str Tryz.underlying9, rfl, by kernel_rfl, hV, rfl, by kernel_rfl, opn_list Tryz.underlying30 (by kernel_rfl) (by decide) (fun _ _ => opn_str Tryz.underlying9), trivial⟩) cs y hl h
 have hn : 0 < n := by
  obtain ⟨xs, m, hm, _⟩ := DataW.trod_struct Tryz.underlying75 h
  omega
 refine ⟨f, ?_, h2⟩
 obtain ⟨m, rfl⟩ : ∃ m, n = m + 1 := ⟨n - 1, by omega⟩
 exact h1
termination_by n
decreasing_by omega
theorem opn_value : Opn enc W spare held n .value 75 := by
 intro cs y hl h
 obtain ⟨f, h1, h2⟩ := opn_val n cs y (by rw [Cod.val_sz]; exact hl) h
 exact ⟨f, ⟨n, h1⟩, h2⟩
theorem oI : Opn enc W spare held n .int 3 := opn_int Tryz.underlying3
theorem oS : Opn enc W spare held n .str 9 := opn_str Tryz.underlying9
theorem oB : Opn enc W spare held n .flag 4 := opn_flag Tryz.underlying4
theorem oD : Opn enc W spare held n .dig 39 := opn_dig Tryz.underlying39
theorem oSs : Opn enc W spare held n .strs 30 := opn_list Tryz.underlying30 (by kernel_rfl) (by decide) (fun _ _ => oS)
theorem oIs : Opn enc W spare held n .ints 31 := opn_list Tryz.underlying31 (by kernel_rfl) (by decide) (fun _ _ => oI)
theorem cI : Tryz.prog.cellsOf 3 = 1 := by kernel_rfl
theorem cS : Tryz.prog.cellsOf 9 = 1 := by kernel_rfl
theorem cB : Tryz.prog.cellsOf 4 = 1 := by kernel_rfl
theorem cD : Tryz.prog.cellsOf 39 = 1 := by kernel_rfl
theorem cSs : Tryz.prog.cellsOf 30 = 1 := by kernel_rfl
theorem cIs : Tryz.prog.cellsOf 31 = 1 := by kernel_rfl
theorem oOrigin : Opn enc W spare held n .origin 23 := opn_recd Tryz.underlying23 [(.str, 9), (.str, 9), (.flag, 4)] (fun _ _ => ⟨rfl, cS, oS, rfl, cS, oS, rfl, cB, oB, trivial⟩)
theorem oVar : Opn enc W spare held n .vari 77 := opn_recd Tryz.underlying77 [(.str, 9), (.value, 75)] (fun _ _ => ⟨rfl, cS, oS, rfl, by kernel_rfl, opn_value, trivial⟩)
theorem oVars : Opn enc W spare held n (.list .vari) 24 := opn_list Tryz.underlying24 (by kernel_rfl) (by decide) (fun _ _ => oVar)
theorem oTime : Opn enc W spare held n .timing 150 := opn_recd Tryz.underlying150 [(.str, 9), (.int, 3)] (fun _ _ => ⟨rfl, cS, oS, rfl, cI, oI, trivial⟩)
theorem oTimes : Opn enc W spare held n (.list .timing) 25 := opn_list Tryz.underlying25 (by kernel_rfl) (by decide) (fun _ _ => oTime)
theorem oOut : Opn enc W spare held n .output 214 := opn_recd Tryz.underlying214 [(.str, 9), (.dig, 39), (.int, 3)] (fun _ _ => ⟨rfl, cS, oS, rfl, cD, oD, rfl, cI, oI, trivial⟩)
theorem oOuts : Opn enc W spare held n (.list .output) 26 := opn_list Tryz.underlying26 (by kernel_rfl) (by decide) (fun _ _ => oOut)
theorem oTest : Opn enc W spare held n .test 200 := opn_recd Tryz.underlying200 [(.str, 9), (.int, 3), (.int, 3)] (fun _ _ => ⟨rfl, cS, oS, rfl, cI, oI, rfl, cI, oI, trivial⟩)
theorem oTests : Opn enc W spare held n (.list .test) 27 := opn_list Tryz.underlying27 (by kernel_rfl) (by decide) (fun _ _ => oTest)
theorem cOuts : Tryz.prog.cellsOf 26 = 1 := by kernel_rfl
theorem oResult : Opn enc W spare held n .result 29 := opn_recd Tryz.underlying29 [(.int, 3), (.int, 3), (.list .output, 26), (.list .output, 26), (.list .test, 27), (.str, 9)] (fun _ _ => ⟨rfl, cI, oI, rfl, cI, oI, rfl, cOuts, oOuts, rfl, cOuts, oOuts, rfl, by kernel_rfl, oTests, rfl, cS, oS, trivial⟩)
theorem oMachine : Opn enc W spare held n .machine 33 := opn_recd Tryz.underlying33 [(.str, 9), (.strs, 30), (.int, 3), (.int, 3), (.flag, 4), (.int, 3), (.int, 3), (.int, 3), (.ints, 31)] (fun _ _ => ⟨rfl, cS, oS, rfl, cSs, oSs, rfl, cI, oI, rfl, cI, oI, rfl, cB, oB, rfl, cI, oI, rfl, cI, oI, rfl, cI, oI, rfl, cIs, oIs, trivial⟩)
theorem oSecret : Opn enc W spare held n .secret 35 := opn_recd Tryz.underlying35 [(.str, 9), (.str, 9), (.int, 3), (.strs, 30), (.strs, 30)] (fun _ _ => ⟨rfl, cS, oS, rfl, cS, oS, rfl, cI, oI, rfl, cSs, oSs, rfl, cSs, oSs, trivial⟩)
theorem oScope : Opn enc W spare held n .scope 37 := opn_recd Tryz.underlying37 [(.str, 9), (.int, 3), (.str, 9)] (fun _ _ => ⟨rfl, cS, oS, rfl, cI, oI, rfl, cS, oS, trivial⟩)
theorem oEntry : Opn enc W spare held n .entry 41 := opn_recd Tryz.underlying41 [(.scope, 37), (.str, 9), (.dig, 39), (.int, 3), (.int, 3), (.int, 3)] (fun _ _ => ⟨rfl, by kernel_rfl, oScope, rfl, cS, oS, rfl, cD, oD, rfl, cI, oI, rfl, cI, oI, rfl, cI, oI, trivial⟩)
theorem oEvent : Opn enc W spare held n (.recd evC) 43 := opn_recd Tryz.underlying43 [(.int, 3), (.int, 3), (.str, 9), (.str, 9), (.int, 3), (.int, 3), (.int, 3), (.str, 9), (.str, 9), (.origin, 23), (.list .vari, 24), (.list .timing, 25), (.result, 29), (.machine, 33), (.secret, 35), (.entry, 41)]
 (fun _ _ => ⟨rfl, cI, oI, rfl, cI, oI, rfl, cS, oS, rfl, cS, oS, rfl, cI, oI, rfl, cI, oI, rfl, cI, oI, rfl, cS, oS, rfl, cS, oS, rfl, by kernel_rfl, oOrigin, rfl, by kernel_rfl, oVars, rfl, by kernel_rfl, oTimes, rfl, by kernel_rfl, oResult, rfl, by kernel_rfl, oMachine, rfl, by kernel_rfl, oSecret, rfl, by kernel_rfl, oEntry, trivial⟩)
theorem open_event {cs : List Value} {y : DataW H × List MemPlace} (hl : cs.length = 42) (h : DataW.trod enc Tryz.prog W 0 spare held n 43 cs = some y) : ∃ fs, RecL evC W (fun b => b < W.heap.size) fs cs ∧ lsz fs + 1 ≤ 2 * Rows.uptoBulk y.1 := by
 obtain ⟨f, ⟨l, rfl, h1⟩, h2⟩ := oEvent cs y hl h
 exact ⟨l, h1, by rw [fsz_fL] at h2; exact h2⟩
end
end Go.Proofs.YtgdapkglofchjaaGreatDoor
namespace Go.Proofs.YtgdapkglofchjaaGreatDoor
open Go.RowKit
def zeroFs : List FV := [(fI 0), (fI 0), (fS ByteArray.empty), (fS ByteArray.empty), (fI 0), (fI 0), (fI 0), (fS ByteArray.empty), (fS ByteArray.empty), (fL [(fS ByteArray.empty), (fS ByteArray.empty), (fI 0)]), (fL []), (fL []), (fL [(fI 0), (fI 0), (fL []), (fL []), (fL []), (fS ByteArray.empty)]), (fL [(fS ByteArray.empty), (fL []), (fI 0), (fI 0), (fI 0), (fI 0), (fI 0), (fI 0), (fL [])]), (fL [(fS ByteArray.empty), (fS ByteArray.empty), (fI 0), (fL []), (fL [])]), (fL [fL [(fS ByteArray.empty), (fI 0), (fS ByteArray.empty)], (fS ByteArray.empty), (fI 0), (fI 0), (fI 0), (fI 0)])]
def evZ : List Value := [.int .i64 0, .int .i64 0, .string ⟨#[]⟩, .string ⟨#[]⟩, .int .i64 0, .int .i64 0, .int .i64 0, .string ⟨#[]⟩, .string ⟨#[]⟩, .string ⟨#[]⟩, .string ⟨#[]⟩, .bool false, .slice none 0 0, .slice none 0 0, .int .i64 0, .int .i64 0, .slice none 0 0, .slice none 0 0, .slice none 0 0, .string ⟨#[]⟩, .string ⟨#[]⟩, .slice none 0 0, .int .i64 0, .int .i64 0, .bool false, .int .i64 0, .int .i64 0, .int .i64 0, .slice none 0 0, .string ⟨#[]⟩, .string ⟨#[]⟩, .int .i64 0, .slice none 0 0, .slice none 0 0, .string ⟨#[]⟩, .int .i64 0, .string ⟨#[]⟩, .string ⟨#[]⟩, .int .u64 0, .int .i64 0, .int .i64 0, .int .i64 0]
def usedL : Nat → List Nat
 | 1 => [0, 1, 2, 4, 9, 8, 10, 11]
 | 2 => [0, 1, 2, 3, 4, 5, 7]
 | 3 => [0, 1, 2, 3, 4, 5, 12, 8]
 | 4 => [0, 1, 2, 3, 4, 5, 6]
 | 5 => [0, 1, 2, 3, 7]
 | 6 => [0, 1, 2, 3, 7]
 | 7 => [0, 1, 2, 6]
 | 8 => [0, 1, 2, 3]
 | 9 => [0, 1, 2]
 | 10 => [0, 1, 8, 4, 5, 6]
 | 11 => [0, 1, 13]
 | 12 => [0, 1, 7]
 | 13 => [0, 1, 7]
 | 14 => [0, 1, 14]
 | 15 => [0, 1, 2, 3, 5, 15]
 | _ => [0, 1]
def restF (k : Nat) (fs : List FV) : List FV := (usedL k).foldl (fun l i => l.set i (zeroFs.getD i (fI 0))) fs
def setL : List Value → Nat → List Value → List Value
 | cs, _, [] => cs
 | cs, o, z :: zs => setL (cs.set o z) (o + 1) zs
theorem setL_app (a b : List Value) : ∀ (zs : List Value) (o : Nat), setL (a ++ b) (a.length + o) zs = a ++ setL b o zs := fun zs => by
 induction zs generalizing b with
 | nil => intro o; rfl
 | cons z zs ih =>
  intro o
  rw [setL, setL, List.set_append_right _ _ (by omega), Nat.add_sub_cancel_left, Nat.add_assoc, ih]
theorem setL_front : ∀ (zs a b : List Value) (p : List Value), a.length = zs.length → setL (p ++ (a ++ b)) p.length zs = p ++ (zs ++ b)
 | [], a, b, p, h => by
  have : a = [] := List.eq_nil_of_length_eq_zero h
  subst this; rfl
 | z :: zs, x :: a, b, p, h => by
  rw [setL, List.set_append_right _ _ (Nat.le_refl _), Nat.sub_self]
  have := setL_front zs a b (p ++ [z]) (by simpa using h)
  simp only [List.append_assoc, List.length_append, List.length_cons, List.length_nil, List.cons_append, List.nil_append, Nat.zero_add] at this
  simpa using this
theorem RecL.put {w : World} {S : Nat → Prop} {C : Cod} {f : FV} {z : List Value} (hz : C.rp w S f z) : ∀ {Cs : List Cod} {fs : List FV} {cs : List Value} (i off : Nat), (∀ D ∈ Cs, Cod.Ok D) → RecL Cs w S fs cs → Cs[i]? = some C → csz (Cs.take i) = off → RecL Cs w S (fs.set i f) (setL cs off z)
 | [], _, _, i, _, _, _, h, _ => by simp at h
 | D :: Cs, fs, cs, 0, off, hO, ⟨f1, fr, c1, c2, h1, h2, h3, h4⟩, h, ho => by
  simp only [List.getElem?_cons_zero, Option.some.injEq] at h
  subst h
  have : off = 0 := ho.symm
  subst this
  subst h1 h2
  have e := setL_front z c1 c2 [] (((hO D (by simp)).len h3).trans ((hO D (by simp)).len hz).symm)
  exact ⟨f, fr, z, c2, rfl, e, hz, h4⟩
 | D :: Cs, fs, cs, i + 1, off, hO, ⟨f1, fr, c1, c2, h1, h2, h3, h4⟩, h, ho => by
  subst h1 h2
  have hl := (hO D (by simp)).len h3
  have ho' : off = c1.length + csz (Cs.take i) := by rw [← ho, hl]; simp [csz]
  subst ho'
  exact ⟨f1, fr.set i f, c1, setL c2 (csz (Cs.take i)) z, rfl, setL_app c1 c2 z _, h3, RecL.put hz i _ (fun E hE => hO E (by simp [hE])) h4 (by simpa using h) rfl⟩
theorem lsz_set : ∀ (l : List FV) (i : Nat) (f : FV), lsz (l.set i f) ≤ lsz l + fsz f
 | [], _, _ => by simp
 | g :: l, 0, f => by rw [List.set_cons_zero, lsz_cons, lsz_cons]; omega
 | g :: l, i + 1, f => by rw [List.set_cons_succ, lsz_cons, lsz_cons]; have := lsz_set l i f; omega
section
variable {w : World} {S : Nat → Prop}
theorem z_int : Cod.int.rp w S (fI 0) [.int .i64 0] := ⟨0, ii0, rfl, rfl⟩
theorem z_str : Cod.str.rp w S (fS ByteArray.empty) [.string ⟨#[]⟩] := ⟨_, rfl, rfl⟩
theorem z_flag : Cod.flag.rp w S (fI 0) [.bool false] := ⟨false, rfl, rfl⟩
theorem z_dig : Cod.dig.rp w S (fI 0) [.int .u64 0] := ⟨0, by decide, by rw [show wrap64 ((0 : Nat) : Int) = 0 from by unfold wrap64; omega], rfl⟩
theorem z_list (C : Cod) : (Cod.list C).rp w S (fL []) [.slice none 0 0] := ⟨[], none, 0, rfl, rfl, rfl, Nat.le_refl _, fun _ => rfl, [], SeqP.nil_, rfl⟩
theorem z_nil : RecL [] w S [] [] := ⟨rfl, rfl⟩
theorem z_cons {C : Cod} {Cs : List Cod} {f : FV} {fs : List FV} {c cs : List Value} (h : C.rp w S f c) (hs : RecL Cs w S fs cs) : RecL (C :: Cs) w S (f :: fs) (c ++ cs) := ⟨f, fs, c, cs, rfl, rfl, h, hs⟩
theorem z_rec {Cs : List Cod} {fs : List FV} {cs : List Value} (h : RecL Cs w S fs cs) : (Cod.recd Cs).rp w S (fL fs) cs := ⟨fs, rfl, h⟩
theorem zz0 : Cod.rp (.int : Cod) w S (fI 0) [.int .i64 0] := z_int
theorem zz1 : Cod.rp (.int : Cod) w S (fI 0) [.int .i64 0] := z_int
theorem zz2 : Cod.rp (.str : Cod) w S (fS ByteArray.empty) [.string ⟨#[]⟩] := z_str
theorem zz3 : Cod.rp (.str : Cod) w S (fS ByteArray.empty) [.string ⟨#[]⟩] := z_str
theorem zz4 : Cod.rp (.int : Cod) w S (fI 0) [.int .i64 0] := z_int
theorem zz5 : Cod.rp (.int : Cod) w S (fI 0) [.int .i64 0] := z_int
theorem zz6 : Cod.rp (.int : Cod) w S (fI 0) [.int .i64 0] := z_int
theorem zz7 : Cod.rp (.str : Cod) w S (fS ByteArray.empty) [.string ⟨#[]⟩] := z_str
theorem zz8 : Cod.rp (.str : Cod) w S (fS ByteArray.empty) [.string ⟨#[]⟩] := z_str
theorem zz9 : Cod.rp (.origin : Cod) w S (fL [(fS ByteArray.empty), (fS ByteArray.empty), (fI 0)]) [.string ⟨#[]⟩, .string ⟨#[]⟩, .bool false] := (z_rec (z_cons z_str (z_cons z_str (z_cons z_flag z_nil))))
theorem zz10 : Cod.rp (.list .vari : Cod) w S (fL []) [.slice none 0 0] := (z_list Cod.vari)
theorem zz11 : Cod.rp (.list .timing : Cod) w S (fL []) [.slice none 0 0] := (z_list Cod.timing)
theorem zz12 : Cod.rp (.result : Cod) w S (fL [(fI 0), (fI 0), (fL []), (fL []), (fL []), (fS ByteArray.empty)]) [.int .i64 0, .int .i64 0, .slice none 0 0, .slice none 0 0, .slice none 0 0, .string ⟨#[]⟩] := (z_rec (z_cons z_int (z_cons z_int (z_cons (z_list Cod.output) (z_cons (z_list Cod.output) (z_cons (z_list Cod.test) (z_cons z_str z_nil)))))))
theorem zz13 : Cod.rp (.machine : Cod) w S (fL [(fS ByteArray.empty), (fL []), (fI 0), (fI 0), (fI 0), (fI 0), (fI 0), (fI 0), (fL [])]) [.string ⟨#[]⟩, .slice none 0 0, .int .i64 0, .int .i64 0, .bool false, .int .i64 0, .int .i64 0, .int .i64 0, .slice none 0 0] := (z_rec (z_cons z_str (z_cons (z_list Cod.str) (z_cons z_int (z_cons z_int (z_cons z_flag (z_cons z_int (z_cons z_int (z_cons z_int (z_cons (z_list Cod.int) z_nil))))))))))
theorem zz14 : Cod.rp (.secret : Cod) w S (fL [(fS ByteArray.empty), (fS ByteArray.empty), (fI 0), (fL []), (fL [])]) [.string ⟨#[]⟩, .string ⟨#[]⟩, .int .i64 0, .slice none 0 0, .slice none 0 0] := (z_rec (z_cons z_str (z_cons z_str (z_cons z_int (z_cons (z_list Cod.str) (z_cons (z_list Cod.str) z_nil))))))
theorem zz15 : Cod.rp (.entry : Cod) w S (fL [fL [(fS ByteArray.empty), (fI 0), (fS ByteArray.empty)], (fS ByteArray.empty), (fI 0), (fI 0), (fI 0), (fI 0)]) [.string ⟨#[]⟩, .int .i64 0, .string ⟨#[]⟩, .string ⟨#[]⟩, .int .u64 0, .int .i64 0, .int .i64 0, .int .i64 0] := (z_rec (z_cons (z_rec (z_cons z_str (z_cons z_int (z_cons z_str z_nil)))) (z_cons z_str (z_cons z_dig (z_cons z_int (z_cons z_int (z_cons z_int z_nil)))))))
theorem evZ_rd : RecL evC w S zeroFs evZ := (z_cons zz0 (z_cons zz1 (z_cons zz2 (z_cons zz3 (z_cons zz4 (z_cons zz5 (z_cons zz6 (z_cons zz7 (z_cons zz8 (z_cons zz9 (z_cons zz10 (z_cons zz11 (z_cons zz12 (z_cons zz13 (z_cons zz14 (z_cons zz15 z_nil))))))))))))))))
end
theorem zs0 : fsz (fI 0) ≤ 40 := by decide +kernel
theorem zs1 : fsz (fI 0) ≤ 40 := by decide +kernel
theorem zs2 : fsz (fS ByteArray.empty) ≤ 40 := by decide +kernel
theorem zs3 : fsz (fS ByteArray.empty) ≤ 40 := by decide +kernel
theorem zs4 : fsz (fI 0) ≤ 40 := by decide +kernel
theorem zs5 : fsz (fI 0) ≤ 40 := by decide +kernel
theorem zs6 : fsz (fI 0) ≤ 40 := by decide +kernel
theorem zs7 : fsz (fS ByteArray.empty) ≤ 40 := by decide +kernel
theorem zs8 : fsz (fS ByteArray.empty) ≤ 40 := by decide +kernel
theorem zs9 : fsz (fL [(fS ByteArray.empty), (fS ByteArray.empty), (fI 0)]) ≤ 40 := by decide +kernel
theorem zs10 : fsz (fL []) ≤ 40 := by decide +kernel
theorem zs11 : fsz (fL []) ≤ 40 := by decide +kernel
theorem zs12 : fsz (fL [(fI 0), (fI 0), (fL []), (fL []), (fL []), (fS ByteArray.empty)]) ≤ 40 := by decide +kernel
theorem zs13 : fsz (fL [(fS ByteArray.empty), (fL []), (fI 0), (fI 0), (fI 0), (fI 0), (fI 0), (fI 0), (fL [])]) ≤ 40 := by decide +kernel
theorem zs14 : fsz (fL [(fS ByteArray.empty), (fS ByteArray.empty), (fI 0), (fL []), (fL [])]) ≤ 40 := by decide +kernel
theorem zs15 : fsz (fL [fL [(fS ByteArray.empty), (fI 0), (fS ByteArray.empty)], (fS ByteArray.empty), (fI 0), (fI 0), (fI 0), (fI 0)]) ≤ 40 := by decide +kernel
theorem getD_at {l : List Value} {n j : Nat} (h : l.length = n) (hj : j < n) : l[j]? = some (l.getD j undef) := by
 rw [List.getD_eq_getElem?_getD, List.getElem?_eq_getElem (by omega)]; rfl
theorem sixteen {α : Type} {l : List α} (h : l.length = 16) : ∃ a b c d e f g i j k m n o p q r, l = [a, b, c, d, e, f, g, i, j, k, m, n, o, p, q, r] := by
 match l, h with
 | [a, b, c, d, e, f, g, i, j, k, m, n, o, p, q, r], _ => exact ⟨a, b, c, d, e, f, g, i, j, k, m, n, o, p, q, r, rfl⟩
theorem restF_sz (fs : List FV) (k : Nat) : lsz (restF k fs) ≤ lsz fs + 400 := by
 have key : ∀ (L : List Nat) (l : List FV), lsz (L.foldl (fun l i => l.set i (zeroFs.getD i (fI 0))) l) ≤ lsz l + 40 * L.length := by
  intro L
  induction L with
  | nil => intro l; simp
  | cons i L ih =>
   intro l
   have h1 := ih (l.set i (zeroFs.getD i (fI 0)))
   have h2 := lsz_set l i (zeroFs.getD i (fI 0))
   have h3 : fsz (zeroFs.getD i (fI 0)) ≤ 40 := by
    match i with
    | 0 => exact zs0
    | 1 => exact zs1
    | 2 => exact zs2
    | 3 => exact zs3
    | 4 => exact zs4
    | 5 => exact zs5
    | 6 => exact zs6
    | 7 => exact zs7
    | 8 => exact zs8
    | 9 => exact zs9
    | 10 => exact zs10
    | 11 => exact zs11
    | 12 => exact zs12
    | 13 => exact zs13
    | 14 => exact zs14
    | 15 => exact zs15
    | n + 16 => exact zs0
   simp only [List.foldl_cons, List.length_cons]
   omega
 have h1 := key (usedL k) fs
 have h2 : (usedL k).length ≤ 10 := by
  unfold usedL
  split <;> decide
 unfold restF
 omega
end Go.Proofs.YtgdapkglofchjaaGreatDoor
