/- Joined: JnE JnE2 JnG. -/
import Derived.Test.YtgdapkglofchjaaGreatDoorF6
set_option maxRecDepth 100000
set_option maxHeartbeats 4000000
set_option linter.unusedVariables false
namespace Go.Proofs.YtgdapkglofchjaaGreatDoor
open Go.RowKit
def eqF : Flds → Flds → Bool
 | .nil, .nil => true
 | .cons k x s sub r, .cons k' x' s' sub' r' => (k == k' && (x == x' && (s.toList == s'.toList && eqF sub sub'))) && eqF r r'
 | .nil, .cons _ _ _ _ _ => false
 | .cons _ _ _ _ _, .nil => false
def eq1 (k x : Int) (s : ByteArray) (sub : Flds) (k' x' : Int) (s' : ByteArray) (sub' : Flds) : Bool := k == k' && (x == x' && (s.toList == s'.toList && eqF sub sub'))
theorem eqF_cons (k x : Int) (s : ByteArray) (sub r : Flds) (k' x' : Int) (s' : ByteArray) (sub' r' : Flds) : eqF (.cons k x s sub r) (.cons k' x' s' sub' r') = (eq1 k x s sub k' x' s' sub' && eqF r r') := rfl
theorem ba_eq {s t : ByteArray} (h : s.toList = t.toList) : s = t := by
 rw [ByteArray.toList_eq, ByteArray.toList_eq] at h
 cases s; cases t
 congr 1
 exact Array.toList_inj.1 h
theorem eqF_iff : ∀ f g : Flds, eqF f g = true ↔ f = g
 | .nil, .nil => by simp [eqF]
 | .nil, .cons _ _ _ _ _ => by simp [eqF]
 | .cons _ _ _ _ _, .nil => by simp [eqF]
 | .cons k x s sub r, .cons k' x' s' sub' r' => by
  rw [eqF_cons, eq1]
  simp only [Bool.and_eq_true, beq_iff_eq, eqF_iff sub sub', eqF_iff r r', Flds.cons.injEq]
  constructor
  ·rintro ⟨⟨h1, h2, h3, h4⟩, h5⟩
   exact ⟨h1, h2, ba_eq h3, h4, h5⟩
  ·rintro ⟨h1, h2, h3, h4, h5⟩
   exact ⟨⟨h1, h2, by rw [h3], h4⟩, h5⟩
theorem eqF_refl (f : Flds) : eqF f f = true := (eqF_iff f f).2 rfl
theorem eqF_len {f g : Flds} (h : f.length ≠ g.length) : eqF f g = false := by
 cases he : eqF f g with
 | false => rfl
 | true => exact absurd (congrArg Flds.length ((eqF_iff f g).1 he)) h
theorem eqF_at {f g : Flds} {i : Nat} {k x k' x' : Int} {s s' : ByteArray} {sub sub' : Flds} (h : f.get? i = some (k, x, s, sub)) (h' : g.get? i = some (k', x', s', sub')) : eqF (f.drop i) (g.drop i) = (eq1 k x s sub k' x' s' sub' && eqF (f.drop (i + 1)) (g.drop (i + 1))) := by
 rw [Flds.drop_get f i h, Flds.drop_get g i h', eqF_cons]
theorem eqF_end {f g : Flds} {i : Nat} (h : f.length ≤ i) (h' : g.length ≤ i) : eqF (f.drop i) (g.drop i) = true := by
 rw [Flds.drop_end f i h, Flds.drop_end g i h']; rfl
def RSame (f : Flds) : Prop := ∀ (g : Flds) (A1 : Option Addr) (c1 : Nat) (cs1 : List Value) (A2 : Option Addr) (c2 : Nat) (cs2 : List Value) (w : World) (B : Nat), B ≤ w.heap.size → Seq w B 4 A1 f.length cs1 → RepF w B f cs1 → Seq w B 4 A2 g.length cs2 → RepF w B g cs2 → f.size ≤ 1000000000 → g.size ≤ 1000000000 →
 Calls Tryz.prog 34 #[.slice A1 f.length c1, .slice A2 g.length c2] w fun e w' => e = .returned (.bool (eqF f g)) ∧ Below w.heap.size w w'
theorem rsame_body (f : Flds) (ih : ∀ i k x s sub, f.get? i = some (k, x, s, sub) → RSame sub) : RSame f := by
 intro g A1 c1 cs1 A2 c2 cs2 w B hB hs1 hr1 hs2 hr2 hsz hsz'
 have hlen := Flds.length_le_size f
 have hlen' := Flds.length_le_size g
 have Ih := Lib.hid ih; clear ih
 by_cases hfg : f.length = g.length
 ·have hn : ((f.length : Int) == (g.length : Int)) = true := by simp [hfg]
  have hn' : ((f.length : Int) != (g.length : Int)) = false := by simp [hfg]
  replace hfg := Lib.hid hfg
  go_enter Tryz.func34, Tryz.ntmps34
  repeat' (first | go_skip | go_guarded | go_step)
  go_loopw [5] (fun u5 wr => ∃ (i : Nat), i ≤ f.length ∧ u5 = .int .i64 (i : Int) ∧ Below w.heap.size w wr ∧ eqF f g = eqF (f.drop i) (g.drop i)) (fun u5 _ => f.length - (intOf u5).toNat)
  case atStart => exact ⟨0, by omega, rfl, Below.refl _ _, by rw [Flds.drop_zero, Flds.drop_zero]⟩
  case round =>
   obtain ⟨i, hi, rfl, hbr, hu⟩ := hrel
   have hfg' := hfg.out
   by_cases hlt : i < f.length
   ·obtain ⟨⟨k, x, s, sub⟩, hg⟩ := Flds.get?_lt f i hlt
    obtain ⟨⟨k', x', s', sub'⟩, hg'⟩ := Flds.get?_lt g i (by omega)
    obtain ⟨b1, o1, rfl, hb1, hcell1⟩ := hs1.2 (by omega)
    obtain ⟨b2, o2, rfl, hb2, hcell2⟩ := hs2.2 (by omega)
    obtain ⟨A3, c3, cs3, g1, g2, g3, g4, _, _, hs3, hr3⟩ := RepF.at_ hr1 hg
    obtain ⟨A4, c4, cs4, g5, g6, g7, g8, _, _, hs4, hr4⟩ := RepF.at_ hr2 hg'
    have e1 := (hbr.cell (p := ⟨b1, o1 + i * 4, none⟩) (by dsimp only; omega)).trans (hcell1 _ _ g1)
    have e2 := (hbr.cell (p := ⟨b1, o1 + (i * 4 + 1), none⟩) (by dsimp only; omega)).trans (hcell1 _ _ g2)
    have e3 := (hbr.cell (p := ⟨b1, o1 + (i * 4 + 2), none⟩) (by dsimp only; omega)).trans (hcell1 _ _ g3)
    have e4 := (hbr.cell (p := ⟨b1, o1 + (i * 4 + 3), none⟩) (by dsimp only; omega)).trans (hcell1 _ _ g4)
    have e5 := (hbr.cell (p := ⟨b2, o2 + i * 4, none⟩) (by dsimp only; omega)).trans (hcell2 _ _ g5)
    have e6 := (hbr.cell (p := ⟨b2, o2 + (i * 4 + 1), none⟩) (by dsimp only; omega)).trans (hcell2 _ _ g6)
    have e7 := (hbr.cell (p := ⟨b2, o2 + (i * 4 + 2), none⟩) (by dsimp only; omega)).trans (hcell2 _ _ g7)
    have e8 := (hbr.cell (p := ⟨b2, o2 + (i * 4 + 3), none⟩) (by dsimp only; omega)).trans (hcell2 _ _ g8)
    rw [← Nat.add_assoc] at e2 e3 e4 e6 e7 e8
    clear g1 g2 g3 g4 g5 g6 g7 g8 hcell1 hcell2 hr1 hr2 hs1 hs2
    have hbw1 : b1 < wr.heap.size := by have := hbr.size; omega
    have hbw2 : b2 < wr.heap.size := by have := hbr.size; omega
    have hsz1 := Flds.get?_size f i hg
    have hsz2 := Flds.get?_size g i hg'
    have C := fun (w2 : World) (hb : Below wr.heap.size wr w2) => Ih.out i k x s sub hg sub' A3 c3 cs3 A4 c4 cs4 w2 B (Nat.le_trans (Nat.le_trans hB hbr.size) hb.size) (hs3.below ((hbr.mono hB).trans (hb.mono (Nat.le_trans hB hbr.size)))) (hr3.below ((hbr.mono hB).trans (hb.mono (Nat.le_trans hB hbr.size)))) (hs4.below ((hbr.mono hB).trans (hb.mono (Nat.le_trans hB hbr.size)))) (hr4.below ((hbr.mono hB).trans (hb.mono (Nat.le_trans hB hbr.size)))) (by omega) (by omega)
    replace C := Lib.hid C
    clear hs3 hr3 hs4 hr4
    have he := eqF_at hg hg'
    clear hg hg'
    have f1 : (0 : Int) ≤ (i : Int) := by omega
    have f2 : (i : Int) < (f.length : Int) := by omega
    have f2' : (i : Int) < (g.length : Int) := by omega
    replace hsz1 := Lib.hid hsz1
    replace hsz2 := Lib.hid hsz2
    rw [he] at hu
    clear he hfg'
    replace hu := Lib.hid hu
    repeat' ((fail_if_success at_builtin); first | go_skip | go_guarded | go_step)
    by_cases hk : k = k'
    ·skip
     have q1 : (k == k') = true := by simpa using hk
     have p1 : (k != k') = false := by simpa using hk
     by_cases hx : x = x'
     ·skip
      have q2 : (x == x') = true := by simpa using hx
      have p2 : (x != x') = false := by simpa using hx
      by_cases hs : s.toList = s'.toList
      ·skip
       have q3 : (s.toList == s'.toList) = true := by simpa using hs
       have p3 : (s.toList != s'.toList) = false := by simpa using hs
       clear hk hx hs
       cases hq : eqF sub sub' with
       | true =>
        have hS0 : (Below wr.heap.size wr wr ∧ wr.cell? ⟨b1, o1 + i * 4, none⟩ = some (.int .i64 k) ∧ wr.cell? ⟨b1, o1 + i * 4 + 1, none⟩ = some (.int .i64 x) ∧ wr.cell? ⟨b1, o1 + i * 4 + 2, none⟩ = some (.string s) ∧ wr.cell? ⟨b1, o1 + i * 4 + 3, none⟩ = some (.slice A3 sub.length c3) ∧ wr.cell? ⟨b2, o2 + i * 4, none⟩ = some (.int .i64 k') ∧ wr.cell? ⟨b2, o2 + i * 4 + 1, none⟩ = some (.int .i64 x') ∧ wr.cell? ⟨b2, o2 + i * 4 + 2, none⟩ = some (.string s') ∧ wr.cell? ⟨b2, o2 + i * 4 + 3, none⟩ = some (.slice A4 sub'.length c4)) := ⟨Below.refl _ _, e1, e2, e3, e4, e5, e6, e7, e8⟩
        have keepS : ∀ v1 v2 : World, (Below wr.heap.size wr v1 ∧ v1.cell? ⟨b1, o1 + i * 4, none⟩ = some (.int .i64 k) ∧ v1.cell? ⟨b1, o1 + i * 4 + 1, none⟩ = some (.int .i64 x) ∧ v1.cell? ⟨b1, o1 + i * 4 + 2, none⟩ = some (.string s) ∧ v1.cell? ⟨b1, o1 + i * 4 + 3, none⟩ = some (.slice A3 sub.length c3) ∧ v1.cell? ⟨b2, o2 + i * 4, none⟩ = some (.int .i64 k') ∧ v1.cell? ⟨b2, o2 + i * 4 + 1, none⟩ = some (.int .i64 x') ∧ v1.cell? ⟨b2, o2 + i * 4 + 2, none⟩ = some (.string s') ∧ v1.cell? ⟨b2, o2 + i * 4 + 3, none⟩ = some (.slice A4 sub'.length c4)) → Below v1.heap.size v1 v2 → (Below wr.heap.size wr v2 ∧ v2.cell? ⟨b1, o1 + i * 4, none⟩ = some (.int .i64 k) ∧ v2.cell? ⟨b1, o1 + i * 4 + 1, none⟩ = some (.int .i64 x) ∧ v2.cell? ⟨b1, o1 + i * 4 + 2, none⟩ = some (.string s) ∧ v2.cell? ⟨b1, o1 + i * 4 + 3, none⟩ = some (.slice A3 sub.length c3) ∧ v2.cell? ⟨b2, o2 + i * 4, none⟩ = some (.int .i64 k') ∧ v2.cell? ⟨b2, o2 + i * 4 + 1, none⟩ = some (.int .i64 x') ∧ v2.cell? ⟨b2, o2 + i * 4 + 2, none⟩ = some (.string s') ∧ v2.cell? ⟨b2, o2 + i * 4 + 3, none⟩ = some (.slice A4 sub'.length c4)) := fun v1 v2 h hb => ⟨h.1.trans (hb.mono h.1.size), (hb.cell (p := ⟨b1, _, none⟩) (Nat.lt_of_lt_of_le hbw1 h.1.size)).trans h.2.1, (hb.cell (p := ⟨b1, _, none⟩) (Nat.lt_of_lt_of_le hbw1 h.1.size)).trans h.2.2.1, (hb.cell (p := ⟨b1, _, none⟩) (Nat.lt_of_lt_of_le hbw1 h.1.size)).trans h.2.2.2.1, (hb.cell (p := ⟨b1, _, none⟩) (Nat.lt_of_lt_of_le hbw1 h.1.size)).trans h.2.2.2.2.1, (hb.cell (p := ⟨b2, _, none⟩) (Nat.lt_of_lt_of_le hbw2 h.1.size)).trans h.2.2.2.2.2.1, (hb.cell (p := ⟨b2, _, none⟩) (Nat.lt_of_lt_of_le hbw2 h.1.size)).trans h.2.2.2.2.2.2.1, (hb.cell (p := ⟨b2, _, none⟩) (Nat.lt_of_lt_of_le hbw2 h.1.size)).trans h.2.2.2.2.2.2.2.1, (hb.cell (p := ⟨b2, _, none⟩) (Nat.lt_of_lt_of_le hbw2 h.1.size)).trans h.2.2.2.2.2.2.2.2⟩
        have hS1 : (Below wr.heap.size wr wr.drew ∧ wr.drew.cell? ⟨b1, o1 + i * 4, none⟩ = some (.int .i64 k) ∧ wr.drew.cell? ⟨b1, o1 + i * 4 + 1, none⟩ = some (.int .i64 x) ∧ wr.drew.cell? ⟨b1, o1 + i * 4 + 2, none⟩ = some (.string s) ∧ wr.drew.cell? ⟨b1, o1 + i * 4 + 3, none⟩ = some (.slice A3 sub.length c3) ∧ wr.drew.cell? ⟨b2, o2 + i * 4, none⟩ = some (.int .i64 k') ∧ wr.drew.cell? ⟨b2, o2 + i * 4 + 1, none⟩ = some (.int .i64 x') ∧ wr.drew.cell? ⟨b2, o2 + i * 4 + 2, none⟩ = some (.string s') ∧ wr.drew.cell? ⟨b2, o2 + i * 4 + 3, none⟩ = some (.slice A4 sub'.length c4)) := keepS _ _ hS0 ((Below.refl _ _).drew)
        replace keepS := Lib.hid keepS
        clear hS0
        go_upto_region 6 with (fail)
        refine wp_region_held_drew (S := fun w' => Below wr.heap.size wr w' ∧ w'.cell? ⟨b1, o1 + i * 4, none⟩ = some (.int .i64 k) ∧ w'.cell? ⟨b1, o1 + i * 4 + 1, none⟩ = some (.int .i64 x) ∧ w'.cell? ⟨b1, o1 + i * 4 + 2, none⟩ = some (.string s) ∧ w'.cell? ⟨b1, o1 + i * 4 + 3, none⟩ = some (.slice A3 sub.length c3) ∧ w'.cell? ⟨b2, o2 + i * 4, none⟩ = some (.int .i64 k') ∧ w'.cell? ⟨b2, o2 + i * 4 + 1, none⟩ = some (.int .i64 x') ∧ w'.cell? ⟨b2, o2 + i * 4 + 2, none⟩ = some (.string s') ∧ w'.cell? ⟨b2, o2 + i * 4 + 3, none⟩ = some (.slice A4 sub'.length c4)) (by kernel_rfl) ?_ (fun hHeld => ?_)
        ·(try dsimp only)
         exact hS1
        refine tkQ 0 ?_
        refine tkQ 1 ?_
        refine tkQ 2 ?_
        refine tkQ 3 ?_
        refine tkQ 4 ?_
        refine tkQ 5 ?_
        refine tkQ 6 ?_
        refine tkQ 7 ?_
        refine tkQ 8 ?_
        refine tkQ 9 ?_
        refine tkQ 10 ?_
        refine tkQ 11 ?_
        refine tkQ 12 ?_
        refine tkQ 13 ?_
        refine tkQ 14 ?_
        refine tkQ 15 ?_
        refine tkQ 16 ?_
        refine tkQ 17 ?_
        refine tkQ 18 ?_
        refine tkQ 19 ?_
        refine tkQ 20 ?_
        refine tkQ 21 ?_
        refine tkQ 22 ?_
        refine tkQ 23 ?_
        refine tkQ 24 ?_
        refine tkQ 25 ?_
        refine tkQ 26 ?_
        refine tkQ 27 ?_
        refine tkQ 28 ?_
        refine tkQ 29 ?_
        refine tkQ 30 ?_
        refine tkQ 31 ?_
        refine tkQ 32 ?_
        refine tkQ 33 ?_
        refine tkQ 34 ?_
        refine tkQ 35 ?_
        refine tkQ 36 ?_
        refine tkQ 37 ?_
        refine tkQ 38 ?_
        refine tkQ 39 ?_
        refine tkQ 40 ?_
        refine tkQ 41 ?_
        refine tkQ 42 ?_
        refine tkQ 43 ?_
        refine tkQ 44 ?_
        refine tkQ 45 ?_
        refine tkQ 46 ?_
        refine tkQ 47 ?_
        refine rdO 48 fun K hK => ?_
        go_simp
        go_at_call 34
        have CJ := C.out _ hHeld.1
        rw [hq] at CJ
        refine CJ.mono ?_
        clear CJ
        rintro e w7 ⟨rfl, hbq⟩
        dsimp only
        refine hkO hK (keepS.out _ _ hHeld hbq) fun hHeld => ?_
        clear hK K
        refine tkQ 49 ?_
        refine tkQ 50 ?_
        refine wpAnyH_done (by kernel_rfl) ?_ _
        have hbW := hHeld.1
        clear hHeld hS1 keepS
        have hbx := hbr.trans (hbW.mono hbr.size)
        clear hbW e1 e2 e3 e4 e5 e6 e7 e8
        have f3 : IntKind.i64.wrap ((i : Int) + 1) = (i : Int) + 1 := IntWalk.i64_in _ (by omega)
        repeat' (first | go_skip | go_guarded | go_step)
        go_roundw
        case rel =>
         have hu' := hu.out
         unfold eq1 at hu'
         rw [q1, q2, q3, hq] at hu'
         exact ⟨i + 1, by omega, by congr 1, hbx, by simpa using hu'⟩
        case measure => simp [intOf]; omega
       | false =>
        have hS0 : (Below wr.heap.size wr wr ∧ wr.cell? ⟨b1, o1 + i * 4, none⟩ = some (.int .i64 k) ∧ wr.cell? ⟨b1, o1 + i * 4 + 1, none⟩ = some (.int .i64 x) ∧ wr.cell? ⟨b1, o1 + i * 4 + 2, none⟩ = some (.string s) ∧ wr.cell? ⟨b1, o1 + i * 4 + 3, none⟩ = some (.slice A3 sub.length c3) ∧ wr.cell? ⟨b2, o2 + i * 4, none⟩ = some (.int .i64 k') ∧ wr.cell? ⟨b2, o2 + i * 4 + 1, none⟩ = some (.int .i64 x') ∧ wr.cell? ⟨b2, o2 + i * 4 + 2, none⟩ = some (.string s') ∧ wr.cell? ⟨b2, o2 + i * 4 + 3, none⟩ = some (.slice A4 sub'.length c4)) := ⟨Below.refl _ _, e1, e2, e3, e4, e5, e6, e7, e8⟩
        have keepS : ∀ v1 v2 : World, (Below wr.heap.size wr v1 ∧ v1.cell? ⟨b1, o1 + i * 4, none⟩ = some (.int .i64 k) ∧ v1.cell? ⟨b1, o1 + i * 4 + 1, none⟩ = some (.int .i64 x) ∧ v1.cell? ⟨b1, o1 + i * 4 + 2, none⟩ = some (.string s) ∧ v1.cell? ⟨b1, o1 + i * 4 + 3, none⟩ = some (.slice A3 sub.length c3) ∧ v1.cell? ⟨b2, o2 + i * 4, none⟩ = some (.int .i64 k') ∧ v1.cell? ⟨b2, o2 + i * 4 + 1, none⟩ = some (.int .i64 x') ∧ v1.cell? ⟨b2, o2 + i * 4 + 2, none⟩ = some (.string s') ∧ v1.cell? ⟨b2, o2 + i * 4 + 3, none⟩ = some (.slice A4 sub'.length c4)) → Below v1.heap.size v1 v2 → (Below wr.heap.size wr v2 ∧ v2.cell? ⟨b1, o1 + i * 4, none⟩ = some (.int .i64 k) ∧ v2.cell? ⟨b1, o1 + i * 4 + 1, none⟩ = some (.int .i64 x) ∧ v2.cell? ⟨b1, o1 + i * 4 + 2, none⟩ = some (.string s) ∧ v2.cell? ⟨b1, o1 + i * 4 + 3, none⟩ = some (.slice A3 sub.length c3) ∧ v2.cell? ⟨b2, o2 + i * 4, none⟩ = some (.int .i64 k') ∧ v2.cell? ⟨b2, o2 + i * 4 + 1, none⟩ = some (.int .i64 x') ∧ v2.cell? ⟨b2, o2 + i * 4 + 2, none⟩ = some (.string s') ∧ v2.cell? ⟨b2, o2 + i * 4 + 3, none⟩ = some (.slice A4 sub'.length c4)) := fun v1 v2 h hb => ⟨h.1.trans (hb.mono h.1.size), (hb.cell (p := ⟨b1, _, none⟩) (Nat.lt_of_lt_of_le hbw1 h.1.size)).trans h.2.1, (hb.cell (p := ⟨b1, _, none⟩) (Nat.lt_of_lt_of_le hbw1 h.1.size)).trans h.2.2.1, (hb.cell (p := ⟨b1, _, none⟩) (Nat.lt_of_lt_of_le hbw1 h.1.size)).trans h.2.2.2.1, (hb.cell (p := ⟨b1, _, none⟩) (Nat.lt_of_lt_of_le hbw1 h.1.size)).trans h.2.2.2.2.1, (hb.cell (p := ⟨b2, _, none⟩) (Nat.lt_of_lt_of_le hbw2 h.1.size)).trans h.2.2.2.2.2.1, (hb.cell (p := ⟨b2, _, none⟩) (Nat.lt_of_lt_of_le hbw2 h.1.size)).trans h.2.2.2.2.2.2.1, (hb.cell (p := ⟨b2, _, none⟩) (Nat.lt_of_lt_of_le hbw2 h.1.size)).trans h.2.2.2.2.2.2.2.1, (hb.cell (p := ⟨b2, _, none⟩) (Nat.lt_of_lt_of_le hbw2 h.1.size)).trans h.2.2.2.2.2.2.2.2⟩
        have hS1 : (Below wr.heap.size wr wr.drew ∧ wr.drew.cell? ⟨b1, o1 + i * 4, none⟩ = some (.int .i64 k) ∧ wr.drew.cell? ⟨b1, o1 + i * 4 + 1, none⟩ = some (.int .i64 x) ∧ wr.drew.cell? ⟨b1, o1 + i * 4 + 2, none⟩ = some (.string s) ∧ wr.drew.cell? ⟨b1, o1 + i * 4 + 3, none⟩ = some (.slice A3 sub.length c3) ∧ wr.drew.cell? ⟨b2, o2 + i * 4, none⟩ = some (.int .i64 k') ∧ wr.drew.cell? ⟨b2, o2 + i * 4 + 1, none⟩ = some (.int .i64 x') ∧ wr.drew.cell? ⟨b2, o2 + i * 4 + 2, none⟩ = some (.string s') ∧ wr.drew.cell? ⟨b2, o2 + i * 4 + 3, none⟩ = some (.slice A4 sub'.length c4)) := keepS _ _ hS0 ((Below.refl _ _).drew)
        replace keepS := Lib.hid keepS
        clear hS0
        go_upto_region 6 with (fail)
        refine wp_region_held_drew (S := fun w' => Below wr.heap.size wr w' ∧ w'.cell? ⟨b1, o1 + i * 4, none⟩ = some (.int .i64 k) ∧ w'.cell? ⟨b1, o1 + i * 4 + 1, none⟩ = some (.int .i64 x) ∧ w'.cell? ⟨b1, o1 + i * 4 + 2, none⟩ = some (.string s) ∧ w'.cell? ⟨b1, o1 + i * 4 + 3, none⟩ = some (.slice A3 sub.length c3) ∧ w'.cell? ⟨b2, o2 + i * 4, none⟩ = some (.int .i64 k') ∧ w'.cell? ⟨b2, o2 + i * 4 + 1, none⟩ = some (.int .i64 x') ∧ w'.cell? ⟨b2, o2 + i * 4 + 2, none⟩ = some (.string s') ∧ w'.cell? ⟨b2, o2 + i * 4 + 3, none⟩ = some (.slice A4 sub'.length c4)) (by kernel_rfl) ?_ (fun hHeld => ?_)
        ·(try dsimp only)
         exact hS1
        refine tkQ 0 ?_
        refine tkQ 1 ?_
        refine tkQ 2 ?_
        refine tkQ 3 ?_
        refine tkQ 4 ?_
        refine tkQ 5 ?_
        refine tkQ 6 ?_
        refine tkQ 7 ?_
        refine tkQ 8 ?_
        refine tkQ 9 ?_
        refine tkQ 10 ?_
        refine tkQ 11 ?_
        refine tkQ 12 ?_
        refine tkQ 13 ?_
        refine tkQ 14 ?_
        refine tkQ 15 ?_
        refine tkQ 16 ?_
        refine tkQ 17 ?_
        refine tkQ 18 ?_
        refine tkQ 19 ?_
        refine tkQ 20 ?_
        refine tkQ 21 ?_
        refine tkQ 22 ?_
        refine tkQ 23 ?_
        refine tkQ 24 ?_
        refine tkQ 25 ?_
        refine tkQ 26 ?_
        refine tkQ 27 ?_
        refine tkQ 28 ?_
        refine tkQ 29 ?_
        refine tkQ 30 ?_
        refine tkQ 31 ?_
        refine tkQ 32 ?_
        refine tkQ 33 ?_
        refine tkQ 34 ?_
        refine tkQ 35 ?_
        refine tkQ 36 ?_
        refine tkQ 37 ?_
        refine tkQ 38 ?_
        refine tkQ 39 ?_
        refine tkQ 40 ?_
        refine tkQ 41 ?_
        refine tkQ 42 ?_
        refine tkQ 43 ?_
        refine tkQ 44 ?_
        refine tkQ 45 ?_
        refine tkQ 46 ?_
        refine tkQ 47 ?_
        refine rdO 48 fun K hK => ?_
        go_simp
        go_at_call 34
        have CJ := C.out _ hHeld.1
        rw [hq] at CJ
        refine CJ.mono ?_
        clear CJ
        rintro e w7 ⟨rfl, hbq⟩
        dsimp only
        refine hkO hK (keepS.out _ _ hHeld hbq) fun hHeld => ?_
        clear hK K
        refine tkQ 49 ?_
        refine tkQ 50 ?_
        refine wpAnyH_done (by kernel_rfl) ?_ _
        have hbW := hHeld.1
        clear hHeld hS1 keepS
        have hbx := hbr.trans (hbW.mono hbr.size)
        clear hbW e1 e2 e3 e4 e5 e6 e7 e8
        repeat' (first | go_skip | go_guarded | go_step)
        go_ret
        have hu' := hu.out
        unfold eq1 at hu'
        rw [q1, q2, q3, hq] at hu'
        exact ⟨ret_b hu'.symm, hbx⟩
      ·skip
       have q3 : (s.toList == s'.toList) = false := by simpa using hs
       have p3 : (s.toList != s'.toList) = true := by simpa using hs
       clear hk hx hs
       have hS0 : (Below wr.heap.size wr wr ∧ wr.cell? ⟨b1, o1 + i * 4, none⟩ = some (.int .i64 k) ∧ wr.cell? ⟨b1, o1 + i * 4 + 1, none⟩ = some (.int .i64 x) ∧ wr.cell? ⟨b1, o1 + i * 4 + 2, none⟩ = some (.string s) ∧ wr.cell? ⟨b1, o1 + i * 4 + 3, none⟩ = some (.slice A3 sub.length c3) ∧ wr.cell? ⟨b2, o2 + i * 4, none⟩ = some (.int .i64 k') ∧ wr.cell? ⟨b2, o2 + i * 4 + 1, none⟩ = some (.int .i64 x') ∧ wr.cell? ⟨b2, o2 + i * 4 + 2, none⟩ = some (.string s') ∧ wr.cell? ⟨b2, o2 + i * 4 + 3, none⟩ = some (.slice A4 sub'.length c4)) := ⟨Below.refl _ _, e1, e2, e3, e4, e5, e6, e7, e8⟩
       have keepS : ∀ v1 v2 : World, (Below wr.heap.size wr v1 ∧ v1.cell? ⟨b1, o1 + i * 4, none⟩ = some (.int .i64 k) ∧ v1.cell? ⟨b1, o1 + i * 4 + 1, none⟩ = some (.int .i64 x) ∧ v1.cell? ⟨b1, o1 + i * 4 + 2, none⟩ = some (.string s) ∧ v1.cell? ⟨b1, o1 + i * 4 + 3, none⟩ = some (.slice A3 sub.length c3) ∧ v1.cell? ⟨b2, o2 + i * 4, none⟩ = some (.int .i64 k') ∧ v1.cell? ⟨b2, o2 + i * 4 + 1, none⟩ = some (.int .i64 x') ∧ v1.cell? ⟨b2, o2 + i * 4 + 2, none⟩ = some (.string s') ∧ v1.cell? ⟨b2, o2 + i * 4 + 3, none⟩ = some (.slice A4 sub'.length c4)) → Below v1.heap.size v1 v2 → (Below wr.heap.size wr v2 ∧ v2.cell? ⟨b1, o1 + i * 4, none⟩ = some (.int .i64 k) ∧ v2.cell? ⟨b1, o1 + i * 4 + 1, none⟩ = some (.int .i64 x) ∧ v2.cell? ⟨b1, o1 + i * 4 + 2, none⟩ = some (.string s) ∧ v2.cell? ⟨b1, o1 + i * 4 + 3, none⟩ = some (.slice A3 sub.length c3) ∧ v2.cell? ⟨b2, o2 + i * 4, none⟩ = some (.int .i64 k') ∧ v2.cell? ⟨b2, o2 + i * 4 + 1, none⟩ = some (.int .i64 x') ∧ v2.cell? ⟨b2, o2 + i * 4 + 2, none⟩ = some (.string s') ∧ v2.cell? ⟨b2, o2 + i * 4 + 3, none⟩ = some (.slice A4 sub'.length c4)) := fun v1 v2 h hb => ⟨h.1.trans (hb.mono h.1.size), (hb.cell (p := ⟨b1, _, none⟩) (Nat.lt_of_lt_of_le hbw1 h.1.size)).trans h.2.1, (hb.cell (p := ⟨b1, _, none⟩) (Nat.lt_of_lt_of_le hbw1 h.1.size)).trans h.2.2.1, (hb.cell (p := ⟨b1, _, none⟩) (Nat.lt_of_lt_of_le hbw1 h.1.size)).trans h.2.2.2.1, (hb.cell (p := ⟨b1, _, none⟩) (Nat.lt_of_lt_of_le hbw1 h.1.size)).trans h.2.2.2.2.1, (hb.cell (p := ⟨b2, _, none⟩) (Nat.lt_of_lt_of_le hbw2 h.1.size)).trans h.2.2.2.2.2.1, (hb.cell (p := ⟨b2, _, none⟩) (Nat.lt_of_lt_of_le hbw2 h.1.size)).trans h.2.2.2.2.2.2.1, (hb.cell (p := ⟨b2, _, none⟩) (Nat.lt_of_lt_of_le hbw2 h.1.size)).trans h.2.2.2.2.2.2.2.1, (hb.cell (p := ⟨b2, _, none⟩) (Nat.lt_of_lt_of_le hbw2 h.1.size)).trans h.2.2.2.2.2.2.2.2⟩
       have hS1 : (Below wr.heap.size wr wr.drew ∧ wr.drew.cell? ⟨b1, o1 + i * 4, none⟩ = some (.int .i64 k) ∧ wr.drew.cell? ⟨b1, o1 + i * 4 + 1, none⟩ = some (.int .i64 x) ∧ wr.drew.cell? ⟨b1, o1 + i * 4 + 2, none⟩ = some (.string s) ∧ wr.drew.cell? ⟨b1, o1 + i * 4 + 3, none⟩ = some (.slice A3 sub.length c3) ∧ wr.drew.cell? ⟨b2, o2 + i * 4, none⟩ = some (.int .i64 k') ∧ wr.drew.cell? ⟨b2, o2 + i * 4 + 1, none⟩ = some (.int .i64 x') ∧ wr.drew.cell? ⟨b2, o2 + i * 4 + 2, none⟩ = some (.string s') ∧ wr.drew.cell? ⟨b2, o2 + i * 4 + 3, none⟩ = some (.slice A4 sub'.length c4)) := keepS _ _ hS0 ((Below.refl _ _).drew)
       replace keepS := Lib.hid keepS
       clear hS0
       go_upto_region 6 with (fail)
       refine wp_region_held_drew (S := fun w' => Below wr.heap.size wr w' ∧ w'.cell? ⟨b1, o1 + i * 4, none⟩ = some (.int .i64 k) ∧ w'.cell? ⟨b1, o1 + i * 4 + 1, none⟩ = some (.int .i64 x) ∧ w'.cell? ⟨b1, o1 + i * 4 + 2, none⟩ = some (.string s) ∧ w'.cell? ⟨b1, o1 + i * 4 + 3, none⟩ = some (.slice A3 sub.length c3) ∧ w'.cell? ⟨b2, o2 + i * 4, none⟩ = some (.int .i64 k') ∧ w'.cell? ⟨b2, o2 + i * 4 + 1, none⟩ = some (.int .i64 x') ∧ w'.cell? ⟨b2, o2 + i * 4 + 2, none⟩ = some (.string s') ∧ w'.cell? ⟨b2, o2 + i * 4 + 3, none⟩ = some (.slice A4 sub'.length c4)) (by kernel_rfl) ?_ (fun hHeld => ?_)
       ·(try dsimp only)
        exact hS1
       refine tkQ 0 ?_
       refine tkQ 1 ?_
       refine tkQ 2 ?_
       refine tkQ 3 ?_
       refine tkQ 4 ?_
       refine tkQ 5 ?_
       refine tkQ 6 ?_
       refine tkQ 7 ?_
       refine tkQ 8 ?_
       refine tkQ 9 ?_
       refine tkQ 10 ?_
       refine tkQ 11 ?_
       refine tkQ 12 ?_
       refine tkQ 13 ?_
       refine tkQ 14 ?_
       refine tkQ 15 ?_
       refine tkQ 16 ?_
       refine tkQ 17 ?_
       refine tkQ 18 ?_
       refine tkQ 19 ?_
       refine tkQ 20 ?_
       refine tkQ 21 ?_
       refine tkQ 22 ?_
       refine tkQ 23 ?_
       refine tkQ 24 ?_
       refine tkQ 25 ?_
       refine tkQ 26 ?_
       refine tkQ 27 ?_
       refine tkQ 28 ?_
       refine tkQ 29 ?_
       refine tkQ 30 ?_
       refine tkQ 31 ?_
       refine tkQ 32 ?_
       refine tkQ 33 ?_
       refine tkQ 34 ?_
       refine tkQ 35 ?_
       refine tkQ 36 ?_
       refine tkQ 37 ?_
       refine tkM 38 ?_
       refine tkM 39 ?_
       refine tkM 40 ?_
       refine tkM 41 ?_
       refine tkM 42 ?_
       refine tkM 43 ?_
       refine tkM 44 ?_
       refine tkM 45 ?_
       refine tkM 46 ?_
       refine tkM 47 ?_
       refine tkM 48 ?_
       refine tkM 49 ?_
       refine tkQ 50 ?_
       refine wpAnyH_done (by kernel_rfl) ?_ _
       have hbW := hHeld.1
       clear hHeld hS1 keepS
       have hbx := hbr.trans (hbW.mono hbr.size)
       clear hbW e1 e2 e3 e4 e5 e6 e7 e8
       repeat' (first | go_skip | go_guarded | go_step)
       go_ret
       have hu' := hu.out
       unfold eq1 at hu'
       rw [q1, q2, q3] at hu'
       exact ⟨ret_b (by simpa using hu'.symm), hbx⟩
     ·skip
      have q2 : (x == x') = false := by simpa using hx
      have p2 : (x != x') = true := by simpa using hx
      clear hk hx
      have hS0 : (Below wr.heap.size wr wr ∧ wr.cell? ⟨b1, o1 + i * 4, none⟩ = some (.int .i64 k) ∧ wr.cell? ⟨b1, o1 + i * 4 + 1, none⟩ = some (.int .i64 x) ∧ wr.cell? ⟨b1, o1 + i * 4 + 2, none⟩ = some (.string s) ∧ wr.cell? ⟨b1, o1 + i * 4 + 3, none⟩ = some (.slice A3 sub.length c3) ∧ wr.cell? ⟨b2, o2 + i * 4, none⟩ = some (.int .i64 k') ∧ wr.cell? ⟨b2, o2 + i * 4 + 1, none⟩ = some (.int .i64 x') ∧ wr.cell? ⟨b2, o2 + i * 4 + 2, none⟩ = some (.string s') ∧ wr.cell? ⟨b2, o2 + i * 4 + 3, none⟩ = some (.slice A4 sub'.length c4)) := ⟨Below.refl _ _, e1, e2, e3, e4, e5, e6, e7, e8⟩
      have keepS : ∀ v1 v2 : World, (Below wr.heap.size wr v1 ∧ v1.cell? ⟨b1, o1 + i * 4, none⟩ = some (.int .i64 k) ∧ v1.cell? ⟨b1, o1 + i * 4 + 1, none⟩ = some (.int .i64 x) ∧ v1.cell? ⟨b1, o1 + i * 4 + 2, none⟩ = some (.string s) ∧ v1.cell? ⟨b1, o1 + i * 4 + 3, none⟩ = some (.slice A3 sub.length c3) ∧ v1.cell? ⟨b2, o2 + i * 4, none⟩ = some (.int .i64 k') ∧ v1.cell? ⟨b2, o2 + i * 4 + 1, none⟩ = some (.int .i64 x') ∧ v1.cell? ⟨b2, o2 + i * 4 + 2, none⟩ = some (.string s') ∧ v1.cell? ⟨b2, o2 + i * 4 + 3, none⟩ = some (.slice A4 sub'.length c4)) → Below v1.heap.size v1 v2 → (Below wr.heap.size wr v2 ∧ v2.cell? ⟨b1, o1 + i * 4, none⟩ = some (.int .i64 k) ∧ v2.cell? ⟨b1, o1 + i * 4 + 1, none⟩ = some (.int .i64 x) ∧ v2.cell? ⟨b1, o1 + i * 4 + 2, none⟩ = some (.string s) ∧ v2.cell? ⟨b1, o1 + i * 4 + 3, none⟩ = some (.slice A3 sub.length c3) ∧ v2.cell? ⟨b2, o2 + i * 4, none⟩ = some (.int .i64 k') ∧ v2.cell? ⟨b2, o2 + i * 4 + 1, none⟩ = some (.int .i64 x') ∧ v2.cell? ⟨b2, o2 + i * 4 + 2, none⟩ = some (.string s') ∧ v2.cell? ⟨b2, o2 + i * 4 + 3, none⟩ = some (.slice A4 sub'.length c4)) := fun v1 v2 h hb => ⟨h.1.trans (hb.mono h.1.size), (hb.cell (p := ⟨b1, _, none⟩) (Nat.lt_of_lt_of_le hbw1 h.1.size)).trans h.2.1, (hb.cell (p := ⟨b1, _, none⟩) (Nat.lt_of_lt_of_le hbw1 h.1.size)).trans h.2.2.1, (hb.cell (p := ⟨b1, _, none⟩) (Nat.lt_of_lt_of_le hbw1 h.1.size)).trans h.2.2.2.1, (hb.cell (p := ⟨b1, _, none⟩) (Nat.lt_of_lt_of_le hbw1 h.1.size)).trans h.2.2.2.2.1, (hb.cell (p := ⟨b2, _, none⟩) (Nat.lt_of_lt_of_le hbw2 h.1.size)).trans h.2.2.2.2.2.1, (hb.cell (p := ⟨b2, _, none⟩) (Nat.lt_of_lt_of_le hbw2 h.1.size)).trans h.2.2.2.2.2.2.1, (hb.cell (p := ⟨b2, _, none⟩) (Nat.lt_of_lt_of_le hbw2 h.1.size)).trans h.2.2.2.2.2.2.2.1, (hb.cell (p := ⟨b2, _, none⟩) (Nat.lt_of_lt_of_le hbw2 h.1.size)).trans h.2.2.2.2.2.2.2.2⟩
      have hS1 : (Below wr.heap.size wr wr.drew ∧ wr.drew.cell? ⟨b1, o1 + i * 4, none⟩ = some (.int .i64 k) ∧ wr.drew.cell? ⟨b1, o1 + i * 4 + 1, none⟩ = some (.int .i64 x) ∧ wr.drew.cell? ⟨b1, o1 + i * 4 + 2, none⟩ = some (.string s) ∧ wr.drew.cell? ⟨b1, o1 + i * 4 + 3, none⟩ = some (.slice A3 sub.length c3) ∧ wr.drew.cell? ⟨b2, o2 + i * 4, none⟩ = some (.int .i64 k') ∧ wr.drew.cell? ⟨b2, o2 + i * 4 + 1, none⟩ = some (.int .i64 x') ∧ wr.drew.cell? ⟨b2, o2 + i * 4 + 2, none⟩ = some (.string s') ∧ wr.drew.cell? ⟨b2, o2 + i * 4 + 3, none⟩ = some (.slice A4 sub'.length c4)) := keepS _ _ hS0 ((Below.refl _ _).drew)
      replace keepS := Lib.hid keepS
      clear hS0
      go_upto_region 6 with (fail)
      refine wp_region_held_drew (S := fun w' => Below wr.heap.size wr w' ∧ w'.cell? ⟨b1, o1 + i * 4, none⟩ = some (.int .i64 k) ∧ w'.cell? ⟨b1, o1 + i * 4 + 1, none⟩ = some (.int .i64 x) ∧ w'.cell? ⟨b1, o1 + i * 4 + 2, none⟩ = some (.string s) ∧ w'.cell? ⟨b1, o1 + i * 4 + 3, none⟩ = some (.slice A3 sub.length c3) ∧ w'.cell? ⟨b2, o2 + i * 4, none⟩ = some (.int .i64 k') ∧ w'.cell? ⟨b2, o2 + i * 4 + 1, none⟩ = some (.int .i64 x') ∧ w'.cell? ⟨b2, o2 + i * 4 + 2, none⟩ = some (.string s') ∧ w'.cell? ⟨b2, o2 + i * 4 + 3, none⟩ = some (.slice A4 sub'.length c4)) (by kernel_rfl) ?_ (fun hHeld => ?_)
      ·(try dsimp only)
       exact hS1
      refine tkQ 0 ?_
      refine tkQ 1 ?_
      refine tkQ 2 ?_
      refine tkQ 3 ?_
      refine tkQ 4 ?_
      refine tkQ 5 ?_
      refine tkQ 6 ?_
      refine tkQ 7 ?_
      refine tkQ 8 ?_
      refine tkQ 9 ?_
      refine tkQ 10 ?_
      refine tkQ 11 ?_
      refine tkQ 12 ?_
      refine tkQ 13 ?_
      refine tkQ 14 ?_
      refine tkQ 15 ?_
      refine tkQ 16 ?_
      refine tkQ 17 ?_
      refine tkQ 18 ?_
      refine tkQ 19 ?_
      refine tkQ 20 ?_
      refine tkQ 21 ?_
      refine tkQ 22 ?_
      refine tkQ 23 ?_
      refine tkQ 24 ?_
      refine tkM 25 ?_
      refine tkM 26 ?_
      refine tkM 27 ?_
      refine tkM 28 ?_
      refine tkM 29 ?_
      refine tkM 30 ?_
      refine tkM 31 ?_
      refine tkM 32 ?_
      refine tkM 33 ?_
      refine tkM 34 ?_
      refine tkM 35 ?_
      refine tkQ 36 ?_
      refine tkQ 37 ?_
      refine tkM 38 ?_
      refine tkM 39 ?_
      refine tkM 40 ?_
      refine tkM 41 ?_
      refine tkM 42 ?_
      refine tkM 43 ?_
      refine tkM 44 ?_
      refine tkM 45 ?_
      refine tkM 46 ?_
      refine tkM 47 ?_
      refine tkM 48 ?_
      refine tkM 49 ?_
      refine tkQ 50 ?_
      refine wpAnyH_done (by kernel_rfl) ?_ _
      have hbW := hHeld.1
      clear hHeld hS1 keepS
      have hbx := hbr.trans (hbW.mono hbr.size)
      clear hbW e1 e2 e3 e4 e5 e6 e7 e8
      repeat' (first | go_skip | go_guarded | go_step)
      go_ret
      have hu' := hu.out
      unfold eq1 at hu'
      rw [q1, q2] at hu'
      exact ⟨ret_b (by simpa using hu'.symm), hbx⟩
    ·skip
     have q1 : (k == k') = false := by simpa using hk
     have p1 : (k != k') = true := by simpa using hk
     clear hk
     have hS0 : (Below wr.heap.size wr wr ∧ wr.cell? ⟨b1, o1 + i * 4, none⟩ = some (.int .i64 k) ∧ wr.cell? ⟨b1, o1 + i * 4 + 1, none⟩ = some (.int .i64 x) ∧ wr.cell? ⟨b1, o1 + i * 4 + 2, none⟩ = some (.string s) ∧ wr.cell? ⟨b1, o1 + i * 4 + 3, none⟩ = some (.slice A3 sub.length c3) ∧ wr.cell? ⟨b2, o2 + i * 4, none⟩ = some (.int .i64 k') ∧ wr.cell? ⟨b2, o2 + i * 4 + 1, none⟩ = some (.int .i64 x') ∧ wr.cell? ⟨b2, o2 + i * 4 + 2, none⟩ = some (.string s') ∧ wr.cell? ⟨b2, o2 + i * 4 + 3, none⟩ = some (.slice A4 sub'.length c4)) := ⟨Below.refl _ _, e1, e2, e3, e4, e5, e6, e7, e8⟩
     have keepS : ∀ v1 v2 : World, (Below wr.heap.size wr v1 ∧ v1.cell? ⟨b1, o1 + i * 4, none⟩ = some (.int .i64 k) ∧ v1.cell? ⟨b1, o1 + i * 4 + 1, none⟩ = some (.int .i64 x) ∧ v1.cell? ⟨b1, o1 + i * 4 + 2, none⟩ = some (.string s) ∧ v1.cell? ⟨b1, o1 + i * 4 + 3, none⟩ = some (.slice A3 sub.length c3) ∧ v1.cell? ⟨b2, o2 + i * 4, none⟩ = some (.int .i64 k') ∧ v1.cell? ⟨b2, o2 + i * 4 + 1, none⟩ = some (.int .i64 x') ∧ v1.cell? ⟨b2, o2 + i * 4 + 2, none⟩ = some (.string s') ∧ v1.cell? ⟨b2, o2 + i * 4 + 3, none⟩ = some (.slice A4 sub'.length c4)) → Below v1.heap.size v1 v2 → (Below wr.heap.size wr v2 ∧ v2.cell? ⟨b1, o1 + i * 4, none⟩ = some (.int .i64 k) ∧ v2.cell? ⟨b1, o1 + i * 4 + 1, none⟩ = some (.int .i64 x) ∧ v2.cell? ⟨b1, o1 + i * 4 + 2, none⟩ = some (.string s) ∧ v2.cell? ⟨b1, o1 + i * 4 + 3, none⟩ = some (.slice A3 sub.length c3) ∧ v2.cell? ⟨b2, o2 + i * 4, none⟩ = some (.int .i64 k') ∧ v2.cell? ⟨b2, o2 + i * 4 + 1, none⟩ = some (.int .i64 x') ∧ v2.cell? ⟨b2, o2 + i * 4 + 2, none⟩ = some (.string s') ∧ v2.cell? ⟨b2, o2 + i * 4 + 3, none⟩ = some (.slice A4 sub'.length c4)) := fun v1 v2 h hb => ⟨h.1.trans (hb.mono h.1.size), (hb.cell (p := ⟨b1, _, none⟩) (Nat.lt_of_lt_of_le hbw1 h.1.size)).trans h.2.1, (hb.cell (p := ⟨b1, _, none⟩) (Nat.lt_of_lt_of_le hbw1 h.1.size)).trans h.2.2.1, (hb.cell (p := ⟨b1, _, none⟩) (Nat.lt_of_lt_of_le hbw1 h.1.size)).trans h.2.2.2.1, (hb.cell (p := ⟨b1, _, none⟩) (Nat.lt_of_lt_of_le hbw1 h.1.size)).trans h.2.2.2.2.1, (hb.cell (p := ⟨b2, _, none⟩) (Nat.lt_of_lt_of_le hbw2 h.1.size)).trans h.2.2.2.2.2.1, (hb.cell (p := ⟨b2, _, none⟩) (Nat.lt_of_lt_of_le hbw2 h.1.size)).trans h.2.2.2.2.2.2.1, (hb.cell (p := ⟨b2, _, none⟩) (Nat.lt_of_lt_of_le hbw2 h.1.size)).trans h.2.2.2.2.2.2.2.1, (hb.cell (p := ⟨b2, _, none⟩) (Nat.lt_of_lt_of_le hbw2 h.1.size)).trans h.2.2.2.2.2.2.2.2⟩
     have hS1 : (Below wr.heap.size wr wr.drew ∧ wr.drew.cell? ⟨b1, o1 + i * 4, none⟩ = some (.int .i64 k) ∧ wr.drew.cell? ⟨b1, o1 + i * 4 + 1, none⟩ = some (.int .i64 x) ∧ wr.drew.cell? ⟨b1, o1 + i * 4 + 2, none⟩ = some (.string s) ∧ wr.drew.cell? ⟨b1, o1 + i * 4 + 3, none⟩ = some (.slice A3 sub.length c3) ∧ wr.drew.cell? ⟨b2, o2 + i * 4, none⟩ = some (.int .i64 k') ∧ wr.drew.cell? ⟨b2, o2 + i * 4 + 1, none⟩ = some (.int .i64 x') ∧ wr.drew.cell? ⟨b2, o2 + i * 4 + 2, none⟩ = some (.string s') ∧ wr.drew.cell? ⟨b2, o2 + i * 4 + 3, none⟩ = some (.slice A4 sub'.length c4)) := keepS _ _ hS0 ((Below.refl _ _).drew)
     replace keepS := Lib.hid keepS
     clear hS0
     go_upto_region 6 with (fail)
     refine wp_region_held_drew (S := fun w' => Below wr.heap.size wr w' ∧ w'.cell? ⟨b1, o1 + i * 4, none⟩ = some (.int .i64 k) ∧ w'.cell? ⟨b1, o1 + i * 4 + 1, none⟩ = some (.int .i64 x) ∧ w'.cell? ⟨b1, o1 + i * 4 + 2, none⟩ = some (.string s) ∧ w'.cell? ⟨b1, o1 + i * 4 + 3, none⟩ = some (.slice A3 sub.length c3) ∧ w'.cell? ⟨b2, o2 + i * 4, none⟩ = some (.int .i64 k') ∧ w'.cell? ⟨b2, o2 + i * 4 + 1, none⟩ = some (.int .i64 x') ∧ w'.cell? ⟨b2, o2 + i * 4 + 2, none⟩ = some (.string s') ∧ w'.cell? ⟨b2, o2 + i * 4 + 3, none⟩ = some (.slice A4 sub'.length c4)) (by kernel_rfl) ?_ (fun hHeld => ?_)
     ·(try dsimp only)
      exact hS1
     refine tkQ 0 ?_
     refine tkQ 1 ?_
     refine tkQ 2 ?_
     refine tkQ 3 ?_
     refine tkQ 4 ?_
     refine tkQ 5 ?_
     refine tkQ 6 ?_
     refine tkQ 7 ?_
     refine tkQ 8 ?_
     refine tkQ 9 ?_
     refine tkQ 10 ?_
     refine tkQ 11 ?_
     refine tkM 12 ?_
     refine tkM 13 ?_
     refine tkM 14 ?_
     refine tkM 15 ?_
     refine tkM 16 ?_
     refine tkM 17 ?_
     refine tkM 18 ?_
     refine tkM 19 ?_
     refine tkM 20 ?_
     refine tkM 21 ?_
     refine tkM 22 ?_
     refine tkQ 23 ?_
     refine tkQ 24 ?_
     refine tkM 25 ?_
     refine tkM 26 ?_
     refine tkM 27 ?_
     refine tkM 28 ?_
     refine tkM 29 ?_
     refine tkM 30 ?_
     refine tkM 31 ?_
     refine tkM 32 ?_
     refine tkM 33 ?_
     refine tkM 34 ?_
     refine tkM 35 ?_
     refine tkQ 36 ?_
     refine tkQ 37 ?_
     refine tkM 38 ?_
     refine tkM 39 ?_
     refine tkM 40 ?_
     refine tkM 41 ?_
     refine tkM 42 ?_
     refine tkM 43 ?_
     refine tkM 44 ?_
     refine tkM 45 ?_
     refine tkM 46 ?_
     refine tkM 47 ?_
     refine tkM 48 ?_
     refine tkM 49 ?_
     refine tkQ 50 ?_
     refine wpAnyH_done (by kernel_rfl) ?_ _
     have hbW := hHeld.1
     clear hHeld hS1 keepS
     have hbx := hbr.trans (hbW.mono hbr.size)
     clear hbW e1 e2 e3 e4 e5 e6 e7 e8
     repeat' (first | go_skip | go_guarded | go_step)
     go_ret
     have hu' := hu.out
     unfold eq1 at hu'
     rw [q1] at hu'
     exact ⟨ret_b (by simpa using hu'.symm), hbx⟩
   ·repeat' (first | go_skip | go_guarded | go_step)
    go_ret
    rw [hu, eqF_end (by omega) (by omega)]
    exact ⟨rfl, hbr⟩
 ·have hn : ((f.length : Int) == (g.length : Int)) = false := by simp; omega
  have hn' : ((f.length : Int) != (g.length : Int)) = true := by simp; omega
  rw [eqF_len hfg]
  clear hfg
  go_enter Tryz.func34, Tryz.ntmps34
  repeat' (first | go_skip | go_guarded | go_step)
  go_ret
  exact ⟨rfl, Below.refl _ _⟩
theorem rsame_any_all : ∀ (f : Flds) (i : Nat) (k x : Int) (s : ByteArray) (sub : Flds), f.get? i = some (k, x, s, sub) → RSame sub
 | .nil, i, _, _, _, _, h => by simp [Flds.get?] at h
 | .cons k x s sub r, 0, _, _, _, _, h => by
  simp only [Flds.get?, Option.some.injEq, Prod.mk.injEq] at h
  obtain ⟨rfl, rfl, rfl, rfl⟩ := h
  exact rsame_body sub (rsame_any_all sub)
 | .cons _ _ _ _ r, i + 1, k, x, s, sub, h => rsame_any_all r i k x s sub h
theorem rsame_any (f : Flds) : RSame f := rsame_body f (rsame_any_all f)
def PSame (f : Flds) : Prop := ∀ (g : Flds) (A1 : Option Addr) (c1 : Nat) (cs1 : List Value) (A2 : Option Addr) (c2 : Nat) (cs2 : List Value) (w : World) (B : Nat), B ≤ w.heap.size → Seq w B 4 A1 f.length cs1 → RepF w B f cs1 → Seq w B 4 A2 g.length cs2 → RepF w B g cs2 → f.size ≤ 1000000000 → g.size ≤ 1000000000 →
 Calls Tryz.prog 33 #[.slice A1 f.length c1, .slice A2 g.length c2] w fun e w' => e = .returned (.bool (eqF f g)) ∧ Below w.heap.size w w'
theorem same1_any (k x : Int) (s : ByteArray) (sub : Flds) (k' x' : Int) (s' : ByteArray) (sub' : Flds) (ih : PSame sub) (A3 : Option Addr) (c3 : Nat) (cs3 : List Value) (A4 : Option Addr) (c4 : Nat) (cs4 : List Value) (w : World) (B : Nat) (hB : B ≤ w.heap.size) (hs3 : Seq w B 4 A3 sub.length cs3) (hr3 : RepF w B sub cs3) (hs4 : Seq w B 4 A4 sub'.length cs4) (hr4 : RepF w B sub' cs4) (hz1 : sub.size ≤ 1000000000) (hz2 : sub'.size ≤ 1000000000) :
  Calls Tryz.prog 74 #[.agg #[.int .i64 k, .int .i64 x, .string s, .slice A3 sub.length c3], .agg #[.int .i64 k', .int .i64 x', .string s', .slice A4 sub'.length c4]] w fun e w' => e = .returned (.bool (eq1 k x s sub k' x' s' sub')) ∧ Below w.heap.size w w' := by
 by_cases hk : k = k'
 ·skip
  have q1 : (k == k') = true := by simpa using hk
  have p1 : (k != k') = false := by simpa using hk
  by_cases hx : x = x'
  ·skip
   have q2 : (x == x') = true := by simpa using hx
   have p2 : (x != x') = false := by simpa using hx
   by_cases hs : s.toList = s'.toList
   ·skip
    have q3 : (s.toList == s'.toList) = true := by simpa using hs
    have p3 : (s.toList != s'.toList) = false := by simpa using hs
    clear hk hx hs
    go_enter Tryz.func74, Tryz.ntmps74
    go_upto_region 1 with (fail)
    generalize hx_ : World.alloc (World.alloc w _) _ = wo1
    have hO1 : OwnB w wo1 [(w.heap.size + 1, [.int .i64 k', .int .i64 x', .string s', .slice A4 sub'.length c4]), (w.heap.size, [.int .i64 k, .int .i64 x, .string s, .slice A3 sub.length c3])] := by rw [← hx_]; exact ((OwnB.refl w).new #[.int .i64 k, .int .i64 x, .string s, .slice A3 sub.length c3] _ (g := w.heap.size)).new #[.int .i64 k', .int .i64 x', .string s', .slice A4 sub'.length c4] _ (g := w.heap.size + 1)
    have hbn : Below w.heap.size w wo1 := by rw [← hx_]; exact ((Below.refl _ _).alloc (Nat.le_refl _) _).alloc (by simp) _
    have zwo1 : wo1.heap.size = w.heap.size + 2 := by rw [← hx_]; simp
    clear hx_
    obtain ⟨c0_0, c0_1, c0_2, c0_3, cf0⟩ := own4 hO1
    have c1_0 := hO1.c 1 0
    have c1_1 := hO1.c 1 1
    have c1_2 := hO1.c 1 2
    have c1_3 := hO1.c 1 3
    have cf1 := hO1.fr 1
    clear hbn
    have hb0 := hO1.below
    repeat' (first | go_skip | go_guarded | go_step)
    refine (ih sub' A3 c3 cs3 A4 c4 cs4 wo1 B (Nat.le_trans hB hb0.size) (hs3.below (hb0.mono hB)) (hr3.below (hb0.mono hB)) (hs4.below (hb0.mono hB)) (hr4.below (hb0.mono hB)) hz1 hz2).mono ?_
    rintro e w7 ⟨rfl, hb7⟩
    dsimp only
    repeat' (first | go_skip | go_guarded | go_step)
    go_ret
    exact ⟨ret_b (by unfold eq1; rw [q1, q2, q3]; simp), hb0.trans (hb7.mono hb0.size)⟩
   ·skip
    have q3 : (s.toList == s'.toList) = false := by simpa using hs
    have p3 : (s.toList != s'.toList) = true := by simpa using hs
    clear hk hx hs
    go_enter Tryz.func74, Tryz.ntmps74
    go_upto_region 1 with (fail)
    generalize hx_ : World.alloc (World.alloc w _) _ = wo1
    have hO1 : OwnB w wo1 [(w.heap.size + 1, [.int .i64 k', .int .i64 x', .string s', .slice A4 sub'.length c4]), (w.heap.size, [.int .i64 k, .int .i64 x, .string s, .slice A3 sub.length c3])] := by rw [← hx_]; exact ((OwnB.refl w).new #[.int .i64 k, .int .i64 x, .string s, .slice A3 sub.length c3] _ (g := w.heap.size)).new #[.int .i64 k', .int .i64 x', .string s', .slice A4 sub'.length c4] _ (g := w.heap.size + 1)
    have hbn : Below w.heap.size w wo1 := by rw [← hx_]; exact ((Below.refl _ _).alloc (Nat.le_refl _) _).alloc (by simp) _
    have zwo1 : wo1.heap.size = w.heap.size + 2 := by rw [← hx_]; simp
    clear hx_
    obtain ⟨c0_0, c0_1, c0_2, c0_3, cf0⟩ := own4 hO1
    have c1_0 := hO1.c 1 0
    have c1_1 := hO1.c 1 1
    have c1_2 := hO1.c 1 2
    have c1_3 := hO1.c 1 3
    have cf1 := hO1.fr 1
    clear hbn
    have hb0 := hO1.below
    repeat' (first | go_skip | go_guarded | go_step)
    go_ret
    exact ⟨ret_b (by unfold eq1; rw [q1, q2, q3]; simp), hb0⟩
  ·skip
   have q2 : (x == x') = false := by simpa using hx
   have p2 : (x != x') = true := by simpa using hx
   clear hk hx
   go_enter Tryz.func74, Tryz.ntmps74
   go_upto_region 1 with (fail)
   generalize hx_ : World.alloc (World.alloc w _) _ = wo1
   have hO1 : OwnB w wo1 [(w.heap.size + 1, [.int .i64 k', .int .i64 x', .string s', .slice A4 sub'.length c4]), (w.heap.size, [.int .i64 k, .int .i64 x, .string s, .slice A3 sub.length c3])] := by rw [← hx_]; exact ((OwnB.refl w).new #[.int .i64 k, .int .i64 x, .string s, .slice A3 sub.length c3] _ (g := w.heap.size)).new #[.int .i64 k', .int .i64 x', .string s', .slice A4 sub'.length c4] _ (g := w.heap.size + 1)
   have hbn : Below w.heap.size w wo1 := by rw [← hx_]; exact ((Below.refl _ _).alloc (Nat.le_refl _) _).alloc (by simp) _
   have zwo1 : wo1.heap.size = w.heap.size + 2 := by rw [← hx_]; simp
   clear hx_
   obtain ⟨c0_0, c0_1, c0_2, c0_3, cf0⟩ := own4 hO1
   have c1_0 := hO1.c 1 0
   have c1_1 := hO1.c 1 1
   have c1_2 := hO1.c 1 2
   have c1_3 := hO1.c 1 3
   have cf1 := hO1.fr 1
   clear hbn
   have hb0 := hO1.below
   repeat' (first | go_skip | go_guarded | go_step)
   go_ret
   exact ⟨ret_b (by unfold eq1; rw [q1, q2]; simp), hb0⟩
 ·skip
  have q1 : (k == k') = false := by simpa using hk
  have p1 : (k != k') = true := by simpa using hk
  clear hk
  go_enter Tryz.func74, Tryz.ntmps74
  go_upto_region 1 with (fail)
  generalize hx_ : World.alloc (World.alloc w _) _ = wo1
  have hO1 : OwnB w wo1 [(w.heap.size + 1, [.int .i64 k', .int .i64 x', .string s', .slice A4 sub'.length c4]), (w.heap.size, [.int .i64 k, .int .i64 x, .string s, .slice A3 sub.length c3])] := by rw [← hx_]; exact ((OwnB.refl w).new #[.int .i64 k, .int .i64 x, .string s, .slice A3 sub.length c3] _ (g := w.heap.size)).new #[.int .i64 k', .int .i64 x', .string s', .slice A4 sub'.length c4] _ (g := w.heap.size + 1)
  have hbn : Below w.heap.size w wo1 := by rw [← hx_]; exact ((Below.refl _ _).alloc (Nat.le_refl _) _).alloc (by simp) _
  have zwo1 : wo1.heap.size = w.heap.size + 2 := by rw [← hx_]; simp
  clear hx_
  obtain ⟨c0_0, c0_1, c0_2, c0_3, cf0⟩ := own4 hO1
  have c1_0 := hO1.c 1 0
  have c1_1 := hO1.c 1 1
  have c1_2 := hO1.c 1 2
  have c1_3 := hO1.c 1 3
  have cf1 := hO1.fr 1
  clear hbn
  have hb0 := hO1.below
  repeat' (first | go_skip | go_guarded | go_step)
  go_ret
  exact ⟨ret_b (by unfold eq1; rw [q1]; simp), hb0⟩
theorem eqfunc_any (f : Flds) (ih : ∀ i k x s sub, f.get? i = some (k, x, s, sub) → PSame sub) (g : Flds) (A1 : Option Addr) (c1 : Nat) (cs1 : List Value) (A2 : Option Addr) (c2 : Nat) (cs2 : List Value) (w : World) (B : Nat) (hB : B ≤ w.heap.size) (hs1 : Seq w B 4 A1 f.length cs1) (hr1 : RepF w B f cs1) (hs2 : Seq w B 4 A2 g.length cs2) (hr2 : RepF w B g cs2) (hsz : f.size ≤ 1000000000) (hsz' : g.size ≤ 1000000000) :
  Calls Tryz.prog 73 #[.slice A1 f.length c1, .slice A2 g.length c2, .func (.func 74) #[] #[]] w fun e w' => e = .returned (.bool (eqF f g)) ∧ Below w.heap.size w w' := by
 have hlen := Flds.length_le_size f
 have hlen' := Flds.length_le_size g
 have Ih := Lib.hid ih; clear ih
 by_cases hfg : f.length = g.length
 ·have hn : ((f.length : Int) == (g.length : Int)) = true := by simp [hfg]
  have hn' : ((f.length : Int) != (g.length : Int)) = false := by simp [hfg]
  replace hfg := Lib.hid hfg
  go_enter Tryz.func73, Tryz.ntmps73
  repeat' (first | go_skip | go_guarded | go_step)
  go_loopw [17] (fun u17 wr => ∃ (i : Nat), i ≤ f.length ∧ u17 = .int .i64 (i : Int) ∧ Below w.heap.size w wr ∧ eqF f g = eqF (f.drop i) (g.drop i)) (fun u17 _ => f.length - (intOf u17).toNat)
  case atStart => exact ⟨0, by omega, rfl, Below.refl _ _, by rw [Flds.drop_zero, Flds.drop_zero]⟩
  case round =>
   obtain ⟨i, hi, rfl, hbr, hu⟩ := hrel
   have hfg' := hfg.out
   by_cases hlt : i < f.length
   ·obtain ⟨⟨k, x, s, sub⟩, hg⟩ := Flds.get?_lt f i hlt
    obtain ⟨⟨k', x', s', sub'⟩, hg'⟩ := Flds.get?_lt g i (by omega)
    obtain ⟨b1, o1, rfl, hb1, hcell1⟩ := hs1.2 (by omega)
    obtain ⟨b2, o2, rfl, hb2, hcell2⟩ := hs2.2 (by omega)
    obtain ⟨A3, c3, cs3, g1, g2, g3, g4, _, _, hs3, hr3⟩ := RepF.at_ hr1 hg
    obtain ⟨A4, c4, cs4, g5, g6, g7, g8, _, _, hs4, hr4⟩ := RepF.at_ hr2 hg'
    have e1 := (hbr.cell (p := ⟨b1, o1 + i * 4, none⟩) (by dsimp only; omega)).trans (hcell1 _ _ g1)
    have e2 := (hbr.cell (p := ⟨b1, o1 + (i * 4 + 1), none⟩) (by dsimp only; omega)).trans (hcell1 _ _ g2)
    have e3 := (hbr.cell (p := ⟨b1, o1 + (i * 4 + 2), none⟩) (by dsimp only; omega)).trans (hcell1 _ _ g3)
    have e4 := (hbr.cell (p := ⟨b1, o1 + (i * 4 + 3), none⟩) (by dsimp only; omega)).trans (hcell1 _ _ g4)
    have e5 := (hbr.cell (p := ⟨b2, o2 + i * 4, none⟩) (by dsimp only; omega)).trans (hcell2 _ _ g5)
    have e6 := (hbr.cell (p := ⟨b2, o2 + (i * 4 + 1), none⟩) (by dsimp only; omega)).trans (hcell2 _ _ g6)
    have e7 := (hbr.cell (p := ⟨b2, o2 + (i * 4 + 2), none⟩) (by dsimp only; omega)).trans (hcell2 _ _ g7)
    have e8 := (hbr.cell (p := ⟨b2, o2 + (i * 4 + 3), none⟩) (by dsimp only; omega)).trans (hcell2 _ _ g8)
    rw [← Nat.add_assoc] at e2 e3 e4 e6 e7 e8
    clear g1 g2 g3 g4 g5 g6 g7 g8 hcell1 hcell2 hr1 hr2 hs1 hs2
    have hbw1 : b1 < wr.heap.size := by have := hbr.size; omega
    have hbw2 : b2 < wr.heap.size := by have := hbr.size; omega
    have hsz1 := Flds.get?_size f i hg
    have hsz2 := Flds.get?_size g i hg'
    have ihs := Lib.hid (Ih.out i k x s sub hg)
    have he := eqF_at hg hg'
    clear hg hg'
    have f1 : (0 : Int) ≤ (i : Int) := by omega
    have f2 : (i : Int) < (f.length : Int) := by omega
    have f2' : (i : Int) < (g.length : Int) := by omega
    replace hsz1 := Lib.hid hsz1
    replace hsz2 := Lib.hid hsz2
    rw [he] at hu
    clear he hfg'
    replace hu := Lib.hid hu
    go_upto_region 7 with (fail)
    generalize hx_ : World.alloc (World.alloc wr _) _ = wo1
    have hO1 : OwnB wr wo1 [(wr.heap.size + 1, [.int .i64 k', .int .i64 x', .string s', .slice A4 sub'.length c4]), (wr.heap.size, [.int .i64 k, .int .i64 x, .string s, .slice A3 sub.length c3])] := by rw [← hx_]; exact ((OwnB.refl wr).new #[.int .i64 k, .int .i64 x, .string s, .slice A3 sub.length c3] _ (g := wr.heap.size)).new #[.int .i64 k', .int .i64 x', .string s', .slice A4 sub'.length c4] _ (g := wr.heap.size + 1)
    have hbn : Below wr.heap.size wr wo1 := by rw [← hx_]; exact ((Below.refl _ _).alloc (Nat.le_refl _) _).alloc (by simp) _
    have zwo1 : wo1.heap.size = wr.heap.size + 2 := by rw [← hx_]; simp
    clear hx_
    obtain ⟨c0_0, c0_1, c0_2, c0_3, cf0⟩ := own4 hO1
    have c1_0 := hO1.c 1 0
    have c1_1 := hO1.c 1 1
    have c1_2 := hO1.c 1 2
    have c1_3 := hO1.c 1 3
    have cf1 := hO1.fr 1
    clear hbn
    have hb0 := hO1.below
    repeat' (first | go_skip | go_guarded | go_step)
    refine (same1_any k x s sub k' x' s' sub' ihs.out A3 c3 cs3 A4 c4 cs4 wo1 B (Nat.le_trans (Nat.le_trans hB hbr.size) hb0.size) (hs3.below ((hbr.mono hB).trans (hb0.mono (Nat.le_trans hB hbr.size)))) (hr3.below ((hbr.mono hB).trans (hb0.mono (Nat.le_trans hB hbr.size)))) (hs4.below ((hbr.mono hB).trans (hb0.mono (Nat.le_trans hB hbr.size)))) (hr4.below ((hbr.mono hB).trans (hb0.mono (Nat.le_trans hB hbr.size)))) (by have := hsz1.out; omega) (by have := hsz2.out; omega)).mono ?_
    rintro e w7 ⟨rfl, hb7⟩
    dsimp only
    have hbx := hbr.trans ((hb0.trans (hb7.mono hb0.size)).mono hbr.size)
    clear hb7 hb0 hs3 hr3 hs4 hr4 e1 e2 e3 e4 e5 e6 e7 e8
    clear c0_0 c0_1 c0_2 c0_3 cf0 c1_0 c1_1 c1_2 c1_3 cf1 hO1
    cases hq : eq1 k x s sub k' x' s' sub' with
    | true =>
     have f3 : IntKind.i64.wrap ((i : Int) + 1) = (i : Int) + 1 := IntWalk.i64_in _ (by omega)
     repeat' (first | go_skip | go_guarded | go_step)
     go_roundw
     case rel =>
      have hu' := hu.out
      rw [hq, Bool.true_and] at hu'
      exact ⟨i + 1, by omega, by congr 1, hbx, hu'⟩
     case measure => simp [intOf]; omega
    | false =>
     repeat' (first | go_skip | go_guarded | go_step)
     go_ret
     have hu' := hu.out
     rw [hq, Bool.false_and] at hu'
     exact ⟨ret_b hu'.symm, hbx⟩
   ·repeat' (first | go_skip | go_guarded | go_step)
    go_ret
    rw [hu, eqF_end (by omega) (by omega)]
    exact ⟨rfl, hbr⟩
 ·have hn : ((f.length : Int) == (g.length : Int)) = false := by simp; omega
  have hn' : ((f.length : Int) != (g.length : Int)) = true := by simp; omega
  rw [eqF_len hfg]
  clear hfg
  go_enter Tryz.func73, Tryz.ntmps73
  repeat' (first | go_skip | go_guarded | go_step)
  go_ret
  exact ⟨rfl, Below.refl _ _⟩
theorem psame_body (f : Flds) (ih : ∀ i k x s sub, f.get? i = some (k, x, s, sub) → PSame sub) : PSame f := by
 intro g A1 c1 cs1 A2 c2 cs2 w B hB hs1 hr1 hs2 hr2 hsz hsz'
 go_enter Tryz.func33, Tryz.ntmps33
 repeat' (first | go_skip | go_guarded | go_step)
 refine (eqfunc_any f ih g A1 c1 cs1 A2 c2 cs2 w B hB hs1 hr1 hs2 hr2 hsz hsz').mono ?_
 rintro e w7 ⟨rfl, hb7⟩
 dsimp only
 repeat' (first | go_skip | go_guarded | go_step)
 go_ret
 exact ⟨rfl, hb7⟩
theorem psame_any_all : ∀ (f : Flds) (i : Nat) (k x : Int) (s : ByteArray) (sub : Flds), f.get? i = some (k, x, s, sub) → PSame sub
 | .nil, i, _, _, _, _, h => by simp [Flds.get?] at h
 | .cons k x s sub r, 0, _, _, _, _, h => by
  simp only [Flds.get?, Option.some.injEq, Prod.mk.injEq] at h
  obtain ⟨rfl, rfl, rfl, rfl⟩ := h
  exact psame_body sub (psame_any_all sub)
 | .cons _ _ _ _ r, i + 1, k, x, s, sub, h => psame_any_all r i k x s sub h
theorem psame_any (f : Flds) : PSame f := psame_body f (psame_any_all f)
abbrev fC (f : FV) (A : Option Addr) (c : Nat) : List Value := [.int .i64 f.1, .int .i64 f.2.1, .string f.2.2.1, .slice A f.2.2.2.length c]
def RetF (w : World) (f : FV) (e : Ending) (w' : World) : Prop := ∃ A c, e = .returned (.agg #[.int .i64 f.1, .int .i64 f.2.1, .string f.2.2.1, .slice A f.2.2.2.length c]) ∧ rF w' (Fresh w w') f (fC f A c) ∧ Below w.heap.size w w'
theorem rf_up {w z z' : World} {f : FV} {cs : List Value} (h : rF z (Fresh w z) f cs) (hb : Below z.heap.size z z') : rF z' (Fresh w z') f cs := rF_ok _ _ _ _ _ _ (fun p hp => hb.cell hp.2) (fun b hp => ⟨hp.1, Nat.lt_of_lt_of_le hp.2 hb.size⟩) h
theorem rf_lo {w z z' : World} {f : FV} {cs : List Value} (h : rF z' (Fresh z z') f cs) (hz : w.heap.size ≤ z.heap.size) : rF z' (Fresh w z') f cs := rF_ok _ _ _ _ _ _ (fun _ _ => rfl) (fun b hp => ⟨Nat.le_trans hz hp.1, hp.2⟩) h
theorem Cod.Ok.up {C : Cod} (hC : C.Ok) {w z : World} {f : FV} {cs : List Value} (h : C.rp w (fun b => b < w.heap.size) f cs) (hb : Below w.heap.size w z) : C.rp z (fun b => b < z.heap.size) f cs := hC.map _ _ _ _ _ _ (fun p hp => hb.cell hp) (fun b hp => Nat.lt_of_lt_of_le hp hb.size) h
theorem seq_of {w z : World} {g n : Nat} {l : List FV} {cs : List Value} (h : CellsAt z g cs) (hg : w.heap.size ≤ g) (hl : RList rF 4 z (Fresh w z) l cs) (hn : l.length = n) : rF z (Fresh w z) (fL l) [.int .i64 2, .int .i64 0, .string ⟨#[]⟩, .slice (some ⟨g, 0, none⟩) n n] := by
 subst hn
 refine ⟨some ⟨g, 0, none⟩, l.length, cs, by show _ = [Value.int .i64 2, Value.int .i64 0, Value.string ⟨#[]⟩, Value.slice _ (ofL l).length _]; rw [ofL_length], ii2, ii0, ⟨⟨?_, fun _ => ⟨g, 0, rfl, ⟨hg, h.lt⟩, fun j u hu => by rw [Nat.zero_add]; exact h.cell j u hu⟩⟩, ?_⟩, rep_of hl⟩
 ·show cs.length = (ofL l).length * 4
  rw [ofL_length]; exact hl.length
 ·show (ofL l).length ≤ _
  rw [ofL_length]; exact Nat.le_refl _
theorem rl_nil {z : World} {S : Nat → Prop} : RList rF 4 z S [] [] := rfl
theorem rl_cons {z : World} {S : Nat → Prop} {f : FV} {l : List FV} {c1 c2 : List Value} (h : rF z S f c1) (hl : RList rF 4 z S l c2) : RList rF 4 z S (f :: l) (c1 ++ c2) := ⟨c1, c2, rfl, rF_len h, h, hl⟩
theorem one_list {α : Type} {l : List α} (h : l.length = 1) : ∃ v, l = [v] := by
 match l, h with
 | [v], _ => exact ⟨v, rfl⟩
def Form1 (F : FuncId) (C : Cod) : Prop := ∀ (w : World) (f : FV) (v : Value), C.rp w (fun b => b < w.heap.size) f [v] → fsz f ≤ 1000000000 → Calls Tryz.prog F #[v] w (RetF w f)
def FormS (F : FuncId) (C : Cod) : Prop := ∀ (w : World) (f : FV) (cs : List Value), C.rp w (fun b => b < w.heap.size) f cs → fsz f ≤ 1000000000 → Calls Tryz.prog F #[.agg cs.toArray] w (RetF w f)
theorem num_any (x : Int) (hx : IsInt x) (w : World) : Calls Tryz.prog 64 #[.int .i64 x] w (RetF w (fI x)) := by
 go_enter Tryz.func64, Tryz.ntmps64
 go_upto_region 1 with (fail)
 generalize hx_ : World.alloc w _ = wo1
 have hO1 := own_new hx_
 have hbn : Below w.heap.size w wo1 := by rw [← hx_]; exact (Below.refl _ _).alloc (Nat.le_refl _) _
 have zwo1 : wo1.heap.size = w.heap.size + 1 := by rw [← hx_]; simp
 clear hx_
 obtain ⟨c0_0, c0_1, c0_2, c0_3, cf0⟩ := own4 hO1
 clear hbn
 repeat' ((fail_if_success at_builtin); first | go_skip | go_guarded | go_step)
 have hO2 := (((hO1.store 0 rfl 0 (.int .i64 0)).store 0 rfl 1 (.int .i64 x)).store 0 rfl 2 (.string ⟨#[]⟩)).store 0 rfl 3 (.slice none 0 0)
 generalize World.setCell (World.setCell (World.setCell (World.setCell wo1 _ _) _ _) _ _) _ _ = w9 at *
 have y0 := hO2.c 0 0
 have y1 := hO2.c 0 1
 have y2 := hO2.c 0 2
 have y3 := hO2.c 0 3
 refine bodyPost_ret (v := .agg #[.int .i64 0, .int .i64 x, .string ⟨#[]⟩, .slice none 0 0]) (by simp only [results, Tryz.results64]; go_simp; first | done | exact ⟨rfl, rfl, rfl⟩ | rfl) rfl ?_
 exact ⟨none, 0, rfl, rd_int hx, hO2.below⟩
theorem str_any (s : ByteArray) (w : World) : Calls Tryz.prog 65 #[.string s] w (RetF w (fS s)) := by
 go_enter Tryz.func65, Tryz.ntmps65
 go_upto_region 1 with (fail)
 generalize hx_ : World.alloc w _ = wo1
 have hO1 := own_new hx_
 have hbn : Below w.heap.size w wo1 := by rw [← hx_]; exact (Below.refl _ _).alloc (Nat.le_refl _) _
 have zwo1 : wo1.heap.size = w.heap.size + 1 := by rw [← hx_]; simp
 clear hx_
 obtain ⟨c0_0, c0_1, c0_2, c0_3, cf0⟩ := own4 hO1
 clear hbn
 repeat' ((fail_if_success at_builtin); first | go_skip | go_guarded | go_step)
 have hO2 := (((hO1.store 0 rfl 0 (.int .i64 1)).store 0 rfl 1 (.int .i64 0)).store 0 rfl 2 (.string s)).store 0 rfl 3 (.slice none 0 0)
 generalize World.setCell (World.setCell (World.setCell (World.setCell wo1 _ _) _ _) _ _) _ _ = w9 at *
 have y0 := hO2.c 0 0
 have y1 := hO2.c 0 1
 have y2 := hO2.c 0 2
 have y3 := hO2.c 0 3
 refine bodyPost_ret (v := .agg #[.int .i64 1, .int .i64 0, .string s, .slice none 0 0]) (by simp only [results, Tryz.results65]; go_simp; first | done | exact ⟨rfl, rfl, rfl⟩ | rfl) rfl ?_
 exact ⟨none, 0, rfl, rd_str s, hO2.below⟩
theorem seq_any (A : Option Addr) (n c : Nat) (w : World) : Calls Tryz.prog 39 #[.slice A n c] w fun e w' => e = .returned (.agg #[.int .i64 2, .int .i64 0, .string ⟨#[]⟩, .slice A n c]) ∧ Below w.heap.size w w' := by
 go_enter Tryz.func39, Tryz.ntmps39
 go_upto_region 1 with (fail)
 generalize hx_ : World.alloc w _ = wo1
 have hO1 := own_new hx_
 have hbn : Below w.heap.size w wo1 := by rw [← hx_]; exact (Below.refl _ _).alloc (Nat.le_refl _) _
 have zwo1 : wo1.heap.size = w.heap.size + 1 := by rw [← hx_]; simp
 clear hx_
 obtain ⟨c0_0, c0_1, c0_2, c0_3, cf0⟩ := own4 hO1
 clear hbn
 repeat' ((fail_if_success at_builtin); first | go_skip | go_guarded | go_step)
 have hO2 := (((hO1.store 0 rfl 0 (.int .i64 2)).store 0 rfl 1 (.int .i64 0)).store 0 rfl 2 (.string ⟨#[]⟩)).store 0 rfl 3 (.slice A n c)
 generalize World.setCell (World.setCell (World.setCell (World.setCell wo1 _ _) _ _) _ _) _ _ = w9 at *
 have y0 := hO2.c 0 0
 have y1 := hO2.c 0 1
 have y2 := hO2.c 0 2
 have y3 := hO2.c 0 3
 refine bodyPost_ret (v := .agg #[.int .i64 2, .int .i64 0, .string ⟨#[]⟩, .slice A n c]) (by simp only [results, Tryz.results39]; go_simp; first | done | exact ⟨rfl, rfl, rfl⟩ | rfl) rfl ?_
 exact ⟨rfl, hO2.below⟩
theorem num_fc : Form1 64 Cod.int := by
 intro w f v hr hs
 obtain ⟨x, hx, rfl, h⟩ := hr
 injection h with h
 subst h
 exact num_any x hx w
theorem str_fc : Form1 65 Cod.str := by
 intro w f v hr hs
 obtain ⟨s, rfl, h⟩ := hr
 injection h with h
 subst h
 exact str_any s w
end Go.Proofs.YtgdapkglofchjaaGreatDoor
