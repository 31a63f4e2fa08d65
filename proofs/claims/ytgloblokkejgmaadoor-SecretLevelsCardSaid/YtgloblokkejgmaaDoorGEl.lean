/- Elements: most, literal, char: the walks. -/
import Derived.Test.YtgloblokkejgmaaDoorGSet
namespace Go.Proofs.YtgloblokkejgmaaDoor
open Go.RowKit
structure El where
  set : Set4
  many : Bool
  lit : Bool
  ch : Nat
abbrev scells (s : Set4) : Array Value := #[wd s.a, wd s.b, wd s.c, wd s.d]
abbrev ecells (e : El) : Array Value := #[wd e.set.a, wd e.set.b, wd e.set.c, wd e.set.d, .bool e.many, .bool e.lit, .int .u8 (e.ch : Int)]
def fullS : Set4 := ⟨18446744073709551615, 18446744073709551615, 18446744073709551615, 18446744073709551615⟩
def zeroS : Set4 := ⟨0, 0, 0, 0⟩
theorem fit_full : fullS.fit := ⟨by decide, by decide, by decide, by decide⟩
theorem fit_zero : zeroS.fit := ⟨by decide, by decide, by decide, by decide⟩
def mostS (slash : Bool) : Set4 := if slash then fullS else dropS fullS 47
def litE (c : Nat) : El := ⟨addS zeroS c, false, true, c⟩
/-- cells of a block made here, after a store into a set in it -/
theorem below_set {B g : Nat} {a w : World} (h : Below B a w) (hg : B ≤ g) (j : Nat) (v : Value) : Below B a (w.setCell ⟨g, j, none⟩ v).drew := (h.setCell (p := ⟨g, j, none⟩) hg v).drew
set_option maxRecDepth 100000 in
set_option maxHeartbeats 800000 in
theorem most_any (slash : Bool) (w : World) : Calls Tryd.prog 97 #[.bool slash] w fun e w' => e = .returned (.agg (scells (mostS slash))) ∧ Below w.heap.size w w' := by
  cases slash with
  | true =>
    go_enter Tryd.func97, Tryd.ntmps97
    repeat' ((fail_if_success at_builtin); (first | go_skip | go_guarded | go_step))
    refine bodyPost_ret (v := .agg (scells (mostS true))) ?_ rfl ?_
    · simp only [results, Tryd.results97]
      go_simp
      exact ⟨rfl, rfl, rfl, rfl⟩
    · refine ⟨rfl, ?_⟩
      have hb := (Below.refl w.heap.size w).alloc (Nat.le_refl _) (.cells (scells fullS) 108)
      exact hb.alloc hb.size _
  | false =>
    have hb0 := (Below.refl w.heap.size w).alloc (Nat.le_refl _) (.cells (scells zeroS) 108)
    have hb1 := hb0.alloc hb0.size (.cells (scells fullS) 108)
    have hset : SetAt ((w.alloc (.cells (scells zeroS) 108)).alloc (.cells (scells fullS) 108)) (w.heap.size + 1) 0 fullS := by
      refine ⟨?_, ?_, ?_, ?_, fun j => ?_⟩ <;> simp [go_sem]
    have C := drop_any fullS 47 (w.heap.size + 1) 0 _ (by omega) fit_full hset
    have hs2 := setAt_set hset (fullS.get (47 / 64) &&& (18446744073709551615 - 2 ^ (47 % 64))) (47 / 64) (by omega)
    have hb2 := below_set hb1 (show w.heap.size ≤ w.heap.size + 1 by omega) (0 + 47 / 64) (wd (fullS.get (47 / 64) &&& (18446744073709551615 - 2 ^ (47 % 64))))
    have hz0 : (((w.alloc (.cells (scells zeroS) 108)).alloc (.cells (scells fullS) 108)).setCell ⟨w.heap.size + 1, 0 + 47 / 64, none⟩ (wd (fullS.get (47 / 64) &&& (18446744073709551615 - 2 ^ (47 % 64))))).drew.heap.size = w.heap.size + 2 := by simp [World.setCell, World.drew]
    have hz : ∀ j, (((w.alloc (.cells (scells zeroS) 108)).alloc (.cells (scells fullS) 108)).setCell ⟨w.heap.size + 1, 0 + 47 / 64, none⟩ (wd (fullS.get (47 / 64) &&& (18446744073709551615 - 2 ^ (47 % 64))))).drew.frozen? ⟨w.heap.size, j, none⟩ = false := fun j => by simp [go_sem]
    replace C := Lib.hid C
    have hs2' : fullS.set (fullS.get (47 / 64) &&& (18446744073709551615 - 2 ^ (47 % 64))) (47 / 64) = mostS false := rfl
    rw [hs2'] at hs2
    go_enter Tryd.func97, Tryd.ntmps97
    repeat' ((fail_if_success at_builtin); (first | go_skip | go_guarded | go_step))
    refine C.out.mono ?_
    rintro e w1 ⟨rfl, hw1⟩
    have y0 : w1.cell? ⟨w.heap.size, 0, none⟩ = some (.int .u64 0) := by rw [hw1]; simp [go_sem, zeroS, wd]
    have y1 : w1.cell? ⟨w.heap.size, 1, none⟩ = some (.int .u64 0) := by rw [hw1]; simp [go_sem, zeroS, wd]
    have y2 : w1.cell? ⟨w.heap.size, 2, none⟩ = some (.int .u64 0) := by rw [hw1]; simp [go_sem, zeroS, wd]
    have y3 : w1.cell? ⟨w.heap.size, 3, none⟩ = some (.int .u64 0) := by rw [hw1]; simp [go_sem, zeroS, wd]
    rw [← hw1] at hs2 hb2 hz hz0
    clear hw1 C hset hb0 hb1 hs2'
    obtain ⟨e0, e1, e2, e3, _⟩ := hs2
    have f0 := hz 0
    have f1 := hz 1
    have f2 := hz 2
    have f3 := hz 3
    clear hz
    dsimp only
    repeat' ((fail_if_success at_builtin); (first | go_skip | go_guarded | go_step))
    refine bodyPost_ret (v := .agg (scells (mostS false))) ?_ rfl ?_
    · simp only [results, Tryd.results97]
      go_simp
      try exact ⟨rfl, rfl, rfl, rfl⟩
    · exact ⟨rfl, ((((hb2.setCell (p := ⟨w.heap.size, 0, none⟩) (Nat.le_refl _) _).setCell (p := ⟨w.heap.size, 1, none⟩) (Nat.le_refl _) _).setCell (p := ⟨w.heap.size, 2, none⟩) (Nat.le_refl _) _).setCell (p := ⟨w.heap.size, 3, none⟩) (Nat.le_refl _) _)⟩
set_option maxRecDepth 100000 in
set_option maxHeartbeats 800000 in
theorem lit_any (c : Nat) (w : World) (hc : c < 256) : Calls Tryd.prog 99 #[.int .u8 (c : Int)] w fun e w' => e = .returned (.agg (ecells (litE c))) ∧ Below w.heap.size w w' := by
  let E0 : El := ⟨zeroS, false, false, 0⟩
  let E1 : El := ⟨zeroS, false, true, c⟩
  have hb0 := (Below.refl w.heap.size w).alloc (Nat.le_refl _) (.cells (ecells E0) 110)
  have hb1 := hb0.alloc hb0.size (.cells (ecells E1) 110)
  have hset : SetAt ((w.alloc (.cells (ecells E0) 110)).alloc (.cells (ecells E1) 110)) (w.heap.size + 1) 0 zeroS := by
    refine ⟨?_, ?_, ?_, ?_, fun j => ?_⟩ <;> simp [go_sem, E1]
  have C := add_any zeroS c (w.heap.size + 1) 0 _ hc fit_zero hset
  have hs2 := setAt_set hset (zeroS.get (c / 64) ||| 2 ^ (c % 64)) (c / 64) (by omega)
  have hb2 := below_set hb1 (show w.heap.size ≤ w.heap.size + 1 by omega) (0 + c / 64) (wd (zeroS.get (c / 64) ||| 2 ^ (c % 64)))
  replace C := Lib.hid C
  have hs2' : zeroS.set (zeroS.get (c / 64) ||| 2 ^ (c % 64)) (c / 64) = addS zeroS c := rfl
  rw [hs2'] at hs2
  have k4 : ¬ (c / 64 = 4) := by omega
  have k5 : ¬ (c / 64 = 5) := by omega
  have k6 : ¬ (c / 64 = 6) := by omega
  go_enter Tryd.func99, Tryd.ntmps99
  repeat' ((fail_if_success at_builtin); (first | go_skip | go_guarded | go_step))
  refine C.out.mono ?_
  rintro e w1 ⟨rfl, hw1⟩
  have y0 : w1.cell? ⟨w.heap.size, 0, none⟩ = some (.int .u64 0) := by rw [hw1]; simp [go_sem, zeroS, wd, E0]
  have y1 : w1.cell? ⟨w.heap.size, 1, none⟩ = some (.int .u64 0) := by rw [hw1]; simp [go_sem, zeroS, wd, E0]
  have y2 : w1.cell? ⟨w.heap.size, 2, none⟩ = some (.int .u64 0) := by rw [hw1]; simp [go_sem, zeroS, wd, E0]
  have y3 : w1.cell? ⟨w.heap.size, 3, none⟩ = some (.int .u64 0) := by rw [hw1]; simp [go_sem, zeroS, wd, E0]
  have y4 : w1.cell? ⟨w.heap.size, 4, none⟩ = some (.bool false) := by rw [hw1]; simp [go_sem, zeroS, wd, E0]
  have y5 : w1.cell? ⟨w.heap.size, 5, none⟩ = some (.bool false) := by rw [hw1]; simp [go_sem, zeroS, wd, E0]
  have y6 : w1.cell? ⟨w.heap.size, 6, none⟩ = some (.int .u8 0) := by rw [hw1]; simp [go_sem, zeroS, wd, E0]
  have e4 : w1.cell? ⟨w.heap.size + 1, 4, none⟩ = some (.bool false) := by rw [hw1]; simp [go_sem, E1, k4]
  have e5 : w1.cell? ⟨w.heap.size + 1, 5, none⟩ = some (.bool true) := by rw [hw1]; simp [go_sem, E1, k5]
  have e6 : w1.cell? ⟨w.heap.size + 1, 6, none⟩ = some (.int .u8 (c : Int)) := by rw [hw1]; simp [go_sem, E1, k6]
  have hz : ∀ j, w1.frozen? ⟨w.heap.size, j, none⟩ = false := fun j => by rw [hw1]; simp [go_sem]
  rw [← hw1] at hs2 hb2
  clear hw1 C hset hb0 hb1 hs2'
  obtain ⟨e0, e1, e2, e3, _⟩ := hs2
  have f0 := hz 0
  have f1 := hz 1
  have f2 := hz 2
  have f3 := hz 3
  have f4 := hz 4
  have f5 := hz 5
  have f6 := hz 6
  clear hz
  dsimp only
  repeat' ((fail_if_success at_builtin); (first | go_skip | go_guarded | go_step))
  refine bodyPost_ret (v := .agg (ecells (litE c))) ?_ rfl ?_
  · simp only [results, Tryd.results99]
    go_simp
    simp only [litE, and_self]
  · exact ⟨rfl, (((((((hb2.setCell (p := ⟨w.heap.size, 0, none⟩) (Nat.le_refl _) _).setCell (p := ⟨w.heap.size, 1, none⟩) (Nat.le_refl _) _).setCell (p := ⟨w.heap.size, 2, none⟩) (Nat.le_refl _) _).setCell (p := ⟨w.heap.size, 3, none⟩) (Nat.le_refl _) _).setCell (p := ⟨w.heap.size, 4, none⟩) (Nat.le_refl _) _).setCell (p := ⟨w.heap.size, 5, none⟩) (Nat.le_refl _) _).setCell (p := ⟨w.heap.size, 6, none⟩) (Nat.le_refl _) _)⟩
/-- the byte of an item of a class at a place, and its length -/
def charAt (l : List UInt8) (i : Nat) : Option (Nat × Nat) := match l[i]? with
  | none => none
  | some c => if c.toNat = 93 ∨ c.toNat = 45 then none else if c.toNat ≠ 92 then some (c.toNat, 1) else match l[i + 1]? with
    | none => none
    | some d => some (d.toNat, 2)
theorem charAt_drop (l : List UInt8) (i : Nat) : charAt (l.drop i) 0 = charAt l i := by
  unfold charAt
  rw [List.getElem?_drop, List.getElem?_drop, Nat.add_zero, Nat.zero_add]
def ch1 : Option (Nat × Nat) → Nat
  | some p => p.1
  | none => 0
def ch2 : Option (Nat × Nat) → Nat
  | some p => p.2
  | none => 0
theorem toList_ne {s : ByteArray} (h : 0 < s.size) : (s.toList == []) = false := by
  have hsz : s.data.toList.length = s.size := by simp
  have hne : ¬ (s.toList = []) := by
    rw [ByteArray.toList_eq]
    intro h2
    rw [h2] at hsz
    simp at hsz
    omega
  simpa using hne
set_option maxRecDepth 100000 in
set_option maxHeartbeats 800000 in
theorem char_any (s : ByteArray) (w : World) (hm : s.size ≤ 1000000) : Calls Tryd.prog 105 #[.string s] w fun e w' =>
    e = .returned (.tuple #[.int .u8 (ch1 (charAt s.data.toList 0) : Int), .int .i64 (ch2 (charAt s.data.toList 0) : Int)]) ∧ w' = w := by
  have hsz : s.data.toList.length = s.size := by simp
  by_cases h0 : s.size = 0
  · have hl : s.data.toList = [] := List.eq_nil_of_length_eq_zero (by omega)
    have hs : s = ByteArray.empty := by
      cases s with
      | mk d => simp at hl; subst hl; rfl
    subst hs
    go_enter Tryd.func105, Tryd.ntmps105
    repeat' ((fail_if_success at_builtin); (first | go_skip | go_guarded | go_step))
    go_ret2
    exact ⟨rfl, rfl⟩
  · have h0' : 0 < s.size := by omega
    have hat := str_at h0'
    have hne2 := toList_ne h0'
    by_cases h1 : s[0].toNat = 93 ∨ s[0].toNat = 45
    · have hch : charAt s.data.toList 0 = none := by unfold charAt; rw [hat]; dsimp only; rw [if_pos h1]
      rw [hch]
      rcases h1 with h1 | h1
      all_goals
        have q1 : ((s[0].toNat : Nat) : Int) = ((s[0].toNat : Nat) : Int) := rfl
        rw [h1] at q1
        go_enter Tryd.func105, Tryd.ntmps105
        repeat' ((fail_if_success at_builtin); (first | go_skip | go_guarded | go_step))
        go_ret2
        exact ⟨rfl, rfl⟩
    · have n1 : ¬ ((s[0].toNat : Int) = 93) := by omega
      have n2 : ¬ ((s[0].toNat : Int) = 45) := by omega
      have m1 : ((s[0].toNat : Int) == 93) = false := by simpa using n1
      have m2 : ((s[0].toNat : Int) == 45) = false := by simpa using n2
      by_cases h2 : s[0].toNat = 92
      · have m3 : ((s[0].toNat : Nat) : Int) = 92 := by omega
        by_cases h3 : 1 < s.size
        · have hat1 := str_at h3
          have h4 : (1 : Int) < (s.size : Int) := by omega
          have hch : charAt s.data.toList 0 = some (s[1].toNat, 2) := by unfold charAt; rw [hat]; dsimp only; rw [if_neg h1, if_neg (by omega), hat1]
          rw [hch]
          have h5 : ((s.size : Nat) : Int) = ((s.size : Nat) : Int) := rfl
          go_enter Tryd.func105, Tryd.ntmps105
          repeat' ((fail_if_success at_builtin); (first | go_skip | go_guarded | go_step))
          go_ret2
          exact ⟨rfl, rfl⟩
        · have hch : charAt s.data.toList 0 = none := by
            have hn : s.data.toList[0 + 1]? = none := List.getElem?_eq_none (by omega)
            unfold charAt; rw [hat]; dsimp only; rw [if_neg h1, if_neg (by omega), hn]
          rw [hch]
          have h5 : ((s.size : Nat) : Int) = ((s.size : Nat) : Int) := rfl
          go_enter Tryd.func105, Tryd.ntmps105
          repeat' ((fail_if_success at_builtin); (first | go_skip | go_guarded | go_step))
          go_ret2
          exact ⟨rfl, rfl⟩
      · have hch : charAt s.data.toList 0 = some (s[0].toNat, 1) := by unfold charAt; rw [hat]; dsimp only; rw [if_neg h1, if_pos h2]
        have n3 : ¬ ((s[0].toNat : Int) = 92) := by omega
        rw [hch]
        go_enter Tryd.func105, Tryd.ntmps105
        repeat' ((fail_if_success at_builtin); (first | go_skip | go_guarded | go_step))
        go_ret2
        exact ⟨rfl, rfl⟩
end Go.Proofs.YtgloblokkejgmaaDoor
