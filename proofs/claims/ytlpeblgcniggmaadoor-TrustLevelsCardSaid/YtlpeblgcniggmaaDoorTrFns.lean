/- Trust: the small functions, on both sides. -/
import Derived.Test.YtlpeblgcniggmaaDoorGAny
import Derived.Test.YtlpeblgcniggmaaDoorIdS
namespace Go.Proofs.YtlpeblgcniggmaaDoor
open Go.RowKit
structure Org where
  prj : ByteArray
  ref : ByteArray
  fork : Bool
structure Scp where
  prj : ByteArray
  trust : Int
  ref : ByteArray
abbrev ocells (o : Org) : Array Value := #[.string o.prj, .string o.ref, .bool o.fork]
abbrev pcells (s : Scp) : Array Value := #[.string s.prj, .int .i64 s.trust, .string s.ref]
def orgE (o : Org) : Int := if nameS o.prj.data.toList = false then 10 else if pathE o.ref.data.toList = 0 then 0 else 1
def lvlB (n : Int) : Bool := decide (0 ≤ n) && decide (n < 3)
def scpS (o : Org) (t : Int) : Scp := ⟨o.prj, t, o.ref⟩
def sameS (a b : ByteArray) : Bool := a.toList == b.toList
def mayR (o : Org) (t : Int) (s : Scp) : Bool := sameS s.prj o.prj && (lvlB s.trust && (lvlB t && (decide (t ≤ s.trust) && (sameS s.ref o.ref || s.trust == 2))))
def mayX (k t : Int) : Bool := lvlB k && (lvlB t && (if t = 0 then k == 0 else decide (t ≤ k)))
def lvlS (o : Org) (ps : List (List UInt8)) : Int := if orgE o ≠ 0 ∨ o.fork = true then 0 else if anyS ps o.ref.data.toList = true then 2 else 1
set_option maxRecDepth 100000 in
set_option maxHeartbeats 800000 in
theorem level_any (n : Int) (w : World) : Calls Tryd.prog 27 #[.int .i64 n] w fun e w' => e = .returned (.bool (lvlB n)) ∧ w' = w := by
  unfold lvlB
  go_enter Tryd.func27, Tryd.ntmps27
  by_cases h0 : 0 ≤ n
  · by_cases h1 : n < 3
    · repeat' ((fail_if_success at_builtin); (first | go_skip | go_guarded | go_step))
      go_ret
      simp [h0, h1]
    · repeat' ((fail_if_success at_builtin); (first | go_skip | go_guarded | go_step))
      go_ret
      simp [h0, h1]
  · repeat' ((fail_if_success at_builtin); (first | go_skip | go_guarded | go_step))
    go_ret
    simp [h0]
set_option maxRecDepth 100000 in
set_option maxHeartbeats 800000 in
theorem known_any (n : Int) (w : World) : Calls Tryd.prog 28 #[.int .i64 n] w fun e w' => e = .returned (.bool (lvlB n)) ∧ w' = w := by
  unfold lvlB
  go_enter Tryd.func28, Tryd.ntmps28
  by_cases h0 : 0 ≤ n
  · by_cases h1 : n < 3
    · have h2 : n ≤ 2 := by omega
      repeat' ((fail_if_success at_builtin); (first | go_skip | go_guarded | go_step))
      go_ret
      simp [h0, h1, h2]
    · have h2 : ¬ n ≤ 2 := by omega
      repeat' ((fail_if_success at_builtin); (first | go_skip | go_guarded | go_step))
      go_ret
      simp [h0, h1, h2]
  · repeat' ((fail_if_success at_builtin); (first | go_skip | go_guarded | go_step))
    go_ret
    simp [h0]
set_option maxRecDepth 100000 in
set_option maxHeartbeats 800000 in
theorem run_any (k t : Int) (w : World) : Calls Tryd.prog 19 #[.int .i64 k, .int .i64 t] w fun e w' => e = .returned (.bool (mayX k t)) ∧ w' = w := by
  go_enter Tryd.func19, Tryd.ntmps19
  repeat' ((fail_if_success at_builtin); (first | go_skip | go_guarded | go_step))
  refine (level_any k w).mono ?_
  rintro e w1 ⟨rfl, rfl⟩
  dsimp only
  cases hk : lvlB k with
  | false =>
    have hv : mayX k t = false := by unfold mayX; rw [hk]; rfl
    replace hv := Lib.hid hv
    repeat' ((fail_if_success at_builtin); (first | go_skip | go_guarded | go_step))
    go_ret
    exact ⟨ret_b hv.out.symm, rfl⟩
  | true =>
    repeat' ((fail_if_success at_builtin); (first | go_skip | go_guarded | go_step))
    refine (level_any t w1).mono ?_
    rintro e w2 ⟨rfl, rfl⟩
    dsimp only
    cases ht : lvlB t with
    | false =>
      have hv : mayX k t = false := by unfold mayX; rw [hk, ht]; rfl
      replace hv := Lib.hid hv
      repeat' ((fail_if_success at_builtin); (first | go_skip | go_guarded | go_step))
      go_ret
      exact ⟨ret_b hv.out.symm, rfl⟩
    | true =>
      by_cases h0 : t = 0
      · have hv : mayX k t = (k == 0) := by unfold mayX; rw [hk, ht, if_pos h0]; rfl
        replace hv := Lib.hid hv
        repeat' ((fail_if_success at_builtin); (first | go_skip | go_guarded | go_step))
        go_ret
        exact ⟨ret_b hv.out.symm, rfl⟩
      · have hv : mayX k t = decide (t ≤ k) := by unfold mayX; rw [hk, ht, if_neg h0]; rfl
        have h0' : (t == 0) = false := by simp; exact h0
        replace hv := Lib.hid hv
        repeat' ((fail_if_success at_builtin); (first | go_skip | go_guarded | go_step))
        go_ret
        exact ⟨ret_b hv.out.symm, rfl⟩
set_option maxRecDepth 100000 in
set_option maxHeartbeats 800000 in
theorem refRun_any (k t : Int) (w : World) : Calls Tryd.prog 20 #[.int .i64 k, .int .i64 t] w fun e w' => e = .returned (.bool (mayX k t)) ∧ w' = w := by
  go_enter Tryd.func20, Tryd.ntmps20
  repeat' ((fail_if_success at_builtin); (first | go_skip | go_guarded | go_step))
  refine (known_any k w).mono ?_
  rintro e w1 ⟨rfl, rfl⟩
  dsimp only
  cases hk : lvlB k with
  | false =>
    have hv : mayX k t = false := by unfold mayX; rw [hk]; rfl
    replace hv := Lib.hid hv
    repeat' ((fail_if_success at_builtin); (first | go_skip | go_guarded | go_step))
    go_ret
    exact ⟨ret_b hv.out.symm, rfl⟩
  | true =>
    repeat' ((fail_if_success at_builtin); (first | go_skip | go_guarded | go_step))
    refine (known_any t w1).mono ?_
    rintro e w2 ⟨rfl, rfl⟩
    dsimp only
    cases ht : lvlB t with
    | false =>
      have hv : mayX k t = false := by unfold mayX; rw [hk, ht]; rfl
      replace hv := Lib.hid hv
      repeat' ((fail_if_success at_builtin); (first | go_skip | go_guarded | go_step))
      go_ret
      exact ⟨ret_b hv.out.symm, rfl⟩
    | true =>
      by_cases h0 : t = 0
      · have hv : mayX k t = (k == 0) := by unfold mayX; rw [hk, ht, if_pos h0]; rfl
        replace hv := Lib.hid hv
        repeat' ((fail_if_success at_builtin); (first | go_skip | go_guarded | go_step))
        go_ret
        exact ⟨ret_b hv.out.symm, rfl⟩
      · have hv : mayX k t = decide (t ≤ k) := by unfold mayX; rw [hk, ht, if_neg h0]; rfl
        have h0' : (t == 0) = false := by simp; exact h0
        replace hv := Lib.hid hv
        repeat' ((fail_if_success at_builtin); (first | go_skip | go_guarded | go_step))
        go_ret
        exact ⟨ret_b hv.out.symm, rfl⟩
set_option maxRecDepth 100000 in
set_option maxHeartbeats 800000 in
theorem scope_any (o : Org) (t : Int) (w : World) : Calls Tryd.prog 15 #[.agg (ocells o), .int .i64 t] w fun e w' => e = .returned (.agg (pcells (scpS o t))) ∧ Below w.heap.size w w' := by
  go_enter Tryd.func15, Tryd.ntmps15
  repeat' ((fail_if_success at_builtin); (first | go_skip | go_guarded | go_step))
  refine bodyPost_ret (v := .agg (pcells (scpS o t))) ?_ rfl ?_
  · simp only [results, Tryd.results15]
    go_simp
    exact ⟨rfl, rfl, rfl⟩
  · exact ⟨rfl, ((Below.refl _ _).alloc (Nat.le_refl _) _).alloc (by simp) _⟩
set_option maxRecDepth 100000 in
set_option maxHeartbeats 800000 in
theorem refScope_any (o : Org) (t : Int) (w : World) : Calls Tryd.prog 16 #[.agg (ocells o), .int .i64 t] w fun e w' => e = .returned (.agg (pcells (scpS o t))) ∧ Below w.heap.size w w' := by
  go_enter Tryd.func16, Tryd.ntmps16
  repeat' ((fail_if_success at_builtin); (first | go_skip | go_guarded | go_step))
  refine bodyPost_ret (v := .agg (pcells (scpS o t))) ?_ rfl ?_
  · simp only [results, Tryd.results16]
    go_simp
    exact ⟨rfl, rfl, rfl⟩
  · exact ⟨rfl, ((Below.refl _ _).alloc (Nat.le_refl _) _).alloc (by simp) _⟩
set_option maxRecDepth 100000 in
set_option maxHeartbeats 800000 in
theorem valid_any (o : Org) (w : World) (hR : Ready w) (h1 : o.prj.size ≤ 1000000) (h2 : o.ref.size ≤ 1000000) : Calls Tryd.prog 11 #[.agg (ocells o)] w fun e w' => e = .returned (.int .i64 (orgE o)) ∧ Below w.heap.size w w' := by
  have hb0 := (Below.refl w.heap.size w).alloc (Nat.le_refl _) (.cells (ocells o) 23)
  have z1 : (w.alloc (.cells (ocells o) 23)).cell? ⟨w.heap.size, 1, none⟩ = some (.string o.ref) := by simp [go_sem]
  have z0 : w.heap.size < (w.alloc (.cells (ocells o) 23)).heap.size := by simp
  have C1 := idName_any o.prj (w.alloc (.cells (ocells o) 23)) (by omega)
  replace C1 := Lib.hid C1
  go_enter Tryd.func11, Tryd.ntmps11
  repeat' ((fail_if_success at_builtin); (first | go_skip | go_guarded | go_step))
  refine C1.out.mono ?_
  rintro e w1 ⟨rfl, hb⟩
  have hb1 := hb0.trans (hb.mono (Nat.le_of_lt z0))
  have y1 := (hb.cell (p := ⟨w.heap.size, 1, none⟩) z0).trans z1
  clear C1
  dsimp only
  cases hn : nameS o.prj.data.toList with
  | false =>
    have hv : orgE o = 10 := by unfold orgE; rw [hn]; rfl
    replace hv := Lib.hid hv
    repeat' ((fail_if_success at_builtin); (first | go_skip | go_guarded | go_step))
    go_ret
    exact ⟨ret_i hv.out.symm, hb1⟩
  | true =>
    have C2 := parts_any o.ref w1 (by omega) (hR.below hb1)
    replace C2 := Lib.hid C2
    repeat' ((fail_if_success at_builtin); (first | go_skip | go_guarded | go_step))
    refine C2.out.mono ?_
    rintro e w2 ⟨⟨v, rfl⟩, hb2⟩
    clear C2
    have hb3 := hb1.trans (hb2.mono hb1.size)
    dsimp only
    by_cases hp : pathE o.ref.data.toList = 0
    · have hp' : ((pathE o.ref.data.toList : Int)) = 0 := by omega
      have hv : orgE o = 0 := by unfold orgE; rw [hn, if_neg (by simp), if_pos hp]
      replace hv := Lib.hid hv
      repeat' ((fail_if_success at_builtin); (first | go_skip | go_guarded | go_step))
      go_ret
      exact ⟨ret_i hv.out.symm, hb3⟩
    · have hp' : ((pathE o.ref.data.toList : Int) == 0) = false := by simp; omega
      have hv : orgE o = 1 := by unfold orgE; rw [hn, if_neg (by simp), if_neg hp]
      replace hv := Lib.hid hv
      repeat' ((fail_if_success at_builtin); (first | go_skip | go_guarded | go_step))
      go_ret
      exact ⟨ret_i hv.out.symm, hb3⟩
set_option maxRecDepth 100000 in
set_option maxHeartbeats 800000 in
theorem refValid_any (o : Org) (w : World) (h1 : o.prj.size ≤ 1000000) (h2 : o.ref.size ≤ 1000000) : Calls Tryd.prog 12 #[.agg (ocells o)] w fun e w' => e = .returned (.int .i64 (orgE o)) ∧ Below w.heap.size w w' := by
  have hb0 := (Below.refl w.heap.size w).alloc (Nat.le_refl _) (.cells (ocells o) 23)
  have z1 : (w.alloc (.cells (ocells o) 23)).cell? ⟨w.heap.size, 1, none⟩ = some (.string o.ref) := by simp [go_sem]
  have z0 : w.heap.size < (w.alloc (.cells (ocells o) 23)).heap.size := by simp
  have C1 := refName_any o.prj (w.alloc (.cells (ocells o) 23)) (by omega)
  replace C1 := Lib.hid C1
  go_enter Tryd.func12, Tryd.ntmps12
  repeat' ((fail_if_success at_builtin); (first | go_skip | go_guarded | go_step))
  refine C1.out.mono ?_
  rintro e w1 ⟨rfl, rfl⟩
  have hb1 := hb0
  have y1 := z1
  generalize hw1 : w.alloc (.cells (ocells o) 23) = w1 at *
  clear C1
  dsimp only
  cases hn : nameS o.prj.data.toList with
  | false =>
    have hv : orgE o = 10 := by unfold orgE; rw [hn]; rfl
    replace hv := Lib.hid hv
    repeat' ((fail_if_success at_builtin); (first | go_skip | go_guarded | go_step))
    go_ret
    exact ⟨ret_i hv.out.symm, hb1⟩
  | true =>
    have C2 := refParts_any o.ref w1 (by omega)
    replace C2 := Lib.hid C2
    repeat' ((fail_if_success at_builtin); (first | go_skip | go_guarded | go_step))
    refine C2.out.mono ?_
    rintro e w2 ⟨⟨v, rfl⟩, hb2⟩
    clear C2
    have hb3 := hb1.trans (hb2.mono hb1.size)
    dsimp only
    by_cases hp : pathE o.ref.data.toList = 0
    · have hp' : ((pathE o.ref.data.toList : Int)) = 0 := by omega
      have hv : orgE o = 0 := by unfold orgE; rw [hn, if_neg (by simp), if_pos hp]
      replace hv := Lib.hid hv
      repeat' ((fail_if_success at_builtin); (first | go_skip | go_guarded | go_step))
      go_ret
      exact ⟨ret_i hv.out.symm, hb3⟩
    · have hp' : ((pathE o.ref.data.toList : Int) == 0) = false := by simp; omega
      have hv : orgE o = 1 := by unfold orgE; rw [hn, if_neg (by simp), if_neg hp]
      replace hv := Lib.hid hv
      repeat' ((fail_if_success at_builtin); (first | go_skip | go_guarded | go_step))
      go_ret
      exact ⟨ret_i hv.out.symm, hb3⟩
set_option maxRecDepth 100000 in
set_option maxHeartbeats 800000 in
theorem mayRead_any (o : Org) (t : Int) (s : Scp) (w : World) : Calls Tryd.prog 17 #[.agg (ocells o), .int .i64 t, .agg (pcells s)] w fun e w' => e = .returned (.bool (mayR o t s)) ∧ Below w.heap.size w w' := by
  have hb1 := (Below.refl w.heap.size w).alloc (Nat.le_refl _) (.cells (ocells o) 23)
  have hb2 := hb1.alloc hb1.size (.cells (pcells s) 34)
  go_enter Tryd.func17, Tryd.ntmps17
  cases h1 : (s.prj.toList == o.prj.toList) with
  | false =>
    have hv : mayR o t s = false := by unfold mayR sameS; rw [h1]; rfl
    replace hv := Lib.hid hv
    repeat' ((fail_if_success at_builtin); (first | go_skip | go_guarded | go_step))
    go_ret
    exact ⟨ret_b hv.out.symm, hb2⟩
  | true =>
    repeat' ((fail_if_success at_builtin); (first | go_skip | go_guarded | go_step))
    refine (level_any s.trust _).mono ?_
    rintro e w1 ⟨rfl, rfl⟩
    dsimp only
    cases h2 : lvlB s.trust with
    | false =>
      have hv : mayR o t s = false := by unfold mayR sameS; rw [h1, h2]; rfl
      replace hv := Lib.hid hv
      repeat' ((fail_if_success at_builtin); (first | go_skip | go_guarded | go_step))
      go_ret
      exact ⟨ret_b hv.out.symm, hb2⟩
    | true =>
      repeat' ((fail_if_success at_builtin); (first | go_skip | go_guarded | go_step))
      refine (level_any t _).mono ?_
      rintro e w2 ⟨rfl, rfl⟩
      dsimp only
      cases h3 : lvlB t with
      | false =>
        have hv : mayR o t s = false := by unfold mayR sameS; rw [h1, h2, h3]; rfl
        replace hv := Lib.hid hv
        repeat' ((fail_if_success at_builtin); (first | go_skip | go_guarded | go_step))
        go_ret
        exact ⟨ret_b hv.out.symm, hb2⟩
      | true =>
        by_cases h4 : t ≤ s.trust
        · cases h5 : (s.ref.toList == o.ref.toList) with
          | true =>
            have hv : mayR o t s = true := by unfold mayR sameS; rw [h1, h2, h3, decide_eq_true h4, h5]; rfl
            replace hv := Lib.hid hv
            repeat' ((fail_if_success at_builtin); (first | go_skip | go_guarded | go_step))
            go_ret
            exact ⟨ret_b hv.out.symm, hb2⟩
          | false =>
            have hv : mayR o t s = (s.trust == 2) := by unfold mayR sameS; rw [h1, h2, h3, decide_eq_true h4, h5]; rfl
            replace hv := Lib.hid hv
            repeat' ((fail_if_success at_builtin); (first | go_skip | go_guarded | go_step))
            go_ret
            exact ⟨ret_b hv.out.symm, hb2⟩
        · have hv : mayR o t s = false := by unfold mayR sameS; rw [h1, h2, h3, decide_eq_false h4]; rfl
          replace hv := Lib.hid hv
          repeat' ((fail_if_success at_builtin); (first | go_skip | go_guarded | go_step))
          go_ret
          exact ⟨ret_b hv.out.symm, hb2⟩
set_option maxRecDepth 100000 in
set_option maxHeartbeats 800000 in
theorem refMayRead_any (o : Org) (t : Int) (s : Scp) (w : World) : Calls Tryd.prog 18 #[.agg (ocells o), .int .i64 t, .agg (pcells s)] w fun e w' => e = .returned (.bool (mayR o t s)) ∧ Below w.heap.size w w' := by
  have hb1 := (Below.refl w.heap.size w).alloc (Nat.le_refl _) (.cells (ocells o) 23)
  have hb2 := hb1.alloc hb1.size (.cells (pcells s) 34)
  go_enter Tryd.func18, Tryd.ntmps18
  cases h1 : (s.prj.toList == o.prj.toList) with
  | false =>
    have hv : mayR o t s = false := by unfold mayR sameS; rw [h1]; rfl
    replace hv := Lib.hid hv
    repeat' ((fail_if_success at_builtin); (first | go_skip | go_guarded | go_step))
    go_ret
    exact ⟨ret_b hv.out.symm, hb2⟩
  | true =>
    repeat' ((fail_if_success at_builtin); (first | go_skip | go_guarded | go_step))
    refine (known_any s.trust _).mono ?_
    rintro e w1 ⟨rfl, rfl⟩
    dsimp only
    cases h2 : lvlB s.trust with
    | false =>
      have hv : mayR o t s = false := by unfold mayR sameS; rw [h1, h2]; rfl
      replace hv := Lib.hid hv
      repeat' ((fail_if_success at_builtin); (first | go_skip | go_guarded | go_step))
      go_ret
      exact ⟨ret_b hv.out.symm, hb2⟩
    | true =>
      repeat' ((fail_if_success at_builtin); (first | go_skip | go_guarded | go_step))
      refine (known_any t _).mono ?_
      rintro e w2 ⟨rfl, rfl⟩
      dsimp only
      cases h3 : lvlB t with
      | false =>
        have hv : mayR o t s = false := by unfold mayR sameS; rw [h1, h2, h3]; rfl
        replace hv := Lib.hid hv
        repeat' ((fail_if_success at_builtin); (first | go_skip | go_guarded | go_step))
        go_ret
        exact ⟨ret_b hv.out.symm, hb2⟩
      | true =>
        by_cases h4 : t ≤ s.trust
        · cases h5 : (s.ref.toList == o.ref.toList) with
          | true =>
            have hv : mayR o t s = true := by unfold mayR sameS; rw [h1, h2, h3, decide_eq_true h4, h5]; rfl
            replace hv := Lib.hid hv
            repeat' ((fail_if_success at_builtin); (first | go_skip | go_guarded | go_step))
            go_ret
            exact ⟨ret_b hv.out.symm, hb2⟩
          | false =>
            have hv : mayR o t s = (s.trust == 2) := by unfold mayR sameS; rw [h1, h2, h3, decide_eq_true h4, h5]; rfl
            replace hv := Lib.hid hv
            repeat' ((fail_if_success at_builtin); (first | go_skip | go_guarded | go_step))
            go_ret
            exact ⟨ret_b hv.out.symm, hb2⟩
        · have hv : mayR o t s = false := by unfold mayR sameS; rw [h1, h2, h3, decide_eq_false h4]; rfl
          replace hv := Lib.hid hv
          repeat' ((fail_if_success at_builtin); (first | go_skip | go_guarded | go_step))
          go_ret
          exact ⟨ret_b hv.out.symm, hb2⟩
set_option maxRecDepth 100000 in
set_option maxHeartbeats 800000 in
theorem lev_any (o : Org) (ps : List ByteArray) (A : Option Addr) (c : Nat) (w : World) (hR : Ready w) (hs : Seq w w.heap.size 1 A ps.length (ps.map Value.string)) (hl : ps.length ≤ 1000000) (hm : ∀ p ∈ ps, p.size ≤ 1000000) (h1 : o.prj.size ≤ 1000000) (h2 : o.ref.size ≤ 1000000) :
    Calls Tryd.prog 13 #[.agg (ocells o), .slice A ps.length c] w fun e w' => e = .returned (.int .i64 (lvlS o (toL ps))) ∧ Below w.heap.size w w' := by
  have hb1 := (Below.refl w.heap.size w).alloc (Nat.le_refl _) (.cells (ocells o) 23)
  have z1 : (w.alloc (.cells (ocells o) 23)).cell? ⟨w.heap.size, 1, none⟩ = some (.string o.ref) := by simp [go_sem]
  have z2 : (w.alloc (.cells (ocells o) 23)).cell? ⟨w.heap.size, 2, none⟩ = some (.bool o.fork) := by simp [go_sem]
  have z0 : w.heap.size < (w.alloc (.cells (ocells o) 23)).heap.size := by simp
  have C1 := valid_any o (w.alloc (.cells (ocells o) 23)) (hR.below hb1) h1 h2
  have C2 := fun (w2 : World) (hb : Below w.heap.size w w2) => any_any ps o.ref A c w2 ((hs.below hb).more hb.size) hl hm h2
  replace C1 := Lib.hid C1
  replace C2 := Lib.hid C2
  clear hs hm
  go_enter Tryd.func13, Tryd.ntmps13
  repeat' ((fail_if_success at_builtin); (first | go_skip | go_guarded | go_step))
  refine C1.out.mono ?_
  rintro e w1 ⟨rfl, hb⟩
  have hb3 := hb1.trans (hb.mono (Nat.le_of_lt z0))
  have y1 := (hb.cell (p := ⟨w.heap.size, 1, none⟩) z0).trans z1
  have y2 := (hb.cell (p := ⟨w.heap.size, 2, none⟩) z0).trans z2
  clear C1
  dsimp only
  by_cases hE : orgE o = 0
  · cases hF : o.fork with
    | true =>
      have hv : lvlS o (toL ps) = 0 := by unfold lvlS; rw [if_pos (.inr hF)]
      rw [hF] at y2
      replace hv := Lib.hid hv
      repeat' ((fail_if_success at_builtin); (first | go_skip | go_guarded | go_step))
      go_ret
      exact ⟨ret_i hv.out.symm, hb3⟩
    | false =>
      rw [hF] at y2
      repeat' ((fail_if_success at_builtin); (first | go_skip | go_guarded | go_step))
      refine (C2.out w1 hb3).mono ?_
      rintro e w4 ⟨rfl, hb4⟩
      have hb5 := hb3.trans (hb4.mono hb3.size)
      dsimp only
      cases hA : anyS (toL ps) o.ref.data.toList with
      | true =>
        have hv : lvlS o (toL ps) = 2 := by unfold lvlS; rw [if_neg (by rw [hE, hF]; simp), if_pos hA]
        replace hv := Lib.hid hv
        repeat' ((fail_if_success at_builtin); (first | go_skip | go_guarded | go_step))
        go_ret
        exact ⟨ret_i hv.out.symm, hb5⟩
      | false =>
        have hv : lvlS o (toL ps) = 1 := by unfold lvlS; rw [if_neg (by rw [hE, hF]; simp), if_neg (by rw [hA]; simp)]
        replace hv := Lib.hid hv
        repeat' ((fail_if_success at_builtin); (first | go_skip | go_guarded | go_step))
        go_ret
        exact ⟨ret_i hv.out.symm, hb5⟩
  · have hE' : (orgE o == 0) = false := by simp; exact hE
    have hv : lvlS o (toL ps) = 0 := by unfold lvlS; rw [if_pos (.inl hE)]
    replace hv := Lib.hid hv
    repeat' ((fail_if_success at_builtin); (first | go_skip | go_guarded | go_step))
    go_ret
    exact ⟨ret_i hv.out.symm, hb3⟩
end Go.Proofs.YtlpeblgcniggmaaDoor
