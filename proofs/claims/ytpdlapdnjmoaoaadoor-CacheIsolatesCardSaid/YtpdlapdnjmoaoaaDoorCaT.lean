/- Cache: trust levels and MayRead, both sides. -/
import Derived.Test.YtpdlapdnjmoaoaaDoorCaE
namespace Go.Proofs.YtpdlapdnjmoaoaaDoor
open Go.RowKit
structure Org where
  prj : ByteArray
  ref : ByteArray
  fork : Bool
abbrev ocells (o : Org) : Array Value := #[.string o.prj, .string o.ref, .bool o.fork]
def lvlB (n : Int) : Bool := decide (0 ≤ n) && decide (n < 3)
def scpS (o : Org) (t : Int) : Scp := ⟨o.prj, t, o.ref⟩
def sameS (a b : ByteArray) : Bool := a.toList == b.toList
def mayR (o : Org) (t : Int) (s : Scp) : Bool := sameS s.prj o.prj && (lvlB s.trust && (lvlB t && (decide (t ≤ s.trust) && (sameS s.ref o.ref || s.trust == 2))))
set_option maxRecDepth 100000 in
set_option maxHeartbeats 800000 in
theorem level_any (n : Int) (w : World) : Calls Tryd.prog 73 #[.int .i64 n] w fun e w' => e = .returned (.bool (lvlB n)) ∧ w' = w := by
  unfold lvlB
  go_enter Tryd.func73, Tryd.ntmps73
  by_cases h0 : 0 ≤ n
  · by_cases h1 : n < 3
    · repeat' ((fail_if_success at_builtin); (first | go_skip | go_guarded | go_step))
      go_ret
      simp [h0, h1]
    · repeat' ((fail_if_success at_builtin); (first | go_skip | go_guarded | go_step))
      go_ret
      simp [h0, h1]
  · repeat' ((fail_if_success at_builtin); (first | go_skip | go_guarded | go_step))
    go_ret
    simp [h0]
set_option maxRecDepth 100000 in
set_option maxHeartbeats 800000 in
theorem known_any (n : Int) (w : World) : Calls Tryd.prog 74 #[.int .i64 n] w fun e w' => e = .returned (.bool (lvlB n)) ∧ w' = w := by
  unfold lvlB
  go_enter Tryd.func74, Tryd.ntmps74
  by_cases h0 : 0 ≤ n
  · by_cases h1 : n < 3
    · have h2 : n ≤ 2 := by omega
      repeat' ((fail_if_success at_builtin); (first | go_skip | go_guarded | go_step))
      go_ret
      simp [h0, h1, h2]
    · have h2 : ¬ n ≤ 2 := by omega
      repeat' ((fail_if_success at_builtin); (first | go_skip | go_guarded | go_step))
      go_ret
      simp [h0, h1, h2]
  · repeat' ((fail_if_success at_builtin); (first | go_skip | go_guarded | go_step))
    go_ret
    simp [h0]
set_option maxRecDepth 100000 in
set_option maxHeartbeats 800000 in
theorem mayRead_any (o : Org) (t : Int) (s : Scp) (w : World) : Calls Tryd.prog 58 #[.agg (ocells o), .int .i64 t, .agg (pcells s)] w fun e w' => e = .returned (.bool (mayR o t s)) ∧ Below w.heap.size w w' := by
  have hb1 := (Below.refl w.heap.size w).alloc (Nat.le_refl _) (.cells (ocells o) 54)
  have hb2 := hb1.alloc hb1.size (.cells (pcells s) 38)
  go_enter Tryd.func58, Tryd.ntmps58
  cases h1 : (s.prj.toList == o.prj.toList) with
  | false =>
    have hv : mayR o t s = false := by unfold mayR sameS; rw [h1]; rfl
    replace hv := Lib.hid hv
    repeat' ((fail_if_success at_builtin); (first | go_skip | go_guarded | go_step))
    go_ret
    exact ⟨ret_b hv.out.symm, hb2⟩
  | true =>
    repeat' ((fail_if_success at_builtin); (first | go_skip | go_guarded | go_step))
    refine (level_any s.trust _).mono ?_
    rintro e w1 ⟨rfl, rfl⟩
    dsimp only
    cases h2 : lvlB s.trust with
    | false =>
      have hv : mayR o t s = false := by unfold mayR sameS; rw [h1, h2]; rfl
      replace hv := Lib.hid hv
      repeat' ((fail_if_success at_builtin); (first | go_skip | go_guarded | go_step))
      go_ret
      exact ⟨ret_b hv.out.symm, hb2⟩
    | true =>
      repeat' ((fail_if_success at_builtin); (first | go_skip | go_guarded | go_step))
      refine (level_any t _).mono ?_
      rintro e w2 ⟨rfl, rfl⟩
      dsimp only
      cases h3 : lvlB t with
      | false =>
        have hv : mayR o t s = false := by unfold mayR sameS; rw [h1, h2, h3]; rfl
        replace hv := Lib.hid hv
        repeat' ((fail_if_success at_builtin); (first | go_skip | go_guarded | go_step))
        go_ret
        exact ⟨ret_b hv.out.symm, hb2⟩
      | true =>
        by_cases h4 : t ≤ s.trust
        · cases h5 : (s.ref.toList == o.ref.toList) with
          | true =>
            have hv : mayR o t s = true := by unfold mayR sameS; rw [h1, h2, h3, decide_eq_true h4, h5]; rfl
            replace hv := Lib.hid hv
            repeat' ((fail_if_success at_builtin); (first | go_skip | go_guarded | go_step))
            go_ret
            exact ⟨ret_b hv.out.symm, hb2⟩
          | false =>
            have hv : mayR o t s = (s.trust == 2) := by unfold mayR sameS; rw [h1, h2, h3, decide_eq_true h4, h5]; rfl
            replace hv := Lib.hid hv
            repeat' ((fail_if_success at_builtin); (first | go_skip | go_guarded | go_step))
            go_ret
            exact ⟨ret_b hv.out.symm, hb2⟩
        · have hv : mayR o t s = false := by unfold mayR sameS; rw [h1, h2, h3, decide_eq_false h4]; rfl
          replace hv := Lib.hid hv
          repeat' ((fail_if_success at_builtin); (first | go_skip | go_guarded | go_step))
          go_ret
          exact ⟨ret_b hv.out.symm, hb2⟩
set_option maxRecDepth 100000 in
set_option maxHeartbeats 800000 in
theorem refMayRead_any (o : Org) (t : Int) (s : Scp) (w : World) : Calls Tryd.prog 59 #[.agg (ocells o), .int .i64 t, .agg (pcells s)] w fun e w' => e = .returned (.bool (mayR o t s)) ∧ Below w.heap.size w w' := by
  have hb1 := (Below.refl w.heap.size w).alloc (Nat.le_refl _) (.cells (ocells o) 54)
  have hb2 := hb1.alloc hb1.size (.cells (pcells s) 38)
  go_enter Tryd.func59, Tryd.ntmps59
  cases h1 : (s.prj.toList == o.prj.toList) with
  | false =>
    have hv : mayR o t s = false := by unfold mayR sameS; rw [h1]; rfl
    replace hv := Lib.hid hv
    repeat' ((fail_if_success at_builtin); (first | go_skip | go_guarded | go_step))
    go_ret
    exact ⟨ret_b hv.out.symm, hb2⟩
  | true =>
    repeat' ((fail_if_success at_builtin); (first | go_skip | go_guarded | go_step))
    refine (known_any s.trust _).mono ?_
    rintro e w1 ⟨rfl, rfl⟩
    dsimp only
    cases h2 : lvlB s.trust with
    | false =>
      have hv : mayR o t s = false := by unfold mayR sameS; rw [h1, h2]; rfl
      replace hv := Lib.hid hv
      repeat' ((fail_if_success at_builtin); (first | go_skip | go_guarded | go_step))
      go_ret
      exact ⟨ret_b hv.out.symm, hb2⟩
    | true =>
      repeat' ((fail_if_success at_builtin); (first | go_skip | go_guarded | go_step))
      refine (known_any t _).mono ?_
      rintro e w2 ⟨rfl, rfl⟩
      dsimp only
      cases h3 : lvlB t with
      | false =>
        have hv : mayR o t s = false := by unfold mayR sameS; rw [h1, h2, h3]; rfl
        replace hv := Lib.hid hv
        repeat' ((fail_if_success at_builtin); (first | go_skip | go_guarded | go_step))
        go_ret
        exact ⟨ret_b hv.out.symm, hb2⟩
      | true =>
        by_cases h4 : t ≤ s.trust
        · cases h5 : (s.ref.toList == o.ref.toList) with
          | true =>
            have hv : mayR o t s = true := by unfold mayR sameS; rw [h1, h2, h3, decide_eq_true h4, h5]; rfl
            replace hv := Lib.hid hv
            repeat' ((fail_if_success at_builtin); (first | go_skip | go_guarded | go_step))
            go_ret
            exact ⟨ret_b hv.out.symm, hb2⟩
          | false =>
            have hv : mayR o t s = (s.trust == 2) := by unfold mayR sameS; rw [h1, h2, h3, decide_eq_true h4, h5]; rfl
            replace hv := Lib.hid hv
            repeat' ((fail_if_success at_builtin); (first | go_skip | go_guarded | go_step))
            go_ret
            exact ⟨ret_b hv.out.symm, hb2⟩
        · have hv : mayR o t s = false := by unfold mayR sameS; rw [h1, h2, h3, decide_eq_false h4]; rfl
          replace hv := Lib.hid hv
          repeat' ((fail_if_success at_builtin); (first | go_skip | go_guarded | go_step))
          go_ret
          exact ⟨ret_b hv.out.symm, hb2⟩
end Go.Proofs.YtpdlapdnjmoaoaaDoor
