/- Label: bounds. -/
import Derived.Test.YtppbblgdcckbdaaDoorLbRN
import Derived.Test.YtppbblgdcckbdaaDoorCel
import Derived.BigRegion
import Derived.BigQuiet
namespace Go.Proofs.YtppbblgdcckbdaaDoor
open Go.RowKit
abbrev bcells (b : Bnd) : List Value := [.bool b.absent, .bool b.there, .bool b.numbered, .int .i64 (b.lo : Int), .int .i64 (b.hi : Int)]
set_option maxRecDepth 100000 in
set_option maxHeartbeats 4000000 in
theorem add_any (b : Bnd) (t : Prt) (g : Nat) (w : World) (hB : CellsAt w g (bcells b)) (h1 : 1 ≤ t.form) (h5 : t.form ≤ 5) :
    Calls Tryd.prog 28 #[.pointer (some ⟨g, 0, none⟩), .agg (pval t)] w fun e w' => e = .returned (.tuple #[]) ∧ w.grownBy w' (some g) ∧ CellsAt w' g (bcells (addB b t)) := by
  have hlg := hB.lt
  obtain ⟨ab, th, nu, lo, hi⟩ := b
  obtain ⟨tf, tn, tm⟩ := t
  have hC := hB.kept ((Below.refl _ w).alloc (Nat.le_refl _) (.cells (pval ⟨tf, tn, tm⟩) 33))
  have hbw : Below w.heap.size w (w.alloc (.cells (pval ⟨tf, tn, tm⟩) 33)) := (Below.refl _ _).alloc (Nat.le_refl _) _
  have hX := Z3.new (w := w) (Below.refl _ w) 33 ⟨tf, tn, tm⟩
  rcases (show tf = 1 ∨ tf = 2 ∨ tf = 3 ∨ tf = 4 ∨ tf = 5 by simp at h1 h5; omega) with rfl | rfl | rfl | rfl | rfl
  · go_enter Tryd.func28, Tryd.ntmps28
    go_upto_region 1 with (fail)
    clear hB
    generalize hw1 : World.alloc w _ = w1
    replace hC : CellsAt w1 g (bcells ⟨ab, th, nu, lo, hi⟩) := by rw [← hw1]; exact hC
    replace hbw : Below w.heap.size w w1 := by rw [← hw1]; exact hbw
    replace hX : Z3 w w1 w.heap.size ⟨1, tn, tm⟩ := by rw [← hw1]; exact hX
    clear hw1
    have d0 := hC.cell 0 _ rfl
    have d1 := hC.cell 1 _ rfl
    have d2 := hC.cell 2 _ rfl
    have d3 := hC.cell 3 _ rfl
    have d4 := hC.cell 4 _ rfl
    have e0 := hX.c0
    have e1 := hX.c1
    have e2 := hX.c2
    have ff := hC.fr
    have hng : w.heap.size ≠ g := Nat.ne_of_gt hlg
    have hng2 : g ≠ w.heap.size := Nat.ne_of_lt hlg
    have m1 : max (lo : Int) (tm : Int) = ((max lo tm : Nat) : Int) := by omega
    have m2 : min (hi : Int) (tm : Int) = ((min hi tm : Nat) : Int) := by omega
    repeat' ((fail_if_success at_builtin); (first | go_skip | go_guarded | go_step))
    (try simp only [Exit.inBlock, Exit.then])
    first | (refine bodyPost_end (results_none rfl _ _ _) rfl ?_) | (refine bodyPost_ret (results_none rfl _ _ _) rfl ?_)
    exact ⟨rfl, Lib.grownBy_setB (growBelow hbw) _ _, (hC.set 1 (.bool true))⟩
  · go_enter Tryd.func28, Tryd.ntmps28
    go_upto_region 1 with (fail)
    clear hB
    generalize hw1 : World.alloc w _ = w1
    replace hC : CellsAt w1 g (bcells ⟨ab, th, nu, lo, hi⟩) := by rw [← hw1]; exact hC
    replace hbw : Below w.heap.size w w1 := by rw [← hw1]; exact hbw
    replace hX : Z3 w w1 w.heap.size ⟨2, tn, tm⟩ := by rw [← hw1]; exact hX
    clear hw1
    have d0 := hC.cell 0 _ rfl
    have d1 := hC.cell 1 _ rfl
    have d2 := hC.cell 2 _ rfl
    have d3 := hC.cell 3 _ rfl
    have d4 := hC.cell 4 _ rfl
    have e0 := hX.c0
    have e1 := hX.c1
    have e2 := hX.c2
    have ff := hC.fr
    have hng : w.heap.size ≠ g := Nat.ne_of_gt hlg
    have hng2 : g ≠ w.heap.size := Nat.ne_of_lt hlg
    have m1 : max (lo : Int) (tm : Int) = ((max lo tm : Nat) : Int) := by omega
    have m2 : min (hi : Int) (tm : Int) = ((min hi tm : Nat) : Int) := by omega
    repeat' ((fail_if_success at_builtin); (first | go_skip | go_guarded | go_step))
    (try simp only [Exit.inBlock, Exit.then])
    first | (refine bodyPost_end (results_none rfl _ _ _) rfl ?_) | (refine bodyPost_ret (results_none rfl _ _ _) rfl ?_)
    exact ⟨rfl, Lib.grownBy_setB (growBelow hbw) _ _, (hC.set 0 (.bool true))⟩
  · go_enter Tryd.func28, Tryd.ntmps28
    go_upto_region 1 with (fail)
    clear hB
    generalize hw1 : World.alloc w _ = w1
    replace hC : CellsAt w1 g (bcells ⟨ab, th, nu, lo, hi⟩) := by rw [← hw1]; exact hC
    replace hbw : Below w.heap.size w w1 := by rw [← hw1]; exact hbw
    replace hX : Z3 w w1 w.heap.size ⟨3, tn, tm⟩ := by rw [← hw1]; exact hX
    clear hw1
    have d0 := hC.cell 0 _ rfl
    have d1 := hC.cell 1 _ rfl
    have d2 := hC.cell 2 _ rfl
    have d3 := hC.cell 3 _ rfl
    have d4 := hC.cell 4 _ rfl
    have e0 := hX.c0
    have e1 := hX.c1
    have e2 := hX.c2
    have ff := hC.fr
    have hng : w.heap.size ≠ g := Nat.ne_of_gt hlg
    have hng2 : g ≠ w.heap.size := Nat.ne_of_lt hlg
    have m1 : max (lo : Int) (tm : Int) = ((max lo tm : Nat) : Int) := by omega
    have m2 : min (hi : Int) (tm : Int) = ((min hi tm : Nat) : Int) := by omega
    repeat' ((fail_if_success at_builtin); (first | go_skip | go_guarded | go_step))
    go_region
    repeat' ((fail_if_success at_builtin); (first | go_skip | go_guarded | go_step))
    (try simp only [Exit.inBlock, Exit.then])
    first | (refine bodyPost_end (results_none rfl _ _ _) rfl ?_) | (refine bodyPost_ret (results_none rfl _ _ _) rfl ?_)
    exact ⟨rfl, growDrew (Lib.grownBy_setB (Lib.grownBy_setB (Lib.grownBy_setB (growBelow hbw) _ _) _ _) _ _), (((hC.set 1 (.bool true)).set 2 (.bool true)).set 3 (.int .i64 ((max lo tm : Nat) : Int))).drew⟩
  · go_enter Tryd.func28, Tryd.ntmps28
    go_upto_region 1 with (fail)
    clear hB
    generalize hw1 : World.alloc w _ = w1
    replace hC : CellsAt w1 g (bcells ⟨ab, th, nu, lo, hi⟩) := by rw [← hw1]; exact hC
    replace hbw : Below w.heap.size w w1 := by rw [← hw1]; exact hbw
    replace hX : Z3 w w1 w.heap.size ⟨4, tn, tm⟩ := by rw [← hw1]; exact hX
    clear hw1
    have d0 := hC.cell 0 _ rfl
    have d1 := hC.cell 1 _ rfl
    have d2 := hC.cell 2 _ rfl
    have d3 := hC.cell 3 _ rfl
    have d4 := hC.cell 4 _ rfl
    have e0 := hX.c0
    have e1 := hX.c1
    have e2 := hX.c2
    have ff := hC.fr
    have hng : w.heap.size ≠ g := Nat.ne_of_gt hlg
    have hng2 : g ≠ w.heap.size := Nat.ne_of_lt hlg
    have m1 : max (lo : Int) (tm : Int) = ((max lo tm : Nat) : Int) := by omega
    have m2 : min (hi : Int) (tm : Int) = ((min hi tm : Nat) : Int) := by omega
    repeat' ((fail_if_success at_builtin); (first | go_skip | go_guarded | go_step))
    go_region
    repeat' ((fail_if_success at_builtin); (first | go_skip | go_guarded | go_step))
    (try simp only [Exit.inBlock, Exit.then])
    first | (refine bodyPost_end (results_none rfl _ _ _) rfl ?_) | (refine bodyPost_ret (results_none rfl _ _ _) rfl ?_)
    exact ⟨rfl, growDrew (Lib.grownBy_setB (Lib.grownBy_setB (Lib.grownBy_setB (growBelow hbw) _ _) _ _) _ _), (((hC.set 1 (.bool true)).set 2 (.bool true)).set 4 (.int .i64 ((min hi tm : Nat) : Int))).drew⟩
  · go_enter Tryd.func28, Tryd.ntmps28
    go_upto_region 1 with (fail)
    clear hB
    generalize hw1 : World.alloc w _ = w1
    replace hC : CellsAt w1 g (bcells ⟨ab, th, nu, lo, hi⟩) := by rw [← hw1]; exact hC
    replace hbw : Below w.heap.size w w1 := by rw [← hw1]; exact hbw
    replace hX : Z3 w w1 w.heap.size ⟨5, tn, tm⟩ := by rw [← hw1]; exact hX
    clear hw1
    have d0 := hC.cell 0 _ rfl
    have d1 := hC.cell 1 _ rfl
    have d2 := hC.cell 2 _ rfl
    have d3 := hC.cell 3 _ rfl
    have d4 := hC.cell 4 _ rfl
    have e0 := hX.c0
    have e1 := hX.c1
    have e2 := hX.c2
    have ff := hC.fr
    have hng : w.heap.size ≠ g := Nat.ne_of_gt hlg
    have hng2 : g ≠ w.heap.size := Nat.ne_of_lt hlg
    have m1 : max (lo : Int) (tm : Int) = ((max lo tm : Nat) : Int) := by omega
    have m2 : min (hi : Int) (tm : Int) = ((min hi tm : Nat) : Int) := by omega
    repeat' ((fail_if_success at_builtin); (first | go_skip | go_guarded | go_step))
    go_region
    repeat' ((fail_if_success at_builtin); (first | go_skip | go_guarded | go_step))
    go_region
    repeat' ((fail_if_success at_builtin); (first | go_skip | go_guarded | go_step))
    (try simp only [Exit.inBlock, Exit.then])
    first | (refine bodyPost_end (results_none rfl _ _ _) rfl ?_) | (refine bodyPost_ret (results_none rfl _ _ _) rfl ?_)
    exact ⟨rfl, growDrew (growDrew (Lib.grownBy_setB (Lib.grownBy_setB (Lib.grownBy_setB (Lib.grownBy_setB (growBelow hbw) _ _) _ _) _ _) _ _)), ((((hC.set 1 (.bool true)).set 2 (.bool true)).set 3 (.int .i64 ((max lo tm : Nat) : Int))).set 4 (.int .i64 ((min hi tm : Nat) : Int))).drew.drew⟩
set_option maxRecDepth 100000 in
set_option maxHeartbeats 2000000 in
theorem possible_any (b : Bnd) (g : Nat) (w : World) (hB : CellsAt w g (bcells b)) :
    Calls Tryd.prog 29 #[.pointer (some ⟨g, 0, none⟩)] w fun e w' => e = .returned (.bool (possB b)) ∧ Below w.heap.size w w' := by
  obtain ⟨ab, th, nu, lo, hi⟩ := b
  by_cases hle : lo ≤ hi
  · have hle' : (lo : Int) ≤ (hi : Int) := by omega
    cases ab
    · cases th
      · go_enter Tryd.func29, Tryd.ntmps29
        have d0 := hB.cell 0 _ rfl
        have d1 := hB.cell 1 _ rfl
        have d3 := hB.cell 3 _ rfl
        have d4 := hB.cell 4 _ rfl
        repeat' ((fail_if_success at_builtin); (first | go_skip | go_guarded | go_step))
        go_quiet (fail)
        have hb9 : Below w.heap.size w (w.drewN nq) := Below.drewN w nq
        repeat' ((fail_if_success at_builtin); (first | go_skip | go_guarded | go_step))
        go_ret
        exact ⟨retB (by unfold possB; simp [hle]), hb9⟩
      · go_enter Tryd.func29, Tryd.ntmps29
        have d0 := hB.cell 0 _ rfl
        have d1 := hB.cell 1 _ rfl
        have d3 := hB.cell 3 _ rfl
        have d4 := hB.cell 4 _ rfl
        repeat' ((fail_if_success at_builtin); (first | go_skip | go_guarded | go_step))
        go_quiet (fail)
        have hb9 : Below w.heap.size w (w.drewN nq) := Below.drewN w nq
        repeat' ((fail_if_success at_builtin); (first | go_skip | go_guarded | go_step))
        go_ret
        exact ⟨retB (by unfold possB; simp [hle]), hb9⟩
    · cases th
      · go_enter Tryd.func29, Tryd.ntmps29
        have d0 := hB.cell 0 _ rfl
        have d1 := hB.cell 1 _ rfl
        have d3 := hB.cell 3 _ rfl
        have d4 := hB.cell 4 _ rfl
        repeat' ((fail_if_success at_builtin); (first | go_skip | go_guarded | go_step))
        go_quiet (fail)
        have hb9 : Below w.heap.size w (w.drewN nq) := Below.drewN w nq
        repeat' ((fail_if_success at_builtin); (first | go_skip | go_guarded | go_step))
        go_ret
        exact ⟨retB (by unfold possB; simp [hle]), hb9⟩
      · go_enter Tryd.func29, Tryd.ntmps29
        have d0 := hB.cell 0 _ rfl
        have d1 := hB.cell 1 _ rfl
        have d3 := hB.cell 3 _ rfl
        have d4 := hB.cell 4 _ rfl
        repeat' ((fail_if_success at_builtin); (first | go_skip | go_guarded | go_step))
        go_quiet (fail)
        have hb9 : Below w.heap.size w (w.drewN nq) := Below.drewN w nq
        repeat' ((fail_if_success at_builtin); (first | go_skip | go_guarded | go_step))
        go_ret
        exact ⟨retB (by unfold possB; simp [hle]), hb9⟩
  · have hle' : ¬ (lo : Int) ≤ (hi : Int) := by omega
    cases ab
    · cases th
      · go_enter Tryd.func29, Tryd.ntmps29
        have d0 := hB.cell 0 _ rfl
        have d1 := hB.cell 1 _ rfl
        have d3 := hB.cell 3 _ rfl
        have d4 := hB.cell 4 _ rfl
        repeat' ((fail_if_success at_builtin); (first | go_skip | go_guarded | go_step))
        go_quiet (fail)
        have hb9 : Below w.heap.size w (w.drewN nq) := Below.drewN w nq
        repeat' ((fail_if_success at_builtin); (first | go_skip | go_guarded | go_step))
        go_ret
        exact ⟨retB (by unfold possB; simp [hle]), hb9⟩
      · go_enter Tryd.func29, Tryd.ntmps29
        have d0 := hB.cell 0 _ rfl
        have d1 := hB.cell 1 _ rfl
        have d3 := hB.cell 3 _ rfl
        have d4 := hB.cell 4 _ rfl
        repeat' ((fail_if_success at_builtin); (first | go_skip | go_guarded | go_step))
        go_quiet (fail)
        have hb9 : Below w.heap.size w (w.drewN nq) := Below.drewN w nq
        repeat' ((fail_if_success at_builtin); (first | go_skip | go_guarded | go_step))
        go_ret
        exact ⟨retB (by unfold possB; simp [hle]), hb9⟩
    · cases th
      · go_enter Tryd.func29, Tryd.ntmps29
        have d0 := hB.cell 0 _ rfl
        have d1 := hB.cell 1 _ rfl
        have d3 := hB.cell 3 _ rfl
        have d4 := hB.cell 4 _ rfl
        repeat' ((fail_if_success at_builtin); (first | go_skip | go_guarded | go_step))
        go_quiet (fail)
        have hb9 : Below w.heap.size w (w.drewN nq) := Below.drewN w nq
        repeat' ((fail_if_success at_builtin); (first | go_skip | go_guarded | go_step))
        go_ret
        exact ⟨retB (by unfold possB; simp [hle]), hb9⟩
      · go_enter Tryd.func29, Tryd.ntmps29
        have d0 := hB.cell 0 _ rfl
        have d1 := hB.cell 1 _ rfl
        have d3 := hB.cell 3 _ rfl
        have d4 := hB.cell 4 _ rfl
        repeat' ((fail_if_success at_builtin); (first | go_skip | go_guarded | go_step))
        go_quiet (fail)
        have hb9 : Below w.heap.size w (w.drewN nq) := Below.drewN w nq
        repeat' ((fail_if_success at_builtin); (first | go_skip | go_guarded | go_step))
        go_ret
        exact ⟨retB (by unfold possB; simp [hle]), hb9⟩
set_option maxRecDepth 100000 in
set_option maxHeartbeats 2000000 in
theorem implies_any (b : Bnd) (t : Prt) (g : Nat) (w : World) (hB : CellsAt w g (bcells b)) (h1 : 1 ≤ t.form) (h5 : t.form ≤ 5) :
    Calls Tryd.prog 30 #[.pointer (some ⟨g, 0, none⟩), .agg (pval t)] w fun e w' => e = .returned (.bool (impB b t)) ∧ Below w.heap.size w w' := by
  have hlg := hB.lt
  obtain ⟨ab, th, nu, lo, hi⟩ := b
  obtain ⟨tf, tn, tm⟩ := t
  have hC := hB.kept ((Below.refl _ w).alloc (Nat.le_refl _) (.cells (pval ⟨tf, tn, tm⟩) 33))
  have hbw : Below w.heap.size w (w.alloc (.cells (pval ⟨tf, tn, tm⟩) 33)) := (Below.refl _ _).alloc (Nat.le_refl _) _
  have hX := Z3.new (w := w) (Below.refl _ w) 33 ⟨tf, tn, tm⟩
  rcases (show tf = 1 ∨ tf = 2 ∨ tf = 3 ∨ tf = 4 ∨ tf = 5 by simp at h1 h5; omega) with rfl | rfl | rfl | rfl | rfl
  · go_enter Tryd.func30, Tryd.ntmps30
    go_upto_region 1 with (fail)
    clear hB
    generalize hw1 : World.alloc w _ = w1
    replace hC : CellsAt w1 g (bcells ⟨ab, th, nu, lo, hi⟩) := by rw [← hw1]; exact hC
    replace hbw : Below w.heap.size w w1 := by rw [← hw1]; exact hbw
    replace hX : Z3 w w1 w.heap.size ⟨1, tn, tm⟩ := by rw [← hw1]; exact hX
    clear hw1
    have d0 := hC.cell 0 _ rfl
    have d1 := hC.cell 1 _ rfl
    have d2 := hC.cell 2 _ rfl
    have d3 := hC.cell 3 _ rfl
    have d4 := hC.cell 4 _ rfl
    have e0 := hX.c0
    have e1 := hX.c1
    have e2 := hX.c2
    have ff := hC.fr
    have hng : w.heap.size ≠ g := Nat.ne_of_gt hlg
    have hng2 : g ≠ w.heap.size := Nat.ne_of_lt hlg
    repeat' ((fail_if_success at_builtin); (first | go_skip | go_guarded | go_step))
    have hb9 := hbw
    go_ret
    exact ⟨retB (by unfold impB; simp), hb9⟩
  · go_enter Tryd.func30, Tryd.ntmps30
    go_upto_region 1 with (fail)
    clear hB
    generalize hw1 : World.alloc w _ = w1
    replace hC : CellsAt w1 g (bcells ⟨ab, th, nu, lo, hi⟩) := by rw [← hw1]; exact hC
    replace hbw : Below w.heap.size w w1 := by rw [← hw1]; exact hbw
    replace hX : Z3 w w1 w.heap.size ⟨2, tn, tm⟩ := by rw [← hw1]; exact hX
    clear hw1
    have d0 := hC.cell 0 _ rfl
    have d1 := hC.cell 1 _ rfl
    have d2 := hC.cell 2 _ rfl
    have d3 := hC.cell 3 _ rfl
    have d4 := hC.cell 4 _ rfl
    have e0 := hX.c0
    have e1 := hX.c1
    have e2 := hX.c2
    have ff := hC.fr
    have hng : w.heap.size ≠ g := Nat.ne_of_gt hlg
    have hng2 : g ≠ w.heap.size := Nat.ne_of_lt hlg
    repeat' ((fail_if_success at_builtin); (first | go_skip | go_guarded | go_step))
    have hb9 := hbw
    go_ret
    exact ⟨retB (by unfold impB; simp), hb9⟩
  · cases nu
    · go_enter Tryd.func30, Tryd.ntmps30
      go_upto_region 1 with (fail)
      clear hB
      generalize hw1 : World.alloc w _ = w1
      replace hC : CellsAt w1 g (bcells ⟨ab, th, false, lo, hi⟩) := by rw [← hw1]; exact hC
      replace hbw : Below w.heap.size w w1 := by rw [← hw1]; exact hbw
      replace hX : Z3 w w1 w.heap.size ⟨3, tn, tm⟩ := by rw [← hw1]; exact hX
      clear hw1
      have d0 := hC.cell 0 _ rfl
      have d1 := hC.cell 1 _ rfl
      have d2 := hC.cell 2 _ rfl
      have d3 := hC.cell 3 _ rfl
      have d4 := hC.cell 4 _ rfl
      have e0 := hX.c0
      have e1 := hX.c1
      have e2 := hX.c2
      have ff := hC.fr
      have hng : w.heap.size ≠ g := Nat.ne_of_gt hlg
      have hng2 : g ≠ w.heap.size := Nat.ne_of_lt hlg
      repeat' ((fail_if_success at_builtin); (first | go_skip | go_guarded | go_step))
      go_quiet (fail)
      have hb9 := hbw.trans (Below.mono (Below.drewN w1 nq) hbw.size)
      repeat' ((fail_if_success at_builtin); (first | go_skip | go_guarded | go_step))
      go_ret
      exact ⟨retB (by unfold impB; simp), hb9⟩
    · by_cases hc : tm ≤ lo
      · have hc2 : (tm : Int) ≤ (lo : Int) := by omega
        go_enter Tryd.func30, Tryd.ntmps30
        go_upto_region 1 with (fail)
        clear hB
        generalize hw1 : World.alloc w _ = w1
        replace hC : CellsAt w1 g (bcells ⟨ab, th, true, lo, hi⟩) := by rw [← hw1]; exact hC
        replace hbw : Below w.heap.size w w1 := by rw [← hw1]; exact hbw
        replace hX : Z3 w w1 w.heap.size ⟨3, tn, tm⟩ := by rw [← hw1]; exact hX
        clear hw1
        have d0 := hC.cell 0 _ rfl
        have d1 := hC.cell 1 _ rfl
        have d2 := hC.cell 2 _ rfl
        have d3 := hC.cell 3 _ rfl
        have d4 := hC.cell 4 _ rfl
        have e0 := hX.c0
        have e1 := hX.c1
        have e2 := hX.c2
        have ff := hC.fr
        have hng : w.heap.size ≠ g := Nat.ne_of_gt hlg
        have hng2 : g ≠ w.heap.size := Nat.ne_of_lt hlg
        repeat' ((fail_if_success at_builtin); (first | go_skip | go_guarded | go_step))
        go_quiet (fail)
        have hb9 := hbw.trans (Below.mono (Below.drewN w1 nq) hbw.size)
        repeat' ((fail_if_success at_builtin); (first | go_skip | go_guarded | go_step))
        go_ret
        exact ⟨retB (by unfold impB; simp [hc]), hb9⟩
      · have hc2 : ¬ ((tm : Int) ≤ (lo : Int)) := by omega
        go_enter Tryd.func30, Tryd.ntmps30
        go_upto_region 1 with (fail)
        clear hB
        generalize hw1 : World.alloc w _ = w1
        replace hC : CellsAt w1 g (bcells ⟨ab, th, true, lo, hi⟩) := by rw [← hw1]; exact hC
        replace hbw : Below w.heap.size w w1 := by rw [← hw1]; exact hbw
        replace hX : Z3 w w1 w.heap.size ⟨3, tn, tm⟩ := by rw [← hw1]; exact hX
        clear hw1
        have d0 := hC.cell 0 _ rfl
        have d1 := hC.cell 1 _ rfl
        have d2 := hC.cell 2 _ rfl
        have d3 := hC.cell 3 _ rfl
        have d4 := hC.cell 4 _ rfl
        have e0 := hX.c0
        have e1 := hX.c1
        have e2 := hX.c2
        have ff := hC.fr
        have hng : w.heap.size ≠ g := Nat.ne_of_gt hlg
        have hng2 : g ≠ w.heap.size := Nat.ne_of_lt hlg
        repeat' ((fail_if_success at_builtin); (first | go_skip | go_guarded | go_step))
        go_quiet (fail)
        have hb9 := hbw.trans (Below.mono (Below.drewN w1 nq) hbw.size)
        repeat' ((fail_if_success at_builtin); (first | go_skip | go_guarded | go_step))
        go_ret
        exact ⟨retB (by unfold impB; simp [hc]), hb9⟩
  · cases nu
    · go_enter Tryd.func30, Tryd.ntmps30
      go_upto_region 1 with (fail)
      clear hB
      generalize hw1 : World.alloc w _ = w1
      replace hC : CellsAt w1 g (bcells ⟨ab, th, false, lo, hi⟩) := by rw [← hw1]; exact hC
      replace hbw : Below w.heap.size w w1 := by rw [← hw1]; exact hbw
      replace hX : Z3 w w1 w.heap.size ⟨4, tn, tm⟩ := by rw [← hw1]; exact hX
      clear hw1
      have d0 := hC.cell 0 _ rfl
      have d1 := hC.cell 1 _ rfl
      have d2 := hC.cell 2 _ rfl
      have d3 := hC.cell 3 _ rfl
      have d4 := hC.cell 4 _ rfl
      have e0 := hX.c0
      have e1 := hX.c1
      have e2 := hX.c2
      have ff := hC.fr
      have hng : w.heap.size ≠ g := Nat.ne_of_gt hlg
      have hng2 : g ≠ w.heap.size := Nat.ne_of_lt hlg
      repeat' ((fail_if_success at_builtin); (first | go_skip | go_guarded | go_step))
      go_quiet (fail)
      have hb9 := hbw.trans (Below.mono (Below.drewN w1 nq) hbw.size)
      repeat' ((fail_if_success at_builtin); (first | go_skip | go_guarded | go_step))
      go_ret
      exact ⟨retB (by unfold impB; simp), hb9⟩
    · by_cases hc : hi ≤ tm
      · have hc2 : (hi : Int) ≤ (tm : Int) := by omega
        go_enter Tryd.func30, Tryd.ntmps30
        go_upto_region 1 with (fail)
        clear hB
        generalize hw1 : World.alloc w _ = w1
        replace hC : CellsAt w1 g (bcells ⟨ab, th, true, lo, hi⟩) := by rw [← hw1]; exact hC
        replace hbw : Below w.heap.size w w1 := by rw [← hw1]; exact hbw
        replace hX : Z3 w w1 w.heap.size ⟨4, tn, tm⟩ := by rw [← hw1]; exact hX
        clear hw1
        have d0 := hC.cell 0 _ rfl
        have d1 := hC.cell 1 _ rfl
        have d2 := hC.cell 2 _ rfl
        have d3 := hC.cell 3 _ rfl
        have d4 := hC.cell 4 _ rfl
        have e0 := hX.c0
        have e1 := hX.c1
        have e2 := hX.c2
        have ff := hC.fr
        have hng : w.heap.size ≠ g := Nat.ne_of_gt hlg
        have hng2 : g ≠ w.heap.size := Nat.ne_of_lt hlg
        repeat' ((fail_if_success at_builtin); (first | go_skip | go_guarded | go_step))
        go_quiet (fail)
        have hb9 := hbw.trans (Below.mono (Below.drewN w1 nq) hbw.size)
        repeat' ((fail_if_success at_builtin); (first | go_skip | go_guarded | go_step))
        go_ret
        exact ⟨retB (by unfold impB; simp [hc]), hb9⟩
      · have hc2 : ¬ ((hi : Int) ≤ (tm : Int)) := by omega
        go_enter Tryd.func30, Tryd.ntmps30
        go_upto_region 1 with (fail)
        clear hB
        generalize hw1 : World.alloc w _ = w1
        replace hC : CellsAt w1 g (bcells ⟨ab, th, true, lo, hi⟩) := by rw [← hw1]; exact hC
        replace hbw : Below w.heap.size w w1 := by rw [← hw1]; exact hbw
        replace hX : Z3 w w1 w.heap.size ⟨4, tn, tm⟩ := by rw [← hw1]; exact hX
        clear hw1
        have d0 := hC.cell 0 _ rfl
        have d1 := hC.cell 1 _ rfl
        have d2 := hC.cell 2 _ rfl
        have d3 := hC.cell 3 _ rfl
        have d4 := hC.cell 4 _ rfl
        have e0 := hX.c0
        have e1 := hX.c1
        have e2 := hX.c2
        have ff := hC.fr
        have hng : w.heap.size ≠ g := Nat.ne_of_gt hlg
        have hng2 : g ≠ w.heap.size := Nat.ne_of_lt hlg
        repeat' ((fail_if_success at_builtin); (first | go_skip | go_guarded | go_step))
        go_quiet (fail)
        have hb9 := hbw.trans (Below.mono (Below.drewN w1 nq) hbw.size)
        repeat' ((fail_if_success at_builtin); (first | go_skip | go_guarded | go_step))
        go_ret
        exact ⟨retB (by unfold impB; simp [hc]), hb9⟩
  · cases nu
    · go_enter Tryd.func30, Tryd.ntmps30
      go_upto_region 1 with (fail)
      clear hB
      generalize hw1 : World.alloc w _ = w1
      replace hC : CellsAt w1 g (bcells ⟨ab, th, false, lo, hi⟩) := by rw [← hw1]; exact hC
      replace hbw : Below w.heap.size w w1 := by rw [← hw1]; exact hbw
      replace hX : Z3 w w1 w.heap.size ⟨5, tn, tm⟩ := by rw [← hw1]; exact hX
      clear hw1
      have d0 := hC.cell 0 _ rfl
      have d1 := hC.cell 1 _ rfl
      have d2 := hC.cell 2 _ rfl
      have d3 := hC.cell 3 _ rfl
      have d4 := hC.cell 4 _ rfl
      have e0 := hX.c0
      have e1 := hX.c1
      have e2 := hX.c2
      have ff := hC.fr
      have hng : w.heap.size ≠ g := Nat.ne_of_gt hlg
      have hng2 : g ≠ w.heap.size := Nat.ne_of_lt hlg
      repeat' ((fail_if_success at_builtin); (first | go_skip | go_guarded | go_step))
      go_quiet (fail)
      have hb9 := hbw.trans (Below.mono (Below.drewN w1 nq) hbw.size)
      repeat' ((fail_if_success at_builtin); (first | go_skip | go_guarded | go_step))
      go_ret
      exact ⟨retB (by unfold impB; simp), hb9⟩
    · by_cases hc : lo = tm
      · have hc2 : ((lo : Int) == (tm : Int)) = true := by simp; omega
        by_cases hd : hi = tm
        · have hd2 : ((hi : Int) == (tm : Int)) = true := by simp; omega
          replace hc := Lib.hid hc
          replace hd := Lib.hid hd
          go_enter Tryd.func30, Tryd.ntmps30
          go_upto_region 1 with (fail)
          clear hB
          generalize hw1 : World.alloc w _ = w1
          replace hC : CellsAt w1 g (bcells ⟨ab, th, true, lo, hi⟩) := by rw [← hw1]; exact hC
          replace hbw : Below w.heap.size w w1 := by rw [← hw1]; exact hbw
          replace hX : Z3 w w1 w.heap.size ⟨5, tn, tm⟩ := by rw [← hw1]; exact hX
          clear hw1
          have d0 := hC.cell 0 _ rfl
          have d1 := hC.cell 1 _ rfl
          have d2 := hC.cell 2 _ rfl
          have d3 := hC.cell 3 _ rfl
          have d4 := hC.cell 4 _ rfl
          have e0 := hX.c0
          have e1 := hX.c1
          have e2 := hX.c2
          have ff := hC.fr
          have hng : w.heap.size ≠ g := Nat.ne_of_gt hlg
          have hng2 : g ≠ w.heap.size := Nat.ne_of_lt hlg
          repeat' ((fail_if_success at_builtin); (first | go_skip | go_guarded | go_step))
          go_quiet (fail)
          have hb9 := hbw.trans (Below.mono (Below.drewN w1 nq) hbw.size)
          repeat' ((fail_if_success at_builtin); (first | go_skip | go_guarded | go_step))
          go_ret
          exact ⟨retB (by unfold impB; simp [hc.out, hd.out]), hb9⟩
        · have hd2 : ((hi : Int) == (tm : Int)) = false := by simp; omega
          replace hc := Lib.hid hc
          go_enter Tryd.func30, Tryd.ntmps30
          go_upto_region 1 with (fail)
          clear hB
          generalize hw1 : World.alloc w _ = w1
          replace hC : CellsAt w1 g (bcells ⟨ab, th, true, lo, hi⟩) := by rw [← hw1]; exact hC
          replace hbw : Below w.heap.size w w1 := by rw [← hw1]; exact hbw
          replace hX : Z3 w w1 w.heap.size ⟨5, tn, tm⟩ := by rw [← hw1]; exact hX
          clear hw1
          have d0 := hC.cell 0 _ rfl
          have d1 := hC.cell 1 _ rfl
          have d2 := hC.cell 2 _ rfl
          have d3 := hC.cell 3 _ rfl
          have d4 := hC.cell 4 _ rfl
          have e0 := hX.c0
          have e1 := hX.c1
          have e2 := hX.c2
          have ff := hC.fr
          have hng : w.heap.size ≠ g := Nat.ne_of_gt hlg
          have hng2 : g ≠ w.heap.size := Nat.ne_of_lt hlg
          repeat' ((fail_if_success at_builtin); (first | go_skip | go_guarded | go_step))
          go_quiet (fail)
          have hb9 := hbw.trans (Below.mono (Below.drewN w1 nq) hbw.size)
          repeat' ((fail_if_success at_builtin); (first | go_skip | go_guarded | go_step))
          go_ret
          exact ⟨retB (by unfold impB; simp [hc.out, hd]), hb9⟩
      · have hc2 : ((lo : Int) == (tm : Int)) = false := by simp; omega
        go_enter Tryd.func30, Tryd.ntmps30
        go_upto_region 1 with (fail)
        clear hB
        generalize hw1 : World.alloc w _ = w1
        replace hC : CellsAt w1 g (bcells ⟨ab, th, true, lo, hi⟩) := by rw [← hw1]; exact hC
        replace hbw : Below w.heap.size w w1 := by rw [← hw1]; exact hbw
        replace hX : Z3 w w1 w.heap.size ⟨5, tn, tm⟩ := by rw [← hw1]; exact hX
        clear hw1
        have d0 := hC.cell 0 _ rfl
        have d1 := hC.cell 1 _ rfl
        have d2 := hC.cell 2 _ rfl
        have d3 := hC.cell 3 _ rfl
        have d4 := hC.cell 4 _ rfl
        have e0 := hX.c0
        have e1 := hX.c1
        have e2 := hX.c2
        have ff := hC.fr
        have hng : w.heap.size ≠ g := Nat.ne_of_gt hlg
        have hng2 : g ≠ w.heap.size := Nat.ne_of_lt hlg
        repeat' ((fail_if_success at_builtin); (first | go_skip | go_guarded | go_step))
        go_quiet (fail)
        have hb9 := hbw.trans (Below.mono (Below.drewN w1 nq) hbw.size)
        repeat' ((fail_if_success at_builtin); (first | go_skip | go_guarded | go_step))
        go_ret
        exact ⟨retB (by unfold impB; simp [hc]), hb9⟩
end Go.Proofs.YtppbblgdcckbdaaDoor
