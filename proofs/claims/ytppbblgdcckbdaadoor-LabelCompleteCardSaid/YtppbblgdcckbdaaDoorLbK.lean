/- Label: matches. -/
import Derived.Test.YtppbblgdcckbdaaDoorLbJ
namespace Go.Proofs.YtppbblgdcckbdaaDoor
open Go.RowKit
theorem strS_beq (a b : List UInt8) : ((strS a).toList == (strS b).toList) = (a == b) := by rw [strS_toList, strS_toList]
set_option maxRecDepth 100000 in
set_option maxHeartbeats 2000000 in
theorem matches_any (x t : Prt) (w : World) : Calls Tryd.prog 46 #[.agg (pval x), .agg (pval t)] w fun e w' => e = .returned (.bool (matchR x t)) ∧ Below w.heap.size w w' := by
  have hb0 : Below w.heap.size w ((w.alloc (.cells (pval x) 38)).alloc (.cells (pval t) 38)) := ((Below.refl _ _).alloc (Nat.le_refl _) _).alloc (by simp) _
  obtain ⟨xf, xn, xm⟩ := x
  obtain ⟨tf, tn, tm⟩ := t
  by_cases h0 : xf = 0
  · subst h0
    have hv : matchR ⟨0, xn, xm⟩ ⟨tf, tn, tm⟩ = false := by unfold matchR; rw [if_pos (.inl rfl)]
    replace hv := Lib.hid hv
    go_enter Tryd.func46, Tryd.ntmps46
    repeat' ((fail_if_success at_builtin); (first | go_skip | go_guarded | go_step))
    go_ret
    exact ⟨retB hv.out.symm, hb0⟩
  · have g0 : ((xf : Int) == 0) = false := by simp; omega
    by_cases hn : xn = tn
    · have gn : ((strS xn).toList == (strS tn).toList) = true := by rw [strS_beq, hn]; simp
      have hmr : matchR ⟨xf, xn, xm⟩ ⟨tf, tn, tm⟩ = if tf = 1 ∨ tf = 2 then true else decide (xf = 5) && holdsN ⟨tf, tn, tm⟩ xm := by unfold matchR; rw [if_neg]; rintro (h | h); exact h0 h; exact h hn
      subst hn
      by_cases h1 : tf = 1
      · subst h1
        have hv : matchR ⟨xf, xn, xm⟩ ⟨1, xn, tm⟩ = true := by rw [hmr]; rfl
        replace hv := Lib.hid hv
        go_enter Tryd.func46, Tryd.ntmps46
        repeat' ((fail_if_success at_builtin); (first | go_skip | go_guarded | go_step))
        go_ret
        exact ⟨retB hv.out.symm, hb0⟩
      · have g1 : ((tf : Int) == 1) = false := by simp; omega
        by_cases h2 : tf = 2
        · subst h2
          have hv : matchR ⟨xf, xn, xm⟩ ⟨2, xn, tm⟩ = true := by rw [hmr]; rfl
          replace hv := Lib.hid hv
          go_enter Tryd.func46, Tryd.ntmps46
          repeat' ((fail_if_success at_builtin); (first | go_skip | go_guarded | go_step))
          go_ret
          exact ⟨retB hv.out.symm, hb0⟩
        · have g2 : ((tf : Int) == 2) = false := by simp; omega
          rw [if_neg (by omega)] at hmr
          by_cases h5 : xf = 5
          · subst h5
            by_cases h3 : tf = 3
            · subst h3
              have hv : matchR ⟨5, xn, xm⟩ ⟨3, xn, tm⟩ = decide (tm ≤ xm) := by rw [hmr]; unfold holdsN; simp
              replace hv := Lib.hid hv
              go_enter Tryd.func46, Tryd.ntmps46
              repeat' ((fail_if_success at_builtin); (first | go_skip | go_guarded | go_step))
              go_ret
              exact ⟨retB hv.out.symm, hb0⟩
            · have g3 : ((tf : Int) == 3) = false := by simp; omega
              by_cases h4 : tf = 4
              · subst h4
                have hv : matchR ⟨5, xn, xm⟩ ⟨4, xn, tm⟩ = decide (xm ≤ tm) := by rw [hmr]; unfold holdsN; simp
                replace hv := Lib.hid hv
                go_enter Tryd.func46, Tryd.ntmps46
                repeat' ((fail_if_success at_builtin); (first | go_skip | go_guarded | go_step))
                go_ret
                exact ⟨retB hv.out.symm, hb0⟩
              · have g4 : ((tf : Int) == 4) = false := by simp; omega
                have hv : matchR ⟨5, xn, xm⟩ ⟨tf, xn, tm⟩ = ((xm : Int) == (tm : Int)) := by rw [hmr]; unfold holdsN; simp [h3, h4]; rw [Bool.eq_iff_iff]; simp; omega
                replace hv := Lib.hid hv
                go_enter Tryd.func46, Tryd.ntmps46
                repeat' ((fail_if_success at_builtin); (first | go_skip | go_guarded | go_step))
                go_ret
                exact ⟨retB hv.out.symm, hb0⟩
          · have g5 : ((xf : Int) == 5) = false := by simp; omega
            by_cases h3 : tf = 3
            · subst h3
              have hv : matchR ⟨xf, xn, xm⟩ ⟨3, xn, tm⟩ = false := by rw [hmr, decide_eq_false h5]; rfl
              replace hv := Lib.hid hv
              go_enter Tryd.func46, Tryd.ntmps46
              repeat' ((fail_if_success at_builtin); (first | go_skip | go_guarded | go_step))
              go_ret
              exact ⟨retB hv.out.symm, hb0⟩
            · have g3 : ((tf : Int) == 3) = false := by simp; omega
              by_cases h4 : tf = 4
              · subst h4
                have hv : matchR ⟨xf, xn, xm⟩ ⟨4, xn, tm⟩ = false := by rw [hmr, decide_eq_false h5]; rfl
                replace hv := Lib.hid hv
                go_enter Tryd.func46, Tryd.ntmps46
                repeat' ((fail_if_success at_builtin); (first | go_skip | go_guarded | go_step))
                go_ret
                exact ⟨retB hv.out.symm, hb0⟩
              · have g4 : ((tf : Int) == 4) = false := by simp; omega
                have hv : matchR ⟨xf, xn, xm⟩ ⟨tf, xn, tm⟩ = false := by rw [hmr, decide_eq_false h5]; rfl
                replace hv := Lib.hid hv
                go_enter Tryd.func46, Tryd.ntmps46
                repeat' ((fail_if_success at_builtin); (first | go_skip | go_guarded | go_step))
                go_ret
                exact ⟨retB hv.out.symm, hb0⟩
    · have gn : ((strS xn).toList == (strS tn).toList) = false := by rw [strS_beq]; simpa using hn
      have gn2 : (xn == tn) = false := by simpa using hn
      have hv : matchR ⟨xf, xn, xm⟩ ⟨tf, tn, tm⟩ = false := by unfold matchR; rw [if_pos (.inr hn)]
      replace hv := Lib.hid hv
      go_enter Tryd.func46, Tryd.ntmps46
      repeat' ((fail_if_success at_builtin); (first | go_skip | go_guarded | go_step))
      go_ret
      exact ⟨retB hv.out.symm, hb0⟩
end Go.Proofs.YtppbblgdcckbdaaDoor
