/- Label: the document's Label; holds, matches. -/
import Derived.Test.YtppbblgdcckbdaaDoorLbI
import Derived.Deep.DeepCutAuto
namespace Go.Proofs.YtppbblgdcckbdaaDoor
open Go.RowKit
set_option maxRecDepth 100000 in
set_option maxHeartbeats 2000000 in
theorem refLabel_any (s : ByteArray) (w : World) (hm : s.size ≤ 1000000) : Calls Tryd.prog 23 #[.string s] w fun e w' => e = .returned (.agg (pval (labL s.data.toList))) ∧ Below w.heap.size w w' := by
  have hZ := Z3.new (w := w) (Below.refl _ _) 38 bad
  go_enter Tryd.func23, Tryd.ntmps23
  repeat' ((fail_if_success at_builtin); (first | go_skip | go_guarded | go_step))
  generalize hw1 : World.alloc w _ = w1
  replace hZ : Z3 w w1 w.heap.size bad := by rw [← hw1]; exact hZ
  clear hw1
  refine (read_any s _ (by omega)).mono ?_
  rintro e w2 ⟨rfl, hb2⟩
  dsimp only
  replace hZ := hZ.at hb2
  clear hb2
  obtain ⟨p, hp⟩ : ∃ p, p = readL s.data.toList := ⟨_, rfl⟩
  rw [← hp]
  have hl := Lib.hid (labL_eq hp)
  clear hp
  obtain ⟨pf, pn, pm⟩ := p
  by_cases h5 : pf = 5
  · subst h5
    have hq : labL s.data.toList = ⟨5, pn, pm⟩ := by rw [hl.out, if_pos (.inr rfl)]
    replace hq := Lib.hid hq
    have hY := Z3.new (w := w) hZ.below 38 ⟨5, pn, pm⟩
    have hZ3 := hZ.at ((Below.refl _ _).alloc (Nat.le_refl _) (.cells (pval ⟨5, pn, pm⟩) 38))
    go_upto_region 2 with (fail)
    generalize hw3 : World.alloc w2 _ = w3
    replace hY : Z3 w w3 w2.heap.size ⟨5, pn, pm⟩ := by rw [← hw3]; exact hY
    replace hZ3 : Z3 w w3 w.heap.size bad := by rw [← hw3]; exact hZ3
    clear hw3 hZ
    have hZ := hZ3
    clear hZ3
    generalize w2.heap.size = b3 at *
    have y0 := hY.c0
    have y1 := hY.c1
    have y2 := hY.c2
    have c0 := hZ.c0
    have c1 := hZ.c1
    have c2 := hZ.c2
    have cf := hZ.fr
    repeat' ((fail_if_success at_builtin); (first | go_skip | go_guarded | go_step))
    generalize hwf : World.setCell (World.setCell (World.setCell _ _ _) _ _) _ _ = wf
    have hP : Z3 w wf w.heap.size ⟨5, pn, pm⟩ := by rw [← hwf]; exact hZ.put ⟨5, pn, pm⟩
    clear hwf
    have q0 := hP.c0
    have q1 := hP.c1
    have q2 := hP.c2
    have hPb := hP.below
    clear hP
    refine bodyPost_ret (v := .agg (pval ⟨5, pn, pm⟩)) (by simp only [results, Tryd.results23]; go_simp; first | done | exact ⟨rfl, rfl, rfl⟩ | rfl) rfl ?_
    exact ⟨retA (hq.out.symm), hPb⟩
  · have g5 : ((pf : Int) == 5) = false := by simp; omega
    have g5n : ((pf : Int) != 5) = true := by simp; omega
    by_cases h1 : pf = 1
    · subst h1
      have hq : labL s.data.toList = ⟨1, pn, pm⟩ := by rw [hl.out, if_pos (.inl rfl)]
      replace hq := Lib.hid hq
      have hY := Z3.new (w := w) hZ.below 38 ⟨1, pn, pm⟩
      have hZ3 := hZ.at ((Below.refl _ _).alloc (Nat.le_refl _) (.cells (pval ⟨1, pn, pm⟩) 38))
      go_upto_region 2 with (fail)
      generalize hw3 : World.alloc w2 _ = w3
      replace hY : Z3 w w3 w2.heap.size ⟨1, pn, pm⟩ := by rw [← hw3]; exact hY
      replace hZ3 : Z3 w w3 w.heap.size bad := by rw [← hw3]; exact hZ3
      clear hw3 hZ
      have hZ := hZ3
      clear hZ3
      generalize w2.heap.size = b3 at *
      have y0 := hY.c0
      have y1 := hY.c1
      have y2 := hY.c2
      have c0 := hZ.c0
      have c1 := hZ.c1
      have c2 := hZ.c2
      have cf := hZ.fr
      repeat' ((fail_if_success at_builtin); (first | go_skip | go_guarded | go_step))
      generalize hwf : World.setCell (World.setCell (World.setCell _ _ _) _ _) _ _ = wf
      have hP : Z3 w wf w.heap.size ⟨1, pn, pm⟩ := by rw [← hwf]; exact hZ.put ⟨1, pn, pm⟩
      clear hwf
      have q0 := hP.c0
      have q1 := hP.c1
      have q2 := hP.c2
      have hPb := hP.below
      clear hP
      refine bodyPost_ret (v := .agg (pval ⟨1, pn, pm⟩)) (by simp only [results, Tryd.results23]; go_simp; first | done | exact ⟨rfl, rfl, rfl⟩ | rfl) rfl ?_
      exact ⟨retA (hq.out.symm), hPb⟩
    · have g1 : ((pf : Int) == 1) = false := by simp; omega
      have g1n : ((pf : Int) != 1) = true := by simp; omega
      have hq : labL s.data.toList = bad := by rw [hl.out, if_neg (fun h => h.elim h1 h5)]
      replace hq := Lib.hid hq
      have hY := Z3.new (w := w) hZ.below 38 ⟨pf, pn, pm⟩
      have hZ3 := hZ.at ((Below.refl _ _).alloc (Nat.le_refl _) (.cells (pval ⟨pf, pn, pm⟩) 38))
      go_upto_region 2 with (fail)
      generalize hw3 : World.alloc w2 _ = w3
      replace hY : Z3 w w3 w2.heap.size ⟨pf, pn, pm⟩ := by rw [← hw3]; exact hY
      replace hZ3 : Z3 w w3 w.heap.size bad := by rw [← hw3]; exact hZ3
      clear hw3 hZ
      have hZ := hZ3
      clear hZ3
      generalize w2.heap.size = b3 at *
      have y0 := hY.c0
      have y1 := hY.c1
      have y2 := hY.c2
      have c0 := hZ.c0
      have c1 := hZ.c1
      have c2 := hZ.c2
      have cf := hZ.fr
      repeat' ((fail_if_success at_builtin); (first | go_skip | go_guarded | go_step))
      generalize hwf : World.setCell (World.setCell (World.setCell _ _ _) _ _) _ _ = wf
      have hP : Z3 w wf w.heap.size bad := by rw [← hwf]; exact hZ.put bad
      clear hwf
      have q0 := hP.c0
      have q1 := hP.c1
      have q2 := hP.c2
      have hPb := hP.below
      clear hP
      refine bodyPost_ret (v := .agg (pval bad)) (by simp only [results, Tryd.results23]; go_simp; first | done | exact ⟨rfl, rfl, rfl⟩ | rfl) rfl ?_
      exact ⟨retA (hq.out.symm), hPb⟩
theorem retB {a b : Bool} (h : a = b) : Ending.returned (.bool a) = Ending.returned (.bool b) := by rw [h]
set_option maxRecDepth 100000 in
set_option maxHeartbeats 2000000 in
theorem holds_any (p : Prt) (m : Nat) (w : World) : Calls Tryd.prog 42 #[.agg (pval p), .int .i64 (m : Int)] w fun e w' => e = .returned (.bool (holdsN p m)) ∧ Below w.heap.size w w' := by
  have hb0 : Below w.heap.size w (w.alloc (.cells (pval p) 33)) := (Below.refl _ _).alloc (Nat.le_refl _) _
  obtain ⟨pf, pn, pm⟩ := p
  by_cases h3 : pf = 3
  · subst h3
    have hv : holdsN ⟨3, pn, pm⟩ m = decide (pm ≤ m) := by unfold holdsN; simp
    replace hv := Lib.hid hv
    go_enter Tryd.func42, Tryd.ntmps42
    repeat' ((fail_if_success at_builtin); (first | go_skip | go_guarded | go_step))
    go_ret
    exact ⟨retB hv.out.symm, hb0⟩
  · have g3 : ((pf : Int) == 3) = false := by simp; omega
    by_cases h4 : pf = 4
    · subst h4
      have hv : holdsN ⟨4, pn, pm⟩ m = decide (m ≤ pm) := by unfold holdsN; simp
      replace hv := Lib.hid hv
      go_enter Tryd.func42, Tryd.ntmps42
      repeat' ((fail_if_success at_builtin); (first | go_skip | go_guarded | go_step))
      go_ret
      exact ⟨retB hv.out.symm, hb0⟩
    · have g4 : ((pf : Int) == 4) = false := by simp; omega
      have hv : holdsN ⟨pf, pn, pm⟩ m = ((m : Int) == (pm : Int)) := by unfold holdsN; simp [h3, h4]; rw [Bool.eq_iff_iff]; simp; omega
      replace hv := Lib.hid hv
      go_enter Tryd.func42, Tryd.ntmps42
      repeat' ((fail_if_success at_builtin); (first | go_skip | go_guarded | go_step))
      go_ret
      exact ⟨retB hv.out.symm, hb0⟩
end Go.Proofs.YtppbblgdcckbdaaDoor
