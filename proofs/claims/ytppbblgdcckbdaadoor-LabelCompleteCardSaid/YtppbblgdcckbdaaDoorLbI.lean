/- Label: labelOf, the document's Label. -/
import Derived.Test.YtppbblgdcckbdaaDoorLbH
import Derived.Test.YtppbblgdcckbdaaDoorLbF
namespace Go.Proofs.YtppbblgdcckbdaaDoor
open Go.RowKit
theorem parse_any2 (s : ByteArray) (w : World) (hR : Ready w) (hm : s.size ≤ 1000000) : Calls Tryd.prog 26 #[.string s] w fun e w' => e = .returned (.agg (pval (readL s.data.toList))) ∧ Below w.heap.size w w' := by
  have := parse_any s w hR hm
  rw [parse_read] at this
  exact this
/-- what labelOf returns -/
def LabR (p : Prt) (e : Ending) : Prop := e = .returned (.tuple #[.agg (pval p), .bool (p.form == 5), .bool (p.form == 1 || p.form == 5)])
theorem labL_eq {s : List UInt8} {p : Prt} (h : p = readL s) : labL s = if p.form = 1 ∨ p.form = 5 then p else bad := by rw [h]; rfl
set_option maxRecDepth 100000 in
set_option maxHeartbeats 2000000 in
theorem labelOf_any (s : ByteArray) (w : World) (hR : Ready w) (hm : s.size ≤ 1000000) : Calls Tryd.prog 21 #[.string s] w fun e w' => LabR (readL s.data.toList) e ∧ Below w.heap.size w w' := by
  have hZ := Z3.new (w := w) (Below.refl _ _) 33 bad
  go_enter Tryd.func21, Tryd.ntmps21
  repeat' ((fail_if_success at_builtin); (first | go_skip | go_guarded | go_step))
  generalize hw1 : World.alloc w _ = w1
  replace hZ : Z3 w w1 w.heap.size bad := by rw [← hw1]; exact hZ
  clear hw1
  refine (parse_any2 s _ (hR.below hZ.below) hm).mono ?_
  rintro e w2 ⟨rfl, hb2⟩
  dsimp only
  replace hZ := hZ.at hb2
  clear hb2
  obtain ⟨p, hp⟩ : ∃ p, p = readL s.data.toList := ⟨_, rfl⟩
  rw [← hp]
  obtain ⟨pf, pn, pm⟩ := p
  have c0 := hZ.c0
  have c1 := hZ.c1
  have c2 := hZ.c2
  have cf := hZ.fr
  by_cases h5 : pf = 5
  · subst h5
    have hZ := hZ.put (⟨5, pn, pm⟩ : Prt)
    replace hp := Lib.hid hp
    repeat' ((fail_if_success at_builtin); (first | go_skip | go_guarded | go_step))
    generalize hwf : World.setCell (World.setCell (World.setCell _ _ _) _ _) _ _ = wf
    have hP : Z3 w wf w.heap.size (⟨5, pn, pm⟩ : Prt) := by rw [← hwf]; exact hZ.put (⟨5, pn, pm⟩ : Prt)
    clear hwf
    have q0 := hP.c0
    have q1 := hP.c1
    have q2 := hP.c2
    have hPb := hP.below
    clear hP
    refine bodyPost_ret (v := .tuple #[.agg (pval (⟨5, pn, pm⟩ : Prt)), .bool true, .bool true]) (by simp only [results, Tryd.results21]; go_simp; first | done | exact ⟨rfl, rfl, rfl⟩ | rfl) rfl ?_
    exact ⟨by rw [← hp.out]; unfold LabR; simp [], hPb⟩
  · have g5 : ((pf : Int) == 5) = false := by simp; omega
    by_cases h1 : pf = 1
    · subst h1
      have hZ := hZ.put (⟨1, pn, pm⟩ : Prt)
      replace hp := Lib.hid hp
      repeat' ((fail_if_success at_builtin); (first | go_skip | go_guarded | go_step))
      generalize hwf : World.setCell (World.setCell (World.setCell _ _ _) _ _) _ _ = wf
      have hP : Z3 w wf w.heap.size (⟨1, pn, pm⟩ : Prt) := by rw [← hwf]; exact hZ.put (⟨1, pn, pm⟩ : Prt)
      clear hwf
      have q0 := hP.c0
      have q1 := hP.c1
      have q2 := hP.c2
      have hPb := hP.below
      clear hP
      refine bodyPost_ret (v := .tuple #[.agg (pval (⟨1, pn, pm⟩ : Prt)), .bool false, .bool true]) (by simp only [results, Tryd.results21]; go_simp; first | done | exact ⟨rfl, rfl, rfl⟩ | rfl) rfl ?_
      exact ⟨by rw [← hp.out]; unfold LabR; simp [], hPb⟩
    · have g1 : ((pf : Int) == 1) = false := by simp; omega
      have hZ := hZ.put (⟨pf, pn, pm⟩ : Prt)
      replace hp := Lib.hid hp
      repeat' ((fail_if_success at_builtin); (first | go_skip | go_guarded | go_step))
      generalize hwf : World.setCell (World.setCell (World.setCell _ _ _) _ _) _ _ = wf
      have hP : Z3 w wf w.heap.size (⟨pf, pn, pm⟩ : Prt) := by rw [← hwf]; exact hZ.put (⟨pf, pn, pm⟩ : Prt)
      clear hwf
      have q0 := hP.c0
      have q1 := hP.c1
      have q2 := hP.c2
      have hPb := hP.below
      clear hP
      refine bodyPost_ret (v := .tuple #[.agg (pval (⟨pf, pn, pm⟩ : Prt)), .bool false, .bool false]) (by simp only [results, Tryd.results21]; go_simp; first | done | exact ⟨rfl, rfl, rfl⟩ | rfl) rfl ?_
      exact ⟨by rw [← hp.out]; unfold LabR; simp [h5, h1], hPb⟩
end Go.Proofs.YtppbblgdcckbdaaDoor
