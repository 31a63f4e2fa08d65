/- Label: the document's part, Read, Label. -/
import Derived.Test.YtppbblgdcckbdaaDoorLbD
namespace Go.Proofs.YtppbblgdcckbdaaDoor
open Go.RowKit
theorem retA {p q : Prt} (h : p = q) : Ending.returned (.agg (pval p)) = Ending.returned (.agg (pval q)) := by rw [h]
set_option maxRecDepth 100000 in
set_option maxHeartbeats 2000000 in
theorem part_any (f : Nat) (nm rs : List UInt8) (w : World) (hm : rs.length ≤ 1000000000) (hm2 : nm.length ≤ 1000000000) : Calls Tryd.prog 50 #[.int .i64 (f : Int), .string (strS nm), .string (strS rs)] w fun e w' => e = .returned (.agg (pval (partL f nm rs))) ∧ Below w.heap.size w w' := by
  have C1 := fun w' => digits_any (strS rs) w' (by rw [strS_size]; exact hm)
  have C2 := fun w' => refName_any (strS nm) w' (by rw [strS_size]; omega)
  simp only [strS_list] at C1 C2
  replace C1 := Lib.hid C1
  replace C2 := Lib.hid C2
  have hpl : partL f nm rs = match numL rs with
    | none => bad
    | some n => if nameS nm then ⟨f, nm, n⟩ else bad := rfl
  replace hpl := Lib.hid hpl
  have hZ := Z3.new (w := w) (Below.refl _ _) 38 bad
  go_enter Tryd.func50, Tryd.ntmps50
  repeat' ((fail_if_success at_builtin); (first | go_skip | go_guarded | go_step))
  generalize hw1 : World.alloc w _ = w1
  replace hZ : Z3 w w1 w.heap.size bad := by rw [← hw1]; exact hZ
  clear hw1
  refine (C1.out _).mono ?_
  rintro e w2 ⟨hr, hb⟩
  replace hZ := hZ.at hb
  have c0 := hZ.c0
  have c1 := hZ.c1
  have c2 := hZ.c2
  have cf := hZ.fr
  unfold NumR at hr
  cases hn : numL rs with
  | none =>
    rw [hn] at hr
    obtain ⟨v, rfl⟩ := hr
    dsimp only
    have hq : partL f nm rs = bad := by rw [hpl.out, hn]
    replace hq := Lib.hid hq
    clear hn
    repeat' ((fail_if_success at_builtin); (first | go_skip | go_guarded | go_step))
    generalize hwf : World.setCell (World.setCell (World.setCell _ _ _) _ _) _ _ = wf
    have hP : Z3 w wf w.heap.size bad := by rw [← hwf]; exact hZ.put bad
    clear hwf
    have q0 := hP.c0
    have q1 := hP.c1
    have q2 := hP.c2
    have hPb := hP.below
    clear hP
    refine bodyPost_ret (v := .agg (pval bad)) (by simp only [results, Tryd.results50]; go_simp; first | done | exact ⟨rfl, rfl, rfl⟩ | rfl) rfl ?_
    exact ⟨retA hq.out.symm, hPb⟩
  | some n =>
    rw [hn] at hr
    obtain rfl := hr
    dsimp only
    repeat' ((fail_if_success at_builtin); (first | go_skip | go_guarded | go_step))
    refine (C2.out _).mono ?_
    rintro e w3 ⟨rfl, rfl⟩
    dsimp only
    cases hnm : nameS nm with
    | false =>
      have hq : partL f nm rs = bad := by rw [hpl.out, hn]; dsimp only; rw [hnm]; rfl
      replace hq := Lib.hid hq
      clear hn hnm
      repeat' ((fail_if_success at_builtin); (first | go_skip | go_guarded | go_step))
      generalize hwf : World.setCell (World.setCell (World.setCell _ _ _) _ _) _ _ = wf
      have hP : Z3 w wf w.heap.size bad := by rw [← hwf]; exact hZ.put bad
      clear hwf
      have q0 := hP.c0
      have q1 := hP.c1
      have q2 := hP.c2
      have hPb := hP.below
      clear hP
      refine bodyPost_ret (v := .agg (pval bad)) (by simp only [results, Tryd.results50]; go_simp; first | done | exact ⟨rfl, rfl, rfl⟩ | rfl) rfl ?_
      exact ⟨retA hq.out.symm, hPb⟩
    | true =>
      have hq : partL f nm rs = ⟨f, nm, n⟩ := by rw [hpl.out, hn]; dsimp only; rw [hnm]; rfl
      replace hq := Lib.hid hq
      clear hn hnm
      repeat' ((fail_if_success at_builtin); (first | go_skip | go_guarded | go_step))
      generalize hwf : World.setCell (World.setCell (World.setCell _ _ _) _ _) _ _ = wf
      have hP : Z3 w wf w.heap.size ⟨f, nm, n⟩ := by rw [← hwf]; exact hZ.put ⟨f, nm, n⟩
      clear hwf
      have q0 := hP.c0
      have q1 := hP.c1
      have q2 := hP.c2
      have hPb := hP.below
      clear hP
      refine bodyPost_ret (v := .agg (pval ⟨f, nm, n⟩)) (by simp only [results, Tryd.results50]; go_simp; first | done | exact ⟨rfl, rfl, rfl⟩ | rfl) rfl ?_
      exact ⟨retA hq.out.symm, hPb⟩
end Go.Proofs.YtppbblgdcckbdaaDoor
