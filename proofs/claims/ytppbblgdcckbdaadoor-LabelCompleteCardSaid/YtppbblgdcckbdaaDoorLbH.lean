/- Label: parse, labelOf. -/
import Derived.Test.YtppbblgdcckbdaaDoorLbG
namespace Go.Proofs.YtppbblgdcckbdaaDoor
open Go.RowKit
theorem retA {p q : Prt} (h : p = q) : Ending.returned (.agg (pval p)) = Ending.returned (.agg (pval q)) := by rw [h]
theorem pre33 (l : List UInt8) : Lib.hasPrefix l [33] = (l.head? == some 33) := by
  unfold Lib.hasPrefix
  cases l with
  | nil => rfl
  | cons c r =>
    simp [List.isPrefixOf]
    rw [Bool.eq_iff_iff]
    simp
    exact eq_comm
theorem trim33 {l : List UInt8} (h : Lib.hasPrefix l [33] = true) : Lib.trimPrefix l [33] = l.tail := by
  unfold Lib.trimPrefix
  rw [if_pos h]
  exact List.drop_one
theorem trim_len (l : List UInt8) : (Lib.trimPrefix l [33]).length ≤ l.length := by
  unfold Lib.trimPrefix
  split
  · simp
  · exact Nat.le_refl _
set_option maxRecDepth 100000 in
set_option maxHeartbeats 2000000 in
theorem parse_any (s : ByteArray) (w : World) (hR : Ready w) (hm : s.size ≤ 1000000) : Calls Tryd.prog 26 #[.string s] w fun e w' => e = .returned (.agg (pval (parseL s.data.toList))) ∧ Below w.heap.size w w' := by
  have hsz := list_size s
  have hZ := Z3.new (w := w) (Below.refl _ _) 33 bad
  have hpl : parseL s.data.toList = if nameS s.data.toList then ⟨1, s.data.toList, 0⟩
    else if s.data.toList.head? = some 33 ∧ nameS s.data.toList.tail = true then ⟨2, s.data.toList.tail, 0⟩
    else comL s.data.toList sgL := rfl
  replace hpl := Lib.hid hpl
  replace hsz := Lib.hid hsz
  go_enter Tryd.func26, Tryd.ntmps26
  repeat' ((fail_if_success at_builtin); (first | go_skip | go_guarded | go_step))
  generalize hw1 : World.alloc w _ = w1
  replace hZ : Z3 w w1 w.heap.size bad := by rw [← hw1]; exact hZ
  clear hw1
  refine (idName_any s _ (by omega)).mono ?_
  rintro e w2 ⟨rfl, hb2⟩
  dsimp only
  replace hZ := hZ.at hb2
  clear hb2
  have c0 := hZ.c0
  have c1 := hZ.c1
  have c2 := hZ.c2
  have cf := hZ.fr
  cases hn : nameS s.data.toList with
  | true =>
    have hq : parseL s.data.toList = ⟨1, s.data.toList, 0⟩ := by rw [hpl.out, hn]; rfl
    replace hq := Lib.hid hq
    clear hn
    repeat' ((fail_if_success at_builtin); (first | go_skip | go_guarded | go_step))
    generalize hwf : World.setCell (World.setCell (World.setCell _ _ _) _ _) _ _ = wf
    have hP : Z3 w wf w.heap.size ⟨1, s.data.toList, 0⟩ := by rw [← hwf]; exact hZ.put ⟨1, s.data.toList, 0⟩
    clear hwf
    have q0 := hP.c0
    have q1 := hP.c1
    have q2 := hP.c2
    have hPb := hP.below
    clear hP
    refine bodyPost_ret (v := .agg (pval ⟨1, s.data.toList, 0⟩)) (by simp only [results, Tryd.results26]; go_simp; first | done | exact ⟨rfl, rfl, rfl⟩ | rfl) rfl ?_
    exact ⟨retA (hq.out.symm), hPb⟩
  | false =>
    repeat' ((fail_if_success at_builtin); (first | go_skip | go_guarded | go_step))
    refine (Tryd.strings_CutPrefix s ⟨#[33]⟩ _).mono ?_
    rintro e w3 ⟨rfl, rfl⟩
    dsimp only
    have hC2 := fun w' => idName_any (strS (Lib.trimPrefix s.data.toList [33])) w' (by rw [strS_size]; have := trim_len s.data.toList; have := hsz.out; omega)
    simp only [strS_list] at hC2
    replace hC2 := Lib.hid hC2
    cases hp : Lib.hasPrefix s.data.toList [33] with
    | false =>
      have hq : parseL s.data.toList = comL s.data.toList sgL := by
        rw [pre33, beq_eq_false_iff_ne] at hp
        rw [hpl.out, hn, if_neg (by simp), if_neg (fun h => hp h.1)]
      replace hq := Lib.hid hq
      clear hn hp
      repeat' ((fail_if_success at_builtin); (first | go_skip | go_guarded | go_step))
      refine (compared_any s _ (hR.below hZ.below) hm).mono ?_
      rintro e w4 ⟨b, rfl, hb4⟩
      dsimp only
      replace hZ := hZ.at hb4
      clear c0 c1 c2 cf hb4
      generalize comL s.data.toList sgL = q at hq ⊢
      have hW := Z3.new (w := w) hZ.below 33 q
      replace hZ := hZ.at ((Below.refl _ _).alloc (Nat.le_refl _) (.cells (pval q) 33))
      have c0 := hZ.c0
      have c1 := hZ.c1
      have c2 := hZ.c2
      have cf := hZ.fr
      repeat' ((fail_if_success at_builtin); (first | go_skip | go_guarded | go_step))
      generalize hwf : World.setCell (World.setCell (World.setCell _ _ _) _ _) _ _ = wf
      have hP : Z3 w wf w.heap.size q := by rw [← hwf]; exact hZ.put q
      clear hwf
      have q0 := hP.c0
      have q1 := hP.c1
      have q2 := hP.c2
      have hPb := hP.below
      clear hP
      refine bodyPost_ret (v := .agg (pval q)) (by simp only [results, Tryd.results26]; go_simp; first | done | exact ⟨rfl, rfl, rfl⟩ | rfl) rfl ?_
      exact ⟨retA (hq.out.symm), hPb⟩
    | true =>
      have ht := Lib.hid (trim33 hp)
      replace hp := Lib.hid hp
      repeat' ((fail_if_success at_builtin); (first | go_skip | go_guarded | go_step))
      refine (hC2.out _).mono ?_
      rintro e w5 ⟨rfl, hb5⟩
      dsimp only
      replace hZ := hZ.at hb5
      clear c0 c1 c2 cf hb5
      have c0 := hZ.c0
      have c1 := hZ.c1
      have c2 := hZ.c2
      have cf := hZ.fr
      cases hn2 : nameS (Lib.trimPrefix s.data.toList [33]) with
      | true =>
        have hq : parseL s.data.toList = ⟨2, Lib.trimPrefix s.data.toList [33], 0⟩ := by
          have hp := hp.out
          rw [pre33, beq_iff_eq] at hp
          rw [hpl.out, hn, if_neg (by simp), if_pos ⟨hp, by rw [← ht.out]; exact hn2⟩, ht.out]
        replace hq := Lib.hid hq
        clear hn hp hn2 ht
        repeat' ((fail_if_success at_builtin); (first | go_skip | go_guarded | go_step))
        generalize hwf : World.setCell (World.setCell (World.setCell _ _ _) _ _) _ _ = wf
        have hP : Z3 w wf w.heap.size ⟨2, Lib.trimPrefix s.data.toList [33], 0⟩ := by rw [← hwf]; exact hZ.put ⟨2, Lib.trimPrefix s.data.toList [33], 0⟩
        clear hwf
        have q0 := hP.c0
        have q1 := hP.c1
        have q2 := hP.c2
        have hPb := hP.below
        clear hP
        refine bodyPost_ret (v := .agg (pval ⟨2, Lib.trimPrefix s.data.toList [33], 0⟩)) (by simp only [results, Tryd.results26]; go_simp; first | done | exact ⟨rfl, rfl, rfl⟩ | rfl) rfl ?_
        exact ⟨retA (hq.out.symm), hPb⟩
      | false =>
        have hq : parseL s.data.toList = comL s.data.toList sgL := by
          rw [hpl.out, hn, if_neg (by simp), if_neg (fun h => by rw [← ht.out, hn2] at h; exact absurd h.2 (by simp))]
        replace hq := Lib.hid hq
        clear hn hp hn2 ht
        repeat' ((fail_if_success at_builtin); (first | go_skip | go_guarded | go_step))
        refine (compared_any s _ (hR.below hZ.below) hm).mono ?_
        rintro e w4 ⟨b, rfl, hb4⟩
        dsimp only
        replace hZ := hZ.at hb4
        clear c0 c1 c2 cf hb4
        generalize comL s.data.toList sgL = q at hq ⊢
        have hW := Z3.new (w := w) hZ.below 33 q
        replace hZ := hZ.at ((Below.refl _ _).alloc (Nat.le_refl _) (.cells (pval q) 33))
        have c0 := hZ.c0
        have c1 := hZ.c1
        have c2 := hZ.c2
        have cf := hZ.fr
        repeat' ((fail_if_success at_builtin); (first | go_skip | go_guarded | go_step))
        generalize hwf : World.setCell (World.setCell (World.setCell _ _ _) _ _) _ _ = wf
        have hP : Z3 w wf w.heap.size q := by rw [← hwf]; exact hZ.put q
        clear hwf
        have q0 := hP.c0
        have q1 := hP.c1
        have q2 := hP.c2
        have hPb := hP.below
        clear hP
        refine bodyPost_ret (v := .agg (pval q)) (by simp only [results, Tryd.results26]; go_simp; first | done | exact ⟨rfl, rfl, rfl⟩ | rfl) rfl ?_
        exact ⟨retA (hq.out.symm), hPb⟩
end Go.Proofs.YtppbblgdcckbdaaDoor
