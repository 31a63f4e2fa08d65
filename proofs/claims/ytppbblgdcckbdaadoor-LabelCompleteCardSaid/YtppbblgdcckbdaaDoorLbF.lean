/- Label: the document's Read, Label. -/
import Derived.Test.YtppbblgdcckbdaaDoorLbE
namespace Go.Proofs.YtppbblgdcckbdaaDoor
open Go.RowKit
theorem part_any2 (f : Nat) (nm rs : ByteArray) (w : World) (hm : rs.size ≤ 1000000000) (hm2 : nm.size ≤ 1000000000) : Calls Tryd.prog 50 #[.int .i64 (f : Int), .string nm, .string rs] w fun e w' => e = .returned (.agg (pval (partL f nm.data.toList rs.data.toList))) ∧ Below w.heap.size w w' := by
  have := part_any f nm.data.toList rs.data.toList w (by rw [list_size]; exact hm) (by rw [list_size]; exact hm2)
  rwa [strS_data, strS_data] at this
theorem ext_listd (s : ByteArray) (n : Nat) : (s.extract n s.size).data.toList = s.data.toList.drop n := by
  rw [ext_drop]
theorem ext_listt (s : ByteArray) (n : Nat) : (s.extract 0 n).toList = s.data.toList.take n := by
  rw [ext_take, strS_toList]
theorem head_ne {s : ByteArray} {c : UInt8} (h : ∀ h0 : 0 < s.size, s[0].toNat ≠ c.toNat) : s.data.toList.head? ≠ some c := by
  intro e
  have h0 : 0 < s.size := by
    rw [← list_size]
    cases hl : s.data.toList with
    | nil => rw [hl] at e; cases e
    | cons a b => simp
  rw [head_at h0] at e
  exact h h0 (by rw [Option.some.inj e])
theorem readL_bang {s : List UInt8} (h : s.head? = some 33) : readL s = if nameS s.tail then ⟨2, s.tail, 0⟩ else bad := by unfold readL; rw [if_pos h]
theorem readL_not {s : List UInt8} (h : s.head? ≠ some 33) : readL s = readC (splitC s).1 (splitC s).2 := by unfold readL; rw [if_neg h]
set_option maxRecDepth 100000 in
set_option maxHeartbeats 2000000 in
theorem read_any (s : ByteArray) (w : World) (hm : s.size ≤ 1000000000) : Calls Tryd.prog 32 #[.string s] w fun e w' => e = .returned (.agg (pval (readL s.data.toList))) ∧ Below w.heap.size w w' := by
  have hsz := list_size s
  replace hsz := Lib.hid hsz
  have hZ := Z3.new (w := w) (Below.refl _ _) 38 bad
  by_cases hb : s.data.toList.head? = some 33
  · have h0 : 0 < s.size := by
      rw [← hsz.out]
      cases hl : s.data.toList with
      | nil => rw [hl] at hb; cases hb
      | cons a b => simp
    have h33 : ((s[0].toNat : Int) == 33) = true := by
      have := head_at h0
      rw [hb] at this
      rw [← Option.some.inj this]
      rfl
    have z0 : (0 : Int) < (s.size : Int) := by omega
    have z1 : (1 : Int) ≤ (s.size : Int) := by omega
    have hrd := readL_bang hb
    have htl : s.data.toList.tail = (s.extract 1 s.size).data.toList := by rw [ext_listd]; exact List.drop_one.symm
    rw [htl] at hrd
    replace hrd := Lib.hid hrd
    clear hb htl
    go_enter Tryd.func32, Tryd.ntmps32
    repeat' ((fail_if_success at_builtin); (first | go_skip | go_guarded | go_step))
    generalize hw1 : World.alloc w _ = w1
    replace hZ : Z3 w w1 w.heap.size bad := by rw [← hw1]; exact hZ
    clear hw1
    have c0 := hZ.c0
    have c1 := hZ.c1
    have c2 := hZ.c2
    have cf := hZ.fr
    refine (refName_any _ _ (by simp [ByteArray.size_extract]; omega)).mono ?_
    rintro e w2 ⟨rfl, rfl⟩
    dsimp only
    cases hn : nameS (s.extract 1 s.size).data.toList with
    | false =>
      have hq : readL s.data.toList = bad := by rw [hrd.out, hn]; rfl
      replace hq := Lib.hid hq
      clear hn
      repeat' ((fail_if_success at_builtin); (first | go_skip | go_guarded | go_step))
      generalize hwf : World.setCell (World.setCell (World.setCell _ _ _) _ _) _ _ = wf
      have hP : Z3 w wf w.heap.size bad := by rw [← hwf]; exact hZ.put bad
      clear hwf
      have q0 := hP.c0
      have q1 := hP.c1
      have q2 := hP.c2
      have hPb := hP.below
      clear hP
      refine bodyPost_ret (v := .agg (pval bad)) (by simp only [results, Tryd.results32]; go_simp; first | done | exact ⟨rfl, rfl, rfl⟩ | rfl) rfl ?_
      exact ⟨retA hq.out.symm, hPb⟩
    | true =>
      have hq : readL s.data.toList = ⟨2, (s.extract 1 s.size).data.toList, 0⟩ := by rw [hrd.out, hn]; rfl
      replace hq := Lib.hid hq
      clear hn
      repeat' ((fail_if_success at_builtin); (first | go_skip | go_guarded | go_step))
      generalize hwf : World.setCell (World.setCell (World.setCell _ _ _) _ _) _ _ = wf
      have hP : Z3 w wf w.heap.size ⟨2, (s.extract 1 s.size).data.toList, 0⟩ := by rw [← hwf]; exact hZ.put ⟨2, (s.extract 1 s.size).data.toList, 0⟩
      clear hwf
      have q0 := hP.c0
      have q1 := hP.c1
      have q2 := hP.c2
      have hPb := hP.below
      clear hP
      refine bodyPost_ret (v := .agg (pval ⟨2, (s.extract 1 s.size).data.toList, 0⟩)) (by simp only [results, Tryd.results32]; go_simp; first | done | exact ⟨rfl, rfl, rfl⟩ | rfl) rfl ?_
      exact ⟨retA hq.out.symm, hPb⟩
  · have hrd := readL_not hb
    have CS := fun w' => split_any s w' hm
    have hap := splitC_app s.data.toList
    obtain ⟨A, hA⟩ : ∃ A, A = strS (splitC s.data.toList).1 := ⟨_, rfl⟩
    obtain ⟨R, hR⟩ : ∃ R, R = strS (splitC s.data.toList).2 := ⟨_, rfl⟩
    have hA2 : (splitC s.data.toList).1 = A.data.toList := by rw [hA]
    have hR2 : (splitC s.data.toList).2 = R.data.toList := by rw [hR]
    rw [hA2, hR2] at hrd
    rw [← hA, ← hR] at CS
    have hlen : A.size + R.size = s.size := by
      rw [← list_size A, ← list_size R, ← hsz.out, ← hA2, ← hR2]
      conv => rhs; rw [hap.1]
      simp
    have hAm : A.size ≤ 1000000000 := by omega
    have hRm : R.size ≤ 1000000000 := by omega
    replace hrd := Lib.hid hrd
    replace CS := Lib.hid CS
    have hRs := Lib.hid (list_size R)
    clear hA hR hA2 hR2 hap hlen
    by_cases h0 : 0 < s.size
    · have z0 : (0 : Int) < (s.size : Int) := by omega
      have h33 : ((s[0].toNat : Int) == 33) = false := by
        have := head_at h0
        rw [this] at hb
        simp
        intro e
        exact hb (by congr 1; exact UInt8.toNat_inj.1 (by have h3 : (33 : UInt8).toNat = 33 := rfl; omega))
      clear hb
      go_enter Tryd.func32, Tryd.ntmps32
      repeat' ((fail_if_success at_builtin); (first | go_skip | go_guarded | go_step))
      generalize hw1 : World.alloc w _ = w1
      replace hZ : Z3 w w1 w.heap.size bad := by rw [← hw1]; exact hZ
      clear hw1
      refine (CS.out _).mono ?_
      rintro e w2 ⟨rfl, hb2⟩
      dsimp only
      replace hZ := hZ.at hb2
      have c0 := hZ.c0
      have c1 := hZ.c1
      have c2 := hZ.c2
      have cf := hZ.fr
      by_cases hr0 : 0 < R.size
      · have n0 := toList_some2 hr0
        have hrne : R.data.toList ≠ [] := by intro h; have := hRs.out; rw [h] at this; simp at this; omega
        by_cases hr2 : 2 < R.size
        · have r2 : (2 : Int) < (R.size : Int) := by omega
          have r2' : (2 : Int) ≤ (R.size : Int) := by omega
          have r1 : (1 : Int) < (R.size : Int) := by omega
          have r1' : (1 : Int) ≤ (R.size : Int) := by omega
          have r0 : (0 : Int) < (R.size : Int) := by omega
          have hl2 : 2 < R.data.toList.length := by rw [hRs.out]; exact hr2
          by_cases t1 : R.data.toList.take 2 = [62, 61]
          · have e1 : ((R.extract 0 2).toList == [62, 61]) = true := by rw [ext_listt, t1]; rfl
            have hq : readL s.data.toList = partL 3 A.data.toList (R.extract 2 R.size).data.toList := by rw [hrd.out, ext_listd]; unfold readC; rw [if_neg (fun h => hrne h.1), if_pos ⟨hl2, t1⟩]
            replace hq := Lib.hid hq
            clear t1 hl2 hrne
            repeat' ((fail_if_success at_builtin); (first | go_skip | go_guarded | go_step))
            refine (part_any2 3 _ _ _ (by simp [ByteArray.size_extract]; omega) (by omega)).mono ?_
            rintro e w4 ⟨rfl, hb4⟩
            dsimp only
            generalize partL 3 A.data.toList (R.extract 2 R.size).data.toList = q at hq ⊢
            replace hZ := hZ.at hb4
            clear c0 c1 c2 cf
            have c0 := hZ.c0
            have c1 := hZ.c1
            have c2 := hZ.c2
            have cf := hZ.fr
            repeat' ((fail_if_success at_builtin); (first | go_skip | go_guarded | go_step))
            generalize hwf : World.setCell (World.setCell (World.setCell _ _ _) _ _) _ _ = wf
            have hP : Z3 w wf w.heap.size q := by rw [← hwf]; exact hZ.put q
            clear hwf
            have q0 := hP.c0
            have q1 := hP.c1
            have q2 := hP.c2
            have hPb := hP.below
            clear hP
            refine bodyPost_ret (v := .agg (pval q)) (by simp only [results, Tryd.results32]; go_simp; first | done | exact ⟨rfl, rfl, rfl⟩ | rfl) rfl ?_
            exact ⟨retA hq.out.symm, hPb⟩
          · have e1 : ((R.extract 0 2).toList == [62, 61]) = false := by rw [ext_listt, beq_eq_false_iff_ne]; exact t1
            by_cases t2 : R.data.toList.take 2 = [60, 61]
            · have e2 : ((R.extract 0 2).toList == [60, 61]) = true := by rw [ext_listt, t2]; rfl
              have hq : readL s.data.toList = partL 4 A.data.toList (R.extract 2 R.size).data.toList := by rw [hrd.out, ext_listd]; unfold readC; rw [if_neg (fun h => hrne h.1), if_neg (fun h => t1 h.2), if_pos ⟨hl2, t2⟩]
              replace hq := Lib.hid hq
              clear t1 t2 hl2 hrne
              repeat' ((fail_if_success at_builtin); (first | go_skip | go_guarded | go_step))
              refine (part_any2 4 _ _ _ (by simp [ByteArray.size_extract]; omega) (by omega)).mono ?_
              rintro e w4 ⟨rfl, hb4⟩
              dsimp only
              generalize partL 4 A.data.toList (R.extract 2 R.size).data.toList = q at hq ⊢
              replace hZ := hZ.at hb4
              clear c0 c1 c2 cf
              have c0 := hZ.c0
              have c1 := hZ.c1
              have c2 := hZ.c2
              have cf := hZ.fr
              repeat' ((fail_if_success at_builtin); (first | go_skip | go_guarded | go_step))
              generalize hwf : World.setCell (World.setCell (World.setCell _ _ _) _ _) _ _ = wf
              have hP : Z3 w wf w.heap.size q := by rw [← hwf]; exact hZ.put q
              clear hwf
              have q0 := hP.c0
              have q1 := hP.c1
              have q2 := hP.c2
              have hPb := hP.below
              clear hP
              refine bodyPost_ret (v := .agg (pval q)) (by simp only [results, Tryd.results32]; go_simp; first | done | exact ⟨rfl, rfl, rfl⟩ | rfl) rfl ?_
              exact ⟨retA hq.out.symm, hPb⟩
            · have e2 : ((R.extract 0 2).toList == [60, 61]) = false := by rw [ext_listt, beq_eq_false_iff_ne]; exact t2
              by_cases t3 : R[0].toNat = 61
              · have e3 : ((R[0].toNat : Int) == 61) = true := by simp; omega
                have hq : readL s.data.toList = partL 5 A.data.toList (R.extract 1 R.size).data.toList := by rw [hrd.out, ext_listd]; unfold readC; rw [if_neg (fun h => hrne h.1), if_neg (fun h => t1 h.2), if_neg (fun h => t2 h.2), if_pos ⟨by omega, by rw [head_at hr0]; congr 1; exact UInt8.toNat_inj.1 t3⟩]
                replace hq := Lib.hid hq
                clear t1 t2 t3 hl2 hrne
                repeat' ((fail_if_success at_builtin); (first | go_skip | go_guarded | go_step))
                refine (part_any2 5 _ _ _ (by simp [ByteArray.size_extract]; omega) (by omega)).mono ?_
                rintro e w4 ⟨rfl, hb4⟩
                dsimp only
                generalize partL 5 A.data.toList (R.extract 1 R.size).data.toList = q at hq ⊢
                replace hZ := hZ.at hb4
                clear c0 c1 c2 cf
                have c0 := hZ.c0
                have c1 := hZ.c1
                have c2 := hZ.c2
                have cf := hZ.fr
                repeat' ((fail_if_success at_builtin); (first | go_skip | go_guarded | go_step))
                generalize hwf : World.setCell (World.setCell (World.setCell _ _ _) _ _) _ _ = wf
                have hP : Z3 w wf w.heap.size q := by rw [← hwf]; exact hZ.put q
                clear hwf
                have q0 := hP.c0
                have q1 := hP.c1
                have q2 := hP.c2
                have hPb := hP.below
                clear hP
                refine bodyPost_ret (v := .agg (pval q)) (by simp only [results, Tryd.results32]; go_simp; first | done | exact ⟨rfl, rfl, rfl⟩ | rfl) rfl ?_
                exact ⟨retA hq.out.symm, hPb⟩
              · have e3 : ((R[0].toNat : Int) == 61) = false := by simp; omega
                have hq : readL s.data.toList = bad := by rw [hrd.out]; unfold readC; rw [if_neg (fun h => hrne h.1), if_neg (fun h => t1 h.2), if_neg (fun h => t2 h.2), if_neg (fun h => head_ne (c := 61) (fun _ => t3) h.2)]
                replace hq := Lib.hid hq
                clear t1 t2 t3 hl2 hrne
                repeat' ((fail_if_success at_builtin); (first | go_skip | go_guarded | go_step))
                generalize hwf : World.setCell (World.setCell (World.setCell _ _ _) _ _) _ _ = wf
                have hP : Z3 w wf w.heap.size bad := by rw [← hwf]; exact hZ.put bad
                clear hwf
                have q0 := hP.c0
                have q1 := hP.c1
                have q2 := hP.c2
                have hPb := hP.below
                clear hP
                refine bodyPost_ret (v := .agg (pval bad)) (by simp only [results, Tryd.results32]; go_simp; first | done | exact ⟨rfl, rfl, rfl⟩ | rfl) rfl ?_
                exact ⟨retA hq.out.symm, hPb⟩
        · have r2 : ¬ (2 : Int) < (R.size : Int) := by omega
          have hl2 : ¬ 2 < R.data.toList.length := by rw [hRs.out]; exact hr2
          by_cases hr1 : 1 < R.size
          · have r1 : (1 : Int) < (R.size : Int) := by omega
            have r1' : (1 : Int) ≤ (R.size : Int) := by omega
            have r0 : (0 : Int) < (R.size : Int) := by omega
            by_cases t3 : R[0].toNat = 61
            · have e3 : ((R[0].toNat : Int) == 61) = true := by simp; omega
              have hq : readL s.data.toList = partL 5 A.data.toList (R.extract 1 R.size).data.toList := by rw [hrd.out, ext_listd]; unfold readC; rw [if_neg (fun h => hrne h.1), if_neg (fun h => hl2 h.1), if_neg (fun h => hl2 h.1), if_pos ⟨by rw [hRs.out]; exact hr1, by rw [head_at hr0]; congr 1; exact UInt8.toNat_inj.1 t3⟩]
              replace hq := Lib.hid hq
              clear t3 hl2 hrne
              repeat' ((fail_if_success at_builtin); (first | go_skip | go_guarded | go_step))
              refine (part_any2 5 _ _ _ (by simp [ByteArray.size_extract]; omega) (by omega)).mono ?_
              rintro e w4 ⟨rfl, hb4⟩
              dsimp only
              generalize partL 5 A.data.toList (R.extract 1 R.size).data.toList = q at hq ⊢
              replace hZ := hZ.at hb4
              clear c0 c1 c2 cf
              have c0 := hZ.c0
              have c1 := hZ.c1
              have c2 := hZ.c2
              have cf := hZ.fr
              repeat' ((fail_if_success at_builtin); (first | go_skip | go_guarded | go_step))
              generalize hwf : World.setCell (World.setCell (World.setCell _ _ _) _ _) _ _ = wf
              have hP : Z3 w wf w.heap.size q := by rw [← hwf]; exact hZ.put q
              clear hwf
              have q0 := hP.c0
              have q1 := hP.c1
              have q2 := hP.c2
              have hPb := hP.below
              clear hP
              refine bodyPost_ret (v := .agg (pval q)) (by simp only [results, Tryd.results32]; go_simp; first | done | exact ⟨rfl, rfl, rfl⟩ | rfl) rfl ?_
              exact ⟨retA hq.out.symm, hPb⟩
            · have e3 : ((R[0].toNat : Int) == 61) = false := by simp; omega
              have hq : readL s.data.toList = bad := by rw [hrd.out]; unfold readC; rw [if_neg (fun h => hrne h.1), if_neg (fun h => hl2 h.1), if_neg (fun h => hl2 h.1), if_neg (fun h => head_ne (c := 61) (fun _ => t3) h.2)]
              replace hq := Lib.hid hq
              clear t3 hl2 hrne
              repeat' ((fail_if_success at_builtin); (first | go_skip | go_guarded | go_step))
              generalize hwf : World.setCell (World.setCell (World.setCell _ _ _) _ _) _ _ = wf
              have hP : Z3 w wf w.heap.size bad := by rw [← hwf]; exact hZ.put bad
              clear hwf
              have q0 := hP.c0
              have q1 := hP.c1
              have q2 := hP.c2
              have hPb := hP.below
              clear hP
              refine bodyPost_ret (v := .agg (pval bad)) (by simp only [results, Tryd.results32]; go_simp; first | done | exact ⟨rfl, rfl, rfl⟩ | rfl) rfl ?_
              exact ⟨retA hq.out.symm, hPb⟩
          · have r1 : ¬ (1 : Int) < (R.size : Int) := by omega
            have hq : readL s.data.toList = bad := by rw [hrd.out]; unfold readC; rw [if_neg (fun h => hrne h.1), if_neg (fun h => hl2 h.1), if_neg (fun h => hl2 h.1), if_neg (fun h => by have := h.1; rw [hRs.out] at this; exact hr1 this)]
            replace hq := Lib.hid hq
            clear hl2 hrne
            repeat' ((fail_if_success at_builtin); (first | go_skip | go_guarded | go_step))
            generalize hwf : World.setCell (World.setCell (World.setCell _ _ _) _ _) _ _ = wf
            have hP : Z3 w wf w.heap.size bad := by rw [← hwf]; exact hZ.put bad
            clear hwf
            have q0 := hP.c0
            have q1 := hP.c1
            have q2 := hP.c2
            have hPb := hP.below
            clear hP
            refine bodyPost_ret (v := .agg (pval bad)) (by simp only [results, Tryd.results32]; go_simp; first | done | exact ⟨rfl, rfl, rfl⟩ | rfl) rfl ?_
            exact ⟨retA hq.out.symm, hPb⟩
      · have n0 := toList_none2 hr0
        have hrn : R.data.toList = [] := List.eq_nil_of_length_eq_zero (by rw [hRs.out]; omega)
        have r2 : ¬ (2 : Int) < (R.size : Int) := by omega
        have r1 : ¬ (1 : Int) < (R.size : Int) := by omega
        have hrd2 : readL s.data.toList = if nameS A.data.toList = true then ⟨1, A.data.toList, 0⟩ else bad := by
          rw [hrd.out, hrn]
          unfold readC
          by_cases hn : nameS A.data.toList = true
          · rw [if_pos ⟨rfl, hn⟩, if_pos hn]
          · rw [if_neg (fun h => hn h.2), if_neg hn, if_neg (by simp), if_neg (by simp), if_neg (by simp)]
        replace hrd2 := Lib.hid hrd2
        clear hrn
        repeat' ((fail_if_success at_builtin); (first | go_skip | go_guarded | go_step))
        refine (refName_any _ _ (by omega)).mono ?_
        rintro e w3 ⟨rfl, rfl⟩
        dsimp only
        cases hn : nameS A.data.toList with
        | false =>
          have hq : readL s.data.toList = bad := by rw [hrd2.out, hn]; rfl
          replace hq := Lib.hid hq
          clear hn
          repeat' ((fail_if_success at_builtin); (first | go_skip | go_guarded | go_step))
          generalize hwf : World.setCell (World.setCell (World.setCell _ _ _) _ _) _ _ = wf
          have hP : Z3 w wf w.heap.size bad := by rw [← hwf]; exact hZ.put bad
          clear hwf
          have q0 := hP.c0
          have q1 := hP.c1
          have q2 := hP.c2
          have hPb := hP.below
          clear hP
          refine bodyPost_ret (v := .agg (pval bad)) (by simp only [results, Tryd.results32]; go_simp; first | done | exact ⟨rfl, rfl, rfl⟩ | rfl) rfl ?_
          exact ⟨retA hq.out.symm, hPb⟩
        | true =>
          have hq : readL s.data.toList = ⟨1, A.data.toList, 0⟩ := by rw [hrd2.out, hn]; rfl
          replace hq := Lib.hid hq
          clear hn
          repeat' ((fail_if_success at_builtin); (first | go_skip | go_guarded | go_step))
          generalize hwf : World.setCell (World.setCell (World.setCell _ _ _) _ _) _ _ = wf
          have hP : Z3 w wf w.heap.size ⟨1, A.data.toList, 0⟩ := by rw [← hwf]; exact hZ.put ⟨1, A.data.toList, 0⟩
          clear hwf
          have q0 := hP.c0
          have q1 := hP.c1
          have q2 := hP.c2
          have hPb := hP.below
          clear hP
          refine bodyPost_ret (v := .agg (pval ⟨1, A.data.toList, 0⟩)) (by simp only [results, Tryd.results32]; go_simp; first | done | exact ⟨rfl, rfl, rfl⟩ | rfl) rfl ?_
          exact ⟨retA hq.out.symm, hPb⟩
    · have z0 : ¬ (0 : Int) < (s.size : Int) := by omega
      clear hb
      go_enter Tryd.func32, Tryd.ntmps32
      repeat' ((fail_if_success at_builtin); (first | go_skip | go_guarded | go_step))
      generalize hw1 : World.alloc w _ = w1
      replace hZ : Z3 w w1 w.heap.size bad := by rw [← hw1]; exact hZ
      clear hw1
      refine (CS.out _).mono ?_
      rintro e w2 ⟨rfl, hb2⟩
      dsimp only
      replace hZ := hZ.at hb2
      have c0 := hZ.c0
      have c1 := hZ.c1
      have c2 := hZ.c2
      have cf := hZ.fr
      by_cases hr0 : 0 < R.size
      · have n0 := toList_some2 hr0
        have hrne : R.data.toList ≠ [] := by intro h; have := hRs.out; rw [h] at this; simp at this; omega
        by_cases hr2 : 2 < R.size
        · have r2 : (2 : Int) < (R.size : Int) := by omega
          have r2' : (2 : Int) ≤ (R.size : Int) := by omega
          have r1 : (1 : Int) < (R.size : Int) := by omega
          have r1' : (1 : Int) ≤ (R.size : Int) := by omega
          have r0 : (0 : Int) < (R.size : Int) := by omega
          have hl2 : 2 < R.data.toList.length := by rw [hRs.out]; exact hr2
          by_cases t1 : R.data.toList.take 2 = [62, 61]
          · have e1 : ((R.extract 0 2).toList == [62, 61]) = true := by rw [ext_listt, t1]; rfl
            have hq : readL s.data.toList = partL 3 A.data.toList (R.extract 2 R.size).data.toList := by rw [hrd.out, ext_listd]; unfold readC; rw [if_neg (fun h => hrne h.1), if_pos ⟨hl2, t1⟩]
            replace hq := Lib.hid hq
            clear t1 hl2 hrne
            repeat' ((fail_if_success at_builtin); (first | go_skip | go_guarded | go_step))
            refine (part_any2 3 _ _ _ (by simp [ByteArray.size_extract]; omega) (by omega)).mono ?_
            rintro e w4 ⟨rfl, hb4⟩
            dsimp only
            generalize partL 3 A.data.toList (R.extract 2 R.size).data.toList = q at hq ⊢
            replace hZ := hZ.at hb4
            clear c0 c1 c2 cf
            have c0 := hZ.c0
            have c1 := hZ.c1
            have c2 := hZ.c2
            have cf := hZ.fr
            repeat' ((fail_if_success at_builtin); (first | go_skip | go_guarded | go_step))
            generalize hwf : World.setCell (World.setCell (World.setCell _ _ _) _ _) _ _ = wf
            have hP : Z3 w wf w.heap.size q := by rw [← hwf]; exact hZ.put q
            clear hwf
            have q0 := hP.c0
            have q1 := hP.c1
            have q2 := hP.c2
            have hPb := hP.below
            clear hP
            refine bodyPost_ret (v := .agg (pval q)) (by simp only [results, Tryd.results32]; go_simp; first | done | exact ⟨rfl, rfl, rfl⟩ | rfl) rfl ?_
            exact ⟨retA hq.out.symm, hPb⟩
          · have e1 : ((R.extract 0 2).toList == [62, 61]) = false := by rw [ext_listt, beq_eq_false_iff_ne]; exact t1
            by_cases t2 : R.data.toList.take 2 = [60, 61]
            · have e2 : ((R.extract 0 2).toList == [60, 61]) = true := by rw [ext_listt, t2]; rfl
              have hq : readL s.data.toList = partL 4 A.data.toList (R.extract 2 R.size).data.toList := by rw [hrd.out, ext_listd]; unfold readC; rw [if_neg (fun h => hrne h.1), if_neg (fun h => t1 h.2), if_pos ⟨hl2, t2⟩]
              replace hq := Lib.hid hq
              clear t1 t2 hl2 hrne
              repeat' ((fail_if_success at_builtin); (first | go_skip | go_guarded | go_step))
              refine (part_any2 4 _ _ _ (by simp [ByteArray.size_extract]; omega) (by omega)).mono ?_
              rintro e w4 ⟨rfl, hb4⟩
              dsimp only
              generalize partL 4 A.data.toList (R.extract 2 R.size).data.toList = q at hq ⊢
              replace hZ := hZ.at hb4
              clear c0 c1 c2 cf
              have c0 := hZ.c0
              have c1 := hZ.c1
              have c2 := hZ.c2
              have cf := hZ.fr
              repeat' ((fail_if_success at_builtin); (first | go_skip | go_guarded | go_step))
              generalize hwf : World.setCell (World.setCell (World.setCell _ _ _) _ _) _ _ = wf
              have hP : Z3 w wf w.heap.size q := by rw [← hwf]; exact hZ.put q
              clear hwf
              have q0 := hP.c0
              have q1 := hP.c1
              have q2 := hP.c2
              have hPb := hP.below
              clear hP
              refine bodyPost_ret (v := .agg (pval q)) (by simp only [results, Tryd.results32]; go_simp; first | done | exact ⟨rfl, rfl, rfl⟩ | rfl) rfl ?_
              exact ⟨retA hq.out.symm, hPb⟩
            · have e2 : ((R.extract 0 2).toList == [60, 61]) = false := by rw [ext_listt, beq_eq_false_iff_ne]; exact t2
              by_cases t3 : R[0].toNat = 61
              · have e3 : ((R[0].toNat : Int) == 61) = true := by simp; omega
                have hq : readL s.data.toList = partL 5 A.data.toList (R.extract 1 R.size).data.toList := by rw [hrd.out, ext_listd]; unfold readC; rw [if_neg (fun h => hrne h.1), if_neg (fun h => t1 h.2), if_neg (fun h => t2 h.2), if_pos ⟨by omega, by rw [head_at hr0]; congr 1; exact UInt8.toNat_inj.1 t3⟩]
                replace hq := Lib.hid hq
                clear t1 t2 t3 hl2 hrne
                repeat' ((fail_if_success at_builtin); (first | go_skip | go_guarded | go_step))
                refine (part_any2 5 _ _ _ (by simp [ByteArray.size_extract]; omega) (by omega)).mono ?_
                rintro e w4 ⟨rfl, hb4⟩
                dsimp only
                generalize partL 5 A.data.toList (R.extract 1 R.size).data.toList = q at hq ⊢
                replace hZ := hZ.at hb4
                clear c0 c1 c2 cf
                have c0 := hZ.c0
                have c1 := hZ.c1
                have c2 := hZ.c2
                have cf := hZ.fr
                repeat' ((fail_if_success at_builtin); (first | go_skip | go_guarded | go_step))
                generalize hwf : World.setCell (World.setCell (World.setCell _ _ _) _ _) _ _ = wf
                have hP : Z3 w wf w.heap.size q := by rw [← hwf]; exact hZ.put q
                clear hwf
                have q0 := hP.c0
                have q1 := hP.c1
                have q2 := hP.c2
                have hPb := hP.below
                clear hP
                refine bodyPost_ret (v := .agg (pval q)) (by simp only [results, Tryd.results32]; go_simp; first | done | exact ⟨rfl, rfl, rfl⟩ | rfl) rfl ?_
                exact ⟨retA hq.out.symm, hPb⟩
              · have e3 : ((R[0].toNat : Int) == 61) = false := by simp; omega
                have hq : readL s.data.toList = bad := by rw [hrd.out]; unfold readC; rw [if_neg (fun h => hrne h.1), if_neg (fun h => t1 h.2), if_neg (fun h => t2 h.2), if_neg (fun h => head_ne (c := 61) (fun _ => t3) h.2)]
                replace hq := Lib.hid hq
                clear t1 t2 t3 hl2 hrne
                repeat' ((fail_if_success at_builtin); (first | go_skip | go_guarded | go_step))
                generalize hwf : World.setCell (World.setCell (World.setCell _ _ _) _ _) _ _ = wf
                have hP : Z3 w wf w.heap.size bad := by rw [← hwf]; exact hZ.put bad
                clear hwf
                have q0 := hP.c0
                have q1 := hP.c1
                have q2 := hP.c2
                have hPb := hP.below
                clear hP
                refine bodyPost_ret (v := .agg (pval bad)) (by simp only [results, Tryd.results32]; go_simp; first | done | exact ⟨rfl, rfl, rfl⟩ | rfl) rfl ?_
                exact ⟨retA hq.out.symm, hPb⟩
        · have r2 : ¬ (2 : Int) < (R.size : Int) := by omega
          have hl2 : ¬ 2 < R.data.toList.length := by rw [hRs.out]; exact hr2
          by_cases hr1 : 1 < R.size
          · have r1 : (1 : Int) < (R.size : Int) := by omega
            have r1' : (1 : Int) ≤ (R.size : Int) := by omega
            have r0 : (0 : Int) < (R.size : Int) := by omega
            by_cases t3 : R[0].toNat = 61
            · have e3 : ((R[0].toNat : Int) == 61) = true := by simp; omega
              have hq : readL s.data.toList = partL 5 A.data.toList (R.extract 1 R.size).data.toList := by rw [hrd.out, ext_listd]; unfold readC; rw [if_neg (fun h => hrne h.1), if_neg (fun h => hl2 h.1), if_neg (fun h => hl2 h.1), if_pos ⟨by rw [hRs.out]; exact hr1, by rw [head_at hr0]; congr 1; exact UInt8.toNat_inj.1 t3⟩]
              replace hq := Lib.hid hq
              clear t3 hl2 hrne
              repeat' ((fail_if_success at_builtin); (first | go_skip | go_guarded | go_step))
              refine (part_any2 5 _ _ _ (by simp [ByteArray.size_extract]; omega) (by omega)).mono ?_
              rintro e w4 ⟨rfl, hb4⟩
              dsimp only
              generalize partL 5 A.data.toList (R.extract 1 R.size).data.toList = q at hq ⊢
              replace hZ := hZ.at hb4
              clear c0 c1 c2 cf
              have c0 := hZ.c0
              have c1 := hZ.c1
              have c2 := hZ.c2
              have cf := hZ.fr
              repeat' ((fail_if_success at_builtin); (first | go_skip | go_guarded | go_step))
              generalize hwf : World.setCell (World.setCell (World.setCell _ _ _) _ _) _ _ = wf
              have hP : Z3 w wf w.heap.size q := by rw [← hwf]; exact hZ.put q
              clear hwf
              have q0 := hP.c0
              have q1 := hP.c1
              have q2 := hP.c2
              have hPb := hP.below
              clear hP
              refine bodyPost_ret (v := .agg (pval q)) (by simp only [results, Tryd.results32]; go_simp; first | done | exact ⟨rfl, rfl, rfl⟩ | rfl) rfl ?_
              exact ⟨retA hq.out.symm, hPb⟩
            · have e3 : ((R[0].toNat : Int) == 61) = false := by simp; omega
              have hq : readL s.data.toList = bad := by rw [hrd.out]; unfold readC; rw [if_neg (fun h => hrne h.1), if_neg (fun h => hl2 h.1), if_neg (fun h => hl2 h.1), if_neg (fun h => head_ne (c := 61) (fun _ => t3) h.2)]
              replace hq := Lib.hid hq
              clear t3 hl2 hrne
              repeat' ((fail_if_success at_builtin); (first | go_skip | go_guarded | go_step))
              generalize hwf : World.setCell (World.setCell (World.setCell _ _ _) _ _) _ _ = wf
              have hP : Z3 w wf w.heap.size bad := by rw [← hwf]; exact hZ.put bad
              clear hwf
              have q0 := hP.c0
              have q1 := hP.c1
              have q2 := hP.c2
              have hPb := hP.below
              clear hP
              refine bodyPost_ret (v := .agg (pval bad)) (by simp only [results, Tryd.results32]; go_simp; first | done | exact ⟨rfl, rfl, rfl⟩ | rfl) rfl ?_
              exact ⟨retA hq.out.symm, hPb⟩
          · have r1 : ¬ (1 : Int) < (R.size : Int) := by omega
            have hq : readL s.data.toList = bad := by rw [hrd.out]; unfold readC; rw [if_neg (fun h => hrne h.1), if_neg (fun h => hl2 h.1), if_neg (fun h => hl2 h.1), if_neg (fun h => by have := h.1; rw [hRs.out] at this; exact hr1 this)]
            replace hq := Lib.hid hq
            clear hl2 hrne
            repeat' ((fail_if_success at_builtin); (first | go_skip | go_guarded | go_step))
            generalize hwf : World.setCell (World.setCell (World.setCell _ _ _) _ _) _ _ = wf
            have hP : Z3 w wf w.heap.size bad := by rw [← hwf]; exact hZ.put bad
            clear hwf
            have q0 := hP.c0
            have q1 := hP.c1
            have q2 := hP.c2
            have hPb := hP.below
            clear hP
            refine bodyPost_ret (v := .agg (pval bad)) (by simp only [results, Tryd.results32]; go_simp; first | done | exact ⟨rfl, rfl, rfl⟩ | rfl) rfl ?_
            exact ⟨retA hq.out.symm, hPb⟩
      · have n0 := toList_none2 hr0
        have hrn : R.data.toList = [] := List.eq_nil_of_length_eq_zero (by rw [hRs.out]; omega)
        have r2 : ¬ (2 : Int) < (R.size : Int) := by omega
        have r1 : ¬ (1 : Int) < (R.size : Int) := by omega
        have hrd2 : readL s.data.toList = if nameS A.data.toList = true then ⟨1, A.data.toList, 0⟩ else bad := by
          rw [hrd.out, hrn]
          unfold readC
          by_cases hn : nameS A.data.toList = true
          · rw [if_pos ⟨rfl, hn⟩, if_pos hn]
          · rw [if_neg (fun h => hn h.2), if_neg hn, if_neg (by simp), if_neg (by simp), if_neg (by simp)]
        replace hrd2 := Lib.hid hrd2
        clear hrn
        repeat' ((fail_if_success at_builtin); (first | go_skip | go_guarded | go_step))
        refine (refName_any _ _ (by omega)).mono ?_
        rintro e w3 ⟨rfl, rfl⟩
        dsimp only
        cases hn : nameS A.data.toList with
        | false =>
          have hq : readL s.data.toList = bad := by rw [hrd2.out, hn]; rfl
          replace hq := Lib.hid hq
          clear hn
          repeat' ((fail_if_success at_builtin); (first | go_skip | go_guarded | go_step))
          generalize hwf : World.setCell (World.setCell (World.setCell _ _ _) _ _) _ _ = wf
          have hP : Z3 w wf w.heap.size bad := by rw [← hwf]; exact hZ.put bad
          clear hwf
          have q0 := hP.c0
          have q1 := hP.c1
          have q2 := hP.c2
          have hPb := hP.below
          clear hP
          refine bodyPost_ret (v := .agg (pval bad)) (by simp only [results, Tryd.results32]; go_simp; first | done | exact ⟨rfl, rfl, rfl⟩ | rfl) rfl ?_
          exact ⟨retA hq.out.symm, hPb⟩
        | true =>
          have hq : readL s.data.toList = ⟨1, A.data.toList, 0⟩ := by rw [hrd2.out, hn]; rfl
          replace hq := Lib.hid hq
          clear hn
          repeat' ((fail_if_success at_builtin); (first | go_skip | go_guarded | go_step))
          generalize hwf : World.setCell (World.setCell (World.setCell _ _ _) _ _) _ _ = wf
          have hP : Z3 w wf w.heap.size ⟨1, A.data.toList, 0⟩ := by rw [← hwf]; exact hZ.put ⟨1, A.data.toList, 0⟩
          clear hwf
          have q0 := hP.c0
          have q1 := hP.c1
          have q2 := hP.c2
          have hPb := hP.below
          clear hP
          refine bodyPost_ret (v := .agg (pval ⟨1, A.data.toList, 0⟩)) (by simp only [results, Tryd.results32]; go_simp; first | done | exact ⟨rfl, rfl, rfl⟩ | rfl) rfl ?_
          exact ⟨retA hq.out.symm, hPb⟩
end Go.Proofs.YtppbblgdcckbdaaDoor
