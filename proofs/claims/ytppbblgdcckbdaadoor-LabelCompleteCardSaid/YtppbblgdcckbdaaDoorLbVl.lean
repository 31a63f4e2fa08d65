/- Label: Valid. -/
import Derived.Test.YtppbblgdcckbdaaDoorLbNd
namespace Go.Proofs.YtppbblgdcckbdaaDoor
open Go.RowKit
open Go.Maps
theorem partL_name_len (f : Nat) (a b : List UInt8) : (partL f a b).name.length ≤ a.length := by
  unfold partL
  split
  · exact Nat.zero_le _
  · split
    · exact Nat.le_refl _
    · exact Nat.zero_le _
theorem read_len (s : List UInt8) : (readL s).name.length ≤ s.length := by
  have h1 := (splitC_app s).1
  have hl : (splitC s).1.length ≤ s.length := by
    have := congrArg List.length h1
    rw [List.length_append] at this
    omega
  unfold readL
  split
  · split
    · rw [List.length_tail]; omega
    · exact Nat.zero_le _
  · unfold readC
    split
    · exact hl
    · split
      · exact Nat.le_trans (partL_name_len _ _ _) hl
      · split
        · exact Nat.le_trans (partL_name_len _ _ _) hl
        · split
          · exact Nat.le_trans (partL_name_len _ _ _) hl
          · exact Nat.zero_le _
abbrev nmS (q : ByteArray) : ByteArray := strS (labKey q.data.toList)
theorem val_keys (l : List ByteArray) (nm : List UInt8) : ((l.map nmS).any fun x => x.data.toList == (strS nm).data.toList) = (toLs l).any (fun x => labKey x == nm) := by
  unfold toLs
  rw [List.any_map, List.any_map]
  rfl
theorem val_at {l : List ByteArray} {i : Nat} {q : ByteArray} {fin : Int} (h : ChkI labBd labKey l i fin) (hq : l[i]? = some q) : fin = if (labL q.data.toList).form == 0 then 5 else if (toLs (l.take i)).any (fun x => labKey x == labKey q.data.toList) then 7 else if ordBad (toLs (l.take i)) q.data.toList then 22 else chkF labBd labKey ((toLs l).take (i + 1)) ((toLs l).drop (i + 1)) := by
  unfold ChkI at h
  rw [h, chkF_at (toLs_at hq), toLs_take]
  rfl
set_option maxRecDepth 100000 in
set_option maxHeartbeats 4000000 in
theorem valid_any (l : List ByteArray) (A : Option Addr) (n c : Nat) (w : World) (hR : Ready w) (hn : n = l.length) (hs : Seq w w.heap.size 1 A n (cellsS l)) (hl : n ≤ 1000000) (hm : ∀ q ∈ l, q.size ≤ 1000000) :
    Calls Tryd.prog 11 #[.slice A n c] w fun e w' => e = .returned (.int .i64 (valL (toLs l))) ∧ Below w.heap.size w w' := by
  have hmm := @run_makeMap Tryd.prog
  have hz : ∀ w', (zeroValue 4).run Tryd.prog w' = .ok (.bool false) w' := fun _ => by kernel_rfl
  have CAs := fun w' (h : Below w.heap.size w w') (i : Nat) (q : ByteArray) (hq : l[i]? = some q) => ascends_any l i q A n c w' hq hn ((hs.below h).more h.size) hl hm
  obtain ⟨fin, hfin⟩ : ∃ fin, fin = valL (toLs l) := ⟨_, rfl⟩
  replace hfin := Lib.hid hfin
  replace CAs := Lib.hid CAs
  replace hz := Lib.hid hz
  by_cases hbig : 32 < n
  · have g1 : (32 : Int) < (n : Int) := by omega
    have hv : fin = 3 := by rw [hfin.out]; unfold valL; rw [if_pos (by rw [toLs_len]; omega)]
    replace hv := Lib.hid hv
    replace hn := Lib.hid hn
    go_enter Tryd.func11, Tryd.ntmps11
    repeat' ((fail_if_success at_builtin); (first | go_skip | go_guarded | go_step))
    go_ret
    exact ⟨by rw [← hfin.out, hv.out]; rfl, Below.refl _ _⟩
  · have g1 : ¬ (32 : Int) < (n : Int) := by omega
    have hst : ChkI labBd labKey l 0 fin := by unfold ChkI; rw [hfin.out]; unfold valL; rw [if_neg (by rw [toLs_len]; omega)]; rfl
    replace hst := Lib.hid hst
    replace hs := Lib.hid hs
    replace hn := Lib.hid hn
    replace hm := Lib.hid hm
    have hmp := SetS.made (P := Tryd.prog) (k := 9) w
    have hb0 : Below w.heap.size w (w.alloc (.map #[] 0)) := (Below.refl _ _).alloc (Nat.le_refl _) _
    have z0 : (w.alloc (.map #[] 0)).heap.size = w.heap.size + 1 := by simp
    go_enter Tryd.func11, Tryd.ntmps11
    repeat' ((fail_if_success at_builtin); (first | go_skip | go_guarded | go_step))
    clear hmm
    generalize hw1 : World.alloc w _ = w1
    replace hmp : SetS Tryd.prog 9 w1 w.heap.size [] := by rw [← hw1]; exact hmp
    replace hb0 : Below w.heap.size w w1 := by rw [← hw1]; exact hb0
    clear hw1 z0
    go_loopw [15] (fun u15 wr => ∃ i : Nat, i ≤ n ∧ u15 = .int .i64 (i : Int) ∧ Below w.heap.size w wr ∧ SetS Tryd.prog 9 wr w.heap.size ((l.take i).map nmS) ∧ ChkI labBd labKey l i fin) (fun u15 _ => n - (intOf u15).toNat)
    case atStart => exact ⟨0, by omega, rfl, hb0, by rw [List.take_zero]; exact hmp, hst.out⟩
    case round =>
      clear hst hmp hb0
      obtain ⟨i, hi, rfl, hb, hset, hu⟩ := hrel
      by_cases hlt : i < n
      · have i0 : (0 : Int) ≤ (i : Int) := by omega
        have i1 : (i : Int) < (n : Int) := by omega
        have i2 : IntKind.i64.wrap ((i : Int) + 1) = (i : Int) + 1 := IntWalk.i64_in _ (by omega)
        obtain ⟨q, hq⟩ : ∃ q, l[i]? = some q := ⟨_, List.getElem?_eq_getElem (by have := hn.out; omega)⟩
        obtain ⟨bl, off, rfl, hbl, hcq⟩ := strs_at hs.out hlt hq
        have hq6 := hm.out q (List.mem_of_getElem? hq)
        have hu2 := val_at hu hq
        have cq := (hb.cell (p := ⟨bl, off + i, none⟩) hbl).trans hcq
        have hkl : (l.take (i + 1)).map nmS = (l.take i).map nmS ++ [nmS q] := by rw [take_snoc hq, List.map_append]; rfl
        replace hkl := Lib.hid hkl
        clear hcq hu
        repeat' ((fail_if_success at_builtin); (first | go_skip | go_guarded | go_step))
        refine (labelOf_any q wr (hR.below hb) hq6).mono ?_
        rintro e w2 ⟨hlr, hb2⟩
        obtain ⟨p, hp⟩ : ∃ p, p = readL q.data.toList := ⟨_, rfl⟩
        have hnl : p.name.length ≤ q.size := by rw [hp]; have := read_len q.data.toList; rw [list_size] at this; exact this
        rw [← hp] at hlr
        have hlq := labL_eq hp
        clear hp
        obtain ⟨pf, pn, pm⟩ := p
        replace hnl : pn.length ≤ q.size := hnl
        replace hlr : e = .returned (.tuple #[.agg (pval ⟨pf, pn, pm⟩), .bool (pf == 5), .bool (pf == 1 || pf == 5)]) := hlr
        have hb3 := hb.trans (hb2.mono hb.size)
        have hset2 := hset.kept hb2
        have hX := Z3.new (w := w) (wx := w2) hb3 33 ⟨pf, pn, pm⟩
        have hset3 := hset2.kept ((Below.refl _ w2).alloc (Nat.le_refl _) (.cells (pval ⟨pf, pn, pm⟩) 33))
        cases hok : (pf == 1 || pf == 5) with
        | false =>
          rw [hok] at hlr
          have hlq2 : labL q.data.toList = bad := by
            rw [hlq, if_neg]
            intro h
            simp at hok
            rcases h with h | h
            · exact hok.1 h
            · exact hok.2 h
          have hf : fin = 5 := by
            rw [hu2, hlq2]
            rfl
          replace hf := Lib.hid hf
          clear hu2 hlq hlq2 hok hnl
          obtain rfl := hlr
          dsimp only
          generalize (pf == 5) = p5 at *
          repeat' ((fail_if_success at_builtin); (first | go_skip | go_guarded | go_step))
          generalize hw5 : World.alloc w2 _ = w5
          replace hX : Z3 w w5 w2.heap.size ⟨pf, pn, pm⟩ := by rw [← hw5]; exact hX
          have hb9 := hX.below
          go_ret
          exact ⟨by rw [← hfin.out, hf.out]; rfl, hb9⟩
        | true =>
          rw [hok] at hlr
          have hlq2 : labL q.data.toList = ⟨pf, pn, pm⟩ := by
            rw [hlq, if_pos]
            simp at hok
            exact hok
          have hF0 : (pf == 0) = false := by
            simp at hok
            simp
            omega
          have hkq : labKey q.data.toList = pn := by unfold labKey; rw [hlq2]
          have hnq : nmS q = strS pn := by unfold nmS; rw [hkq]
          have hu3 : fin = if (toLs (l.take i)).any (fun x => labKey x == pn) then 7 else if ordBad (toLs (l.take i)) q.data.toList then 22 else chkF labBd labKey ((toLs l).take (i + 1)) ((toLs l).drop (i + 1)) := by
            rw [hu2, hlq2, hkq]
            show (if (pf == 0) = true then _ else _) = _
            rw [hF0]
            rfl
          rw [hnq] at hkl
          replace hkl := Lib.hid hkl.out
          clear hu2 hlq hlq2 hok hF0 hkq hnq
          obtain rfl := hlr
          dsimp only
          generalize (pf == 5) = p5 at *
          go_upto_region 8 with (fail)
          generalize hw5 : World.alloc w2 _ = w5
          replace hX : Z3 w w5 w2.heap.size ⟨pf, pn, pm⟩ := by rw [← hw5]; exact hX
          replace hset3 : SetS Tryd.prog 9 w5 w.heap.size ((l.take i).map nmS) := by rw [← hw5]; exact hset3
          clear hw5 hset2 hset
          generalize w2.heap.size = b9 at *
          have hb9 := hX.below
          have x1 := hX.c1
          have hlk := hset3.look (t := 31) (e := 4) Tryd.underlying9 Tryd.underlying31 (hz.out w5) (s := strS pn) (by rw [strS_size]; omega)
          rw [val_keys] at hlk
          cases hany : (toLs (l.take i)).any (fun x => labKey x == pn) with
          | true =>
            have hf : fin = 7 := by rw [hu3, hany]; rfl
            rw [hany] at hlk
            replace hf := Lib.hid hf
            clear hu3 hany
            repeat' ((fail_if_success at_builtin); (first | go_skip | go_guarded | go_step))
            go_ret
            exact ⟨by rw [← hfin.out, hf.out]; rfl, hb9⟩
          | false =>
            rw [hany] at hlk
            have hu4 : fin = if ordBad (toLs (l.take i)) q.data.toList then 22 else chkF labBd labKey ((toLs l).take (i + 1)) ((toLs l).drop (i + 1)) := by rw [hu3, hany]; rfl
            replace hu4 := Lib.hid hu4
            clear hu3 hany
            repeat' ((fail_if_success at_builtin); (first | go_skip | go_guarded | go_step))
            refine (CAs.out w5 hb9 i q hq).mono ?_
            rintro e w6 ⟨rfl, hb4⟩
            dsimp only
            have hX2 := hX.at hb4
            have hb5 := hX2.below
            have x2 := hX2.c1
            have hset4 := hset3.kept hb4
            clear hlk
            cases hob : ordBad (toLs (l.take i)) q.data.toList with
            | true =>
              have hf : fin = 22 := by rw [hu4.out, hob]; rfl
              replace hf := Lib.hid hf
              clear hu4
              repeat' ((fail_if_success at_builtin); (first | go_skip | go_guarded | go_step))
              go_ret
              exact ⟨by rw [← hfin.out, hf.out]; rfl, hb5⟩
            | false =>
              have hf : ChkI labBd labKey l (i + 1) fin := by
                unfold ChkI
                rw [hu4.out, hob]
                rfl
              replace hf := Lib.hid hf
              clear hu4
              have hkey := kS_key (P := Tryd.prog) (k := 9) Tryd.underlying9 (s := strS pn) (by rw [strS_size]; omega)
              repeat' ((fail_if_success at_mapUpdate); (fail_if_success at_builtin); (first | go_skip | go_guarded | go_step))
              refine wpList_mapUpdate_own _ rfl _ _ _ 31 rfl 9 4 (string_keyed Tryd.underlying9) Tryd.underlying31 trueM w.heap.size _ _ rfl hset4 (by rw [List.length_map]; refine Nat.lt_of_le_of_lt (List.length_take_le _ _) ?_; unfold maxLen; omega) _ _ (kS (strS pn)) rfl rfl hkey (.lit (.bool true)) [] rfl ?_
              intro w4 hown4 hg4
              have hset5 := SetS.snoc hown4
              rw [← hkl.out] at hset5
              have hb6 := Below.own hb5 hg4 (Nat.le_refl _) hb5.size
              repeat' ((fail_if_success at_builtin); (first | go_skip | go_guarded | go_step))
              go_roundw
              case rel => exact ⟨i + 1, by omega, by go_num, hb6, hset5, hf.out⟩
              case measure => simp [intOf]; omega
      · have i1 : ¬ (i : Int) < (n : Int) := by omega
        have hf : fin = 0 := by
          have h := hu
          unfold ChkI at h
          rw [h, chkF_end (by rw [toLs_len]; have := hn.out; omega)]
        replace hf := Lib.hid hf
        clear hu
        repeat' ((fail_if_success at_builtin); (first | go_skip | go_guarded | go_step))
        go_ret
        exact ⟨by rw [← hfin.out, hf.out]; rfl, hb⟩
end Go.Proofs.YtppbblgdcckbdaaDoor
