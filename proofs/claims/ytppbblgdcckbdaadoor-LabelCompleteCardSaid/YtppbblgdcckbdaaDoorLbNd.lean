/- Label: Need. -/
import Derived.Test.YtppbblgdcckbdaaDoorLbAs
import Derived.Test.YtppbblgdcckbdaaDoorStrM
namespace Go.Proofs.YtppbblgdcckbdaaDoor
open Go.RowKit
open Go.Maps
theorem any_keys (l : List ByteArray) (s : ByteArray) : (l.any fun x => x.data.toList == s.data.toList) = (toLs l).any (fun x => x == s.data.toList) := by
  unfold toLs
  rw [List.any_map]
  rfl
theorem toLs_take (l : List ByteArray) (i : Nat) : toLs (l.take i) = (toLs l).take i := List.map_take
theorem toLs_at {l : List ByteArray} {i : Nat} {q : ByteArray} (h : l[i]? = some q) : (toLs l)[i]? = some q.data.toList := by rw [List.getElem?_map, h]; rfl
theorem toLs_len (l : List ByteArray) : (toLs l).length = l.length := List.length_map _
abbrev ChkI (bd : List UInt8 → Bool) (key : List UInt8 → List UInt8) (l : List ByteArray) (i : Nat) (fin : Int) : Prop := fin = chkF bd key ((toLs l).take i) ((toLs l).drop i)
theorem need_at {l : List ByteArray} {i : Nat} {q : ByteArray} {fin : Int} (h : ChkI reqBd id l i fin) (hq : l[i]? = some q) : fin = if (readL q.data.toList).form == 0 then 5 else if (l.take i).any (fun x => x.data.toList == q.data.toList) then 7 else if ordBad (toLs (l.take i)) q.data.toList then 22 else chkF reqBd id ((toLs l).take (i + 1)) ((toLs l).drop (i + 1)) := by
  unfold ChkI at h
  rw [h, chkF_at (toLs_at hq), any_keys, toLs_take]
  rfl
theorem Below.own {B : Nat} {w w' w2 : World} {r : Nat} (h : Below B w w') (hg : w'.grownBy w2 (some r)) (hr : B ≤ r) (hB : B ≤ w'.heap.size) : Below B w w2 := h.trans ⟨hg.os, hg.tape, hg.output, hg.size, fun k hk => hg.block k (by omega) (fun e => by injection e with e; omega)⟩
set_option maxRecDepth 100000 in
set_option maxHeartbeats 4000000 in
theorem need_any (l : List ByteArray) (A : Option Addr) (n c : Nat) (w : World) (hR : Ready w) (hn : n = l.length) (hs : Seq w w.heap.size 1 A n (cellsS l)) (hl : n ≤ 1000000) (hm : ∀ q ∈ l, q.size ≤ 1000000) :
    Calls Tryd.prog 19 #[.slice A n c] w fun e w' => e = .returned (.int .i64 (needL (toLs l))) ∧ Below w.heap.size w w' := by
  have hmm := @run_makeMap Tryd.prog
  have hfl : ∀ (w' : World) (u v x : Value), (Instr.field 33 (.agg #[u, v, x]) 0).run Tryd.prog w' = .ok u w' := fun _ _ _ _ => by kernel_rfl
  have hz : ∀ w', (zeroValue 4).run Tryd.prog w' = .ok (.bool false) w' := fun _ => by kernel_rfl
  have CAs := fun w' (h : Below w.heap.size w w') (i : Nat) (q : ByteArray) (hq : l[i]? = some q) => ascends_any l i q A n c w' hq hn ((hs.below h).more h.size) hl hm
  obtain ⟨fin, hfin⟩ : ∃ fin, fin = needL (toLs l) := ⟨_, rfl⟩
  replace hfin := Lib.hid hfin
  replace CAs := Lib.hid CAs
  replace hz := Lib.hid hz
  replace hfl := Lib.hid hfl
  by_cases hbig : 32 < n
  · have g1 : (32 : Int) < (n : Int) := by omega
    have hv : fin = 3 := by rw [hfin.out]; unfold needL; rw [if_pos (by rw [toLs_len]; omega)]
    replace hv := Lib.hid hv
    replace hn := Lib.hid hn
    go_enter Tryd.func19, Tryd.ntmps19
    repeat' ((fail_if_success at_builtin); (first | go_skip | go_guarded | go_step))
    go_ret
    exact ⟨by rw [← hfin.out, hv.out]; rfl, Below.refl _ _⟩
  · have g1 : ¬ (32 : Int) < (n : Int) := by omega
    have hst : ChkI reqBd id l 0 fin := by unfold ChkI; rw [hfin.out]; unfold needL; rw [if_neg (by rw [toLs_len]; omega)]; rfl
    replace hst := Lib.hid hst
    replace hs := Lib.hid hs
    replace hn := Lib.hid hn
    replace hm := Lib.hid hm
    have hmp := SetS.made (P := Tryd.prog) (k := 9) w
    have hb0 : Below w.heap.size w (w.alloc (.map #[] 0)) := (Below.refl _ _).alloc (Nat.le_refl _) _
    have z0 : (w.alloc (.map #[] 0)).heap.size = w.heap.size + 1 := by simp
    go_enter Tryd.func19, Tryd.ntmps19
    repeat' ((fail_if_success at_builtin); (first | go_skip | go_guarded | go_step))
    clear hmm
    generalize hw1 : World.alloc w _ = w1
    replace hmp : SetS Tryd.prog 9 w1 w.heap.size [] := by rw [← hw1]; exact hmp
    replace hb0 : Below w.heap.size w w1 := by rw [← hw1]; exact hb0
    clear hw1 z0
    go_loopw [12] (fun u12 wr => ∃ i : Nat, i ≤ n ∧ u12 = .int .i64 (i : Int) ∧ Below w.heap.size w wr ∧ SetS Tryd.prog 9 wr w.heap.size (l.take i) ∧ ChkI reqBd id l i fin) (fun u12 _ => n - (intOf u12).toNat)
    case atStart => exact ⟨0, by omega, rfl, hb0, by rw [List.take_zero]; exact hmp, hst.out⟩
    case round =>
      clear hst hmp hb0
      obtain ⟨i, hi, rfl, hb, hset, hu⟩ := hrel
      by_cases hlt : i < n
      · have i0 : (0 : Int) ≤ (i : Int) := by omega
        have i1 : (i : Int) < (n : Int) := by omega
        have i2 : IntKind.i64.wrap ((i : Int) + 1) = (i : Int) + 1 := IntWalk.i64_in _ (by omega)
        obtain ⟨q, hq⟩ : ∃ q, l[i]? = some q := ⟨_, List.getElem?_eq_getElem (by have := hn.out; omega)⟩
        obtain ⟨bl, off, rfl, hbl, hcq⟩ := strs_at hs.out hlt hq
        have hq6 := hm.out q (List.mem_of_getElem? hq)
        have hu2 := Lib.hid (need_at hu hq)
        have cq := (hb.cell (p := ⟨bl, off + i, none⟩) hbl).trans hcq
        clear hcq hu
        repeat' ((fail_if_success at_builtin); (first | go_skip | go_guarded | go_step))
        refine (parse_any2 q wr (hR.below hb) hq6).mono ?_
        rintro e w2 ⟨rfl, hb2⟩
        dsimp only
        have hb3 := hb.trans (hb2.mono hb.size)
        have hset2 := hset.kept hb2
        have hff := hfl.out
        by_cases hF : (readL q.data.toList).form = 0
        · have hf : fin = 5 := by rw [hu2.out, hF]; rfl
          have hFb : (((readL q.data.toList).form : Int) == 0) = true := by rw [hF]; rfl
          replace hf := Lib.hid hf
          clear hu2 hF
          repeat' ((fail_if_success at_builtin); (first | go_skip | go_guarded | go_step))
          go_ret
          exact ⟨by rw [← hfin.out, hf.out]; rfl, hb3⟩
        · have hFb : (((readL q.data.toList).form : Int) == 0) = false := by simp; omega
          have hFc : ((readL q.data.toList).form == 0) = false := by simp; omega
          have hlk := hset2.look (t := 31) (e := 4) Tryd.underlying9 Tryd.underlying31 (hz.out w2) (s := q) (by omega)
          have hu3 : fin = if (l.take i).any (fun x => x.data.toList == q.data.toList) then 7 else if ordBad (toLs (l.take i)) q.data.toList then 22 else chkF reqBd id ((toLs l).take (i + 1)) ((toLs l).drop (i + 1)) := by rw [hu2.out, if_neg (by rw [hFc]; decide)]
          clear hu2 hF hFc
          cases hany : (l.take i).any (fun x => x.data.toList == q.data.toList) with
          | true =>
            have hf : fin = 7 := by rw [hu3, hany]; rfl
            rw [hany] at hlk
            replace hf := Lib.hid hf
            clear hu3 hany
            repeat' ((fail_if_success at_builtin); (first | go_skip | go_guarded | go_step))
            go_ret
            exact ⟨by rw [← hfin.out, hf.out]; rfl, hb3⟩
          | false =>
            rw [hany] at hlk
            have hu4 : fin = if ordBad (toLs (l.take i)) q.data.toList then 22 else chkF reqBd id ((toLs l).take (i + 1)) ((toLs l).drop (i + 1)) := by rw [hu3, hany]; rfl
            replace hu4 := Lib.hid hu4
            clear hu3 hany
            repeat' ((fail_if_success at_builtin); (first | go_skip | go_guarded | go_step))
            refine (CAs.out w2 hb3 i q hq).mono ?_
            rintro e w3 ⟨rfl, hb4⟩
            dsimp only
            have hb5 := hb3.trans (hb4.mono hb3.size)
            have hset3 := hset2.kept hb4
            cases hob : ordBad (toLs (l.take i)) q.data.toList with
            | true =>
              have hf : fin = 22 := by rw [hu4.out, hob]; rfl
              replace hf := Lib.hid hf
              clear hu4
              repeat' ((fail_if_success at_builtin); (first | go_skip | go_guarded | go_step))
              go_ret
              exact ⟨by rw [← hfin.out, hf.out]; rfl, hb5⟩
            | false =>
              have hf : ChkI reqBd id l (i + 1) fin := by
                unfold ChkI
                rw [hu4.out, hob]
                rfl
              replace hf := Lib.hid hf
              clear hu4
              have hkey := kS_key (P := Tryd.prog) (k := 9) Tryd.underlying9 (s := q) (by omega)
              repeat' ((fail_if_success at_mapUpdate); (fail_if_success at_builtin); (first | go_skip | go_guarded | go_step))
              refine wpList_mapUpdate_own _ rfl _ _ _ 31 rfl 9 4 (string_keyed Tryd.underlying9) Tryd.underlying31 trueM w.heap.size _ _ rfl hset3 (by refine Nat.lt_of_le_of_lt (List.length_take_le _ _) ?_; unfold maxLen; omega) _ _ (kS q) rfl rfl hkey (.lit (.bool true)) [] rfl ?_
              intro w4 hown4 hg4
              have hset4 := SetS.snoc hown4
              rw [← take_snoc hq] at hset4
              have hb6 := Below.own hb5 hg4 (Nat.le_refl _) hb5.size
              repeat' ((fail_if_success at_builtin); (first | go_skip | go_guarded | go_step))
              go_roundw
              case rel => exact ⟨i + 1, by omega, by go_num, hb6, hset4, hf.out⟩
              case measure => simp [intOf]; omega
      · have i1 : ¬ (i : Int) < (n : Int) := by omega
        have hf : fin = 0 := by
          have h := hu
          unfold ChkI at h
          rw [h, chkF_end (by rw [toLs_len]; have := hn.out; omega)]
        replace hf := Lib.hid hf
        clear hu
        repeat' ((fail_if_success at_builtin); (first | go_skip | go_guarded | go_step))
        go_ret
        exact ⟨by rw [← hfin.out, hf.out]; rfl, hb⟩
end Go.Proofs.YtppbblgdcckbdaaDoor
