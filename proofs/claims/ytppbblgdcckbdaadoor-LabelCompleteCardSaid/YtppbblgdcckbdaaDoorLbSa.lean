/- Label: Satisfies, both sides. -/
import Derived.Test.YtppbblgdcckbdaaDoorLbO
namespace Go.Proofs.YtppbblgdcckbdaaDoor
open Go.RowKit
theorem read_form (s : List UInt8) : (readL s).form ≤ 5 := by
  rcases readL_fit s with h | h
  · rw [h]; decide
  · exact h.hi
theorem sats_drop {l : List (List UInt8)} {needs : List ByteArray} {i : Nat} {q : ByteArray} (hq : needs[i]? = some q) : satsL l (toLs (needs.drop i)) = (satL l (readL q.data.toList) && satsL l (toLs (needs.drop (i + 1)))) := by
  obtain ⟨hi, rfl⟩ := List.getElem?_eq_some_iff.1 hq
  rw [List.drop_eq_getElem_cons hi]
  rfl
theorem sats_end {l : List (List UInt8)} {needs : List ByteArray} {i : Nat} (h : needs.length ≤ i) : satsL l (toLs (needs.drop i)) = true := by
  rw [List.drop_of_length_le h]
  rfl
set_option maxRecDepth 100000 in
set_option maxHeartbeats 2000000 in
theorem satisfies_any (l needs : List ByteArray) (A A2 : Option Addr) (n c m c2 : Nat) (w : World) (hR : Ready w) (hn : n = l.length) (hs : Seq w w.heap.size 1 A n (cellsS l)) (hl : n ≤ 1000000) (hm : ∀ q ∈ l, q.size ≤ 1000000) (hn2 : m = needs.length) (hs2 : Seq w w.heap.size 1 A2 m (cellsS needs)) (hl2 : m ≤ 1000000) (hm2 : ∀ q ∈ needs, q.size ≤ 1000000) :
    Calls Tryd.prog 14 #[.slice A n c, .slice A2 m c2] w fun e w' => e = .returned (.bool (satsL (toLs l) (toLs needs))) ∧ Below w.heap.size w w' := by
  have CS := fun w' (h : Below w.heap.size w w') (t : Prt) (ht : t.form ≤ 5) => satisfied_any l t A n c w' (hR.below h) ht hn ((hs.below h).more h.size) hl hm
  have hst : satsL (toLs l) (toLs needs) = satsL (toLs l) (toLs (needs.drop 0)) := rfl
  obtain ⟨fin, hfin⟩ : ∃ fin, fin = satsL (toLs l) (toLs needs) := ⟨_, rfl⟩
  rw [← hfin] at hst
  replace hfin := Lib.hid hfin
  replace hst := Lib.hid hst
  replace CS := Lib.hid CS
  replace hs := Lib.hid hs
  replace hs2 := Lib.hid hs2
  replace hn := Lib.hid hn
  replace hn2 := Lib.hid hn2
  replace hm := Lib.hid hm
  replace hm2 := Lib.hid hm2
  go_enter Tryd.func14, Tryd.ntmps14
  repeat' ((fail_if_success at_builtin); (first | go_skip | go_guarded | go_step))
  go_loopw [9] (fun uI wr => ∃ i : Nat, i ≤ m ∧ uI = .int .i64 (i : Int) ∧ Below w.heap.size w wr ∧ fin = satsL (toLs l) (toLs (needs.drop i))) (fun uI _ => m - (intOf uI).toNat)
  case atStart => exact ⟨0, by omega, rfl, Below.refl _ _, hst.out⟩
  case round =>
    clear hst
    obtain ⟨i, hi, rfl, hb, hu⟩ := hrel
    by_cases hlt : i < m
    · have i0 : (0 : Int) ≤ (i : Int) := by omega
      have i1 : (i : Int) < (m : Int) := by omega
      have i2 : IntKind.i64.wrap ((i : Int) + 1) = (i : Int) + 1 := IntWalk.i64_in _ (by omega)
      obtain ⟨q, hq⟩ : ∃ q, needs[i]? = some q := ⟨_, List.getElem?_eq_getElem (by have := hn2.out; omega)⟩
      obtain ⟨bl, off, rfl, hbl, hcq⟩ := strs_at hs2.out hlt hq
      have hq6 := hm2.out q (List.mem_of_getElem? hq)
      rw [sats_drop hq] at hu
      have cq := (hb.cell (p := ⟨bl, off + i, none⟩) hbl).trans hcq
      clear hq hcq
      replace hu := Lib.hid hu
      repeat' ((fail_if_success at_builtin); (first | go_skip | go_guarded | go_step))
      refine (parse_any2 q wr (hR.below hb) hq6).mono ?_
      rintro e w2 ⟨rfl, hb2⟩
      dsimp only
      have hb3 := hb.trans (hb2.mono hb.size)
      repeat' ((fail_if_success at_builtin); (first | go_skip | go_guarded | go_step))
      refine (CS.out w2 hb3 _ (read_form q.data.toList)).mono ?_
      rintro e w3 ⟨rfl, hb4⟩
      dsimp only
      have hb5 := hb3.trans (hb4.mono hb3.size)
      cases hv : satL (toLs l) (readL q.data.toList) with
      | false =>
        have hf : fin = false := by rw [hu.out, hv]; rfl
        replace hf := Lib.hid hf
        clear hv hu
        repeat' ((fail_if_success at_builtin); (first | go_skip | go_guarded | go_step))
        go_ret
        exact ⟨retB (by rw [← hfin.out, hf.out]), hb5⟩
      | true =>
        have hf : fin = satsL (toLs l) (toLs (needs.drop (i + 1))) := by rw [hu.out, hv]; rfl
        replace hf := Lib.hid hf
        clear hv hu
        repeat' ((fail_if_success at_builtin); (first | go_skip | go_guarded | go_step))
        go_roundw
        case rel => exact ⟨i + 1, by omega, by go_num, hb5, hf.out⟩
        case measure => simp [intOf]; omega
    · have i1 : ¬ ((i : Int) < (m : Int)) := by omega
      rw [sats_end (by have := hn2.out; omega)] at hu
      replace hu := Lib.hid hu
      repeat' ((fail_if_success at_builtin); (first | go_skip | go_guarded | go_step))
      go_ret
      exact ⟨retB (by rw [← hfin.out, hu.out]), hb⟩
set_option maxRecDepth 100000 in
set_option maxHeartbeats 2000000 in
theorem refSatisfies_any (l needs : List ByteArray) (A A2 : Option Addr) (n c m c2 : Nat) (w : World) (hn : n = l.length) (hs : Seq w w.heap.size 1 A n (cellsS l)) (hl : n ≤ 1000000) (hm : ∀ q ∈ l, q.size ≤ 1000000) (hn2 : m = needs.length) (hs2 : Seq w w.heap.size 1 A2 m (cellsS needs)) (hl2 : m ≤ 1000000) (hm2 : ∀ q ∈ needs, q.size ≤ 1000000) :
    Calls Tryd.prog 15 #[.slice A n c, .slice A2 m c2] w fun e w' => e = .returned (.bool (satsL (toLs l) (toLs needs))) ∧ Below w.heap.size w w' := by
  have CS := fun w' (h : Below w.heap.size w w') (q : ByteArray) (hq : q.size ≤ 1000000) => refOne_any l q A n c w' hn ((hs.below h).more h.size) hl hm hq
  have hst : satsL (toLs l) (toLs needs) = satsL (toLs l) (toLs (needs.drop 0)) := rfl
  obtain ⟨fin, hfin⟩ : ∃ fin, fin = satsL (toLs l) (toLs needs) := ⟨_, rfl⟩
  rw [← hfin] at hst
  replace hfin := Lib.hid hfin
  replace hst := Lib.hid hst
  replace CS := Lib.hid CS
  replace hs := Lib.hid hs
  replace hs2 := Lib.hid hs2
  replace hn := Lib.hid hn
  replace hn2 := Lib.hid hn2
  replace hm := Lib.hid hm
  replace hm2 := Lib.hid hm2
  go_enter Tryd.func15, Tryd.ntmps15
  repeat' ((fail_if_success at_builtin); (first | go_skip | go_guarded | go_step))
  go_loopw [5] (fun uI wr => ∃ i : Nat, i ≤ m ∧ uI = .int .i64 (i : Int) ∧ Below w.heap.size w wr ∧ fin = satsL (toLs l) (toLs (needs.drop i))) (fun uI _ => m - (intOf uI).toNat)
  case atStart => exact ⟨0, by omega, rfl, Below.refl _ _, hst.out⟩
  case round =>
    clear hst
    obtain ⟨i, hi, rfl, hb, hu⟩ := hrel
    by_cases hlt : i < m
    · have i0 : (0 : Int) ≤ (i : Int) := by omega
      have i1 : (i : Int) < (m : Int) := by omega
      have i2 : IntKind.i64.wrap ((i : Int) + 1) = (i : Int) + 1 := IntWalk.i64_in _ (by omega)
      obtain ⟨q, hq⟩ : ∃ q, needs[i]? = some q := ⟨_, List.getElem?_eq_getElem (by have := hn2.out; omega)⟩
      obtain ⟨bl, off, rfl, hbl, hcq⟩ := strs_at hs2.out hlt hq
      have hq6 := hm2.out q (List.mem_of_getElem? hq)
      rw [sats_drop hq] at hu
      have cq := (hb.cell (p := ⟨bl, off + i, none⟩) hbl).trans hcq
      clear hq hcq
      replace hu := Lib.hid hu
      repeat' ((fail_if_success at_builtin); (first | go_skip | go_guarded | go_step))
      refine (CS.out wr hb q hq6).mono ?_
      rintro e w3 ⟨rfl, hb4⟩
      dsimp only
      rw [one_sat _ _ (read_form _)]
      have hb5 := hb.trans (hb4.mono hb.size)
      cases hv : satL (toLs l) (readL q.data.toList) with
      | false =>
        have hf : fin = false := by rw [hu.out, hv]; rfl
        replace hf := Lib.hid hf
        clear hv hu
        repeat' ((fail_if_success at_builtin); (first | go_skip | go_guarded | go_step))
        go_ret
        exact ⟨retB (by rw [← hfin.out, hf.out]), hb5⟩
      | true =>
        have hf : fin = satsL (toLs l) (toLs (needs.drop (i + 1))) := by rw [hu.out, hv]; rfl
        replace hf := Lib.hid hf
        clear hv hu
        repeat' ((fail_if_success at_builtin); (first | go_skip | go_guarded | go_step))
        go_roundw
        case rel => exact ⟨i + 1, by omega, by go_num, hb5, hf.out⟩
        case measure => simp [intOf]; omega
    · have i1 : ¬ ((i : Int) < (m : Int)) := by omega
      rw [sats_end (by have := hn2.out; omega)] at hu
      replace hu := Lib.hid hu
      repeat' ((fail_if_success at_builtin); (first | go_skip | go_guarded | go_step))
      go_ret
      exact ⟨retB (by rw [← hfin.out, hu.out]), hb⟩
end Go.Proofs.YtppbblgdcckbdaaDoor
