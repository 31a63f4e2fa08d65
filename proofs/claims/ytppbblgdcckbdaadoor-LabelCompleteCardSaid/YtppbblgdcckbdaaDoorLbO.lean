/- Label: satisfied. -/
import Derived.Test.YtppbblgdcckbdaaDoorLbM
import Derived.Deep.DeepCutAuto
namespace Go.Proofs.YtppbblgdcckbdaaDoor
open Go.RowKit
theorem take_snoc {α : Type} {l : List α} {i : Nat} {q : α} (hq : l[i]? = some q) : l.take (i + 1) = l.take i ++ [q] := by
  obtain ⟨hi, rfl⟩ := List.getElem?_eq_some_iff.1 hq
  exact List.take_succ_eq_append_getElem hi
theorem there_snoc {l : List ByteArray} {i : Nat} {q : ByteArray} (nm : List UInt8) (hq : l[i]? = some q) : thereL (toLs (l.take (i + 1))) nm = (thereL (toLs (l.take i)) nm || ((labL q.data.toList).form != 0 && (labL q.data.toList).name == nm)) := by
  rw [take_snoc hq]
  unfold thereL toLs
  rw [List.map_append, List.any_append]
  simp
theorem met_snoc {l : List ByteArray} {i : Nat} {q : ByteArray} (t : Prt) (hq : l[i]? = some q) : metL (toLs (l.take (i + 1))) t = (metL (toLs (l.take i)) t || hitM t q.data.toList) := by
  rw [take_snoc hq]
  unfold metL toLs
  rw [List.map_append, List.any_append]
  simp
theorem hitM_of {t p : Prt} {s : List UInt8} (h : labL s = p) : hitM t s = ((p.form != 0 && p.name == t.name) && (p.form == 5 && (decide (2 < t.form) && holdsN t p.n))) := by unfold hitM; rw [h]
set_option maxRecDepth 100000 in
set_option maxHeartbeats 6000000 in
theorem satisfied_any (l : List ByteArray) (t : Prt) (A : Option Addr) (n c : Nat) (w : World) (hR : Ready w) (ht : t.form ≤ 5) (hn : n = l.length) (hs : Seq w w.heap.size 1 A n (cellsS l)) (hl : n ≤ 1000000) (hm : ∀ q ∈ l, q.size ≤ 1000000) :
    Calls Tryd.prog 25 #[.slice A n c, .agg (pval t)] w fun e w' => e = .returned (.bool (satL (toLs l) t)) ∧ Below w.heap.size w w' := by
  have hY0 := Z3.new (w := w) (Below.refl _ _) 33 t
  replace hs := Lib.hid hs
  replace hn := Lib.hid hn
  replace hm := Lib.hid hm
  have hsl : satL (toLs l) t = if t.form = 0 then false else if t.form = 1 then thereL (toLs l) t.name else if t.form = 2 then !thereL (toLs l) t.name else metL (toLs l) t := rfl
  replace hsl := Lib.hid hsl
  by_cases h0 : t.form = 0
  · have g0 : ((t.form : Int) == 0) = true := by simp; omega
    have hv : satL (toLs l) t = false := by rw [hsl.out, if_pos h0]
    replace hv := Lib.hid hv
    have hbw := hY0.below
    clear hY0 h0
    go_enter Tryd.func25, Tryd.ntmps25
    repeat' ((fail_if_success at_builtin); (first | go_skip | go_guarded | go_step))
    go_ret
    exact ⟨retB hv.out.symm, hbw⟩
  · have g0 : ((t.form : Int) == 0) = false := by simp; omega
    go_enter Tryd.func25, Tryd.ntmps25
    go_upto_region 3 with (fail)
    generalize hw1 : World.alloc w _ = w1
    replace hY0 : Z3 w w1 w.heap.size t := by rw [← hw1]; exact hY0
    clear hw1
    repeat' ((fail_if_success at_builtin); (first | go_skip | go_guarded | go_step))
    go_loopw [5, 6, 17] (fun u5 u6 u17 wr => ∃ i : Nat, i ≤ n ∧ u17 = .int .i64 (i : Int) ∧ u5 = .bool (thereL (toLs (l.take i)) t.name) ∧ u6 = .bool (metL (toLs (l.take i)) t) ∧ Z3 w wr w.heap.size t) (fun _ _ u17 _ => n - (intOf u17).toNat)
    case atStart => exact ⟨0, by omega, rfl, by rw [List.take_zero]; rfl, by rw [List.take_zero]; rfl, hY0⟩
    case round =>
      clear hY0
      obtain ⟨i, hi, rfl, rfl, rfl, hY⟩ := hrel
      by_cases hlt : i < n
      · have i0 : (0 : Int) ≤ (i : Int) := by omega
        have i1 : (i : Int) < (n : Int) := by omega
        have i2 : IntKind.i64.wrap ((i : Int) + 1) = (i : Int) + 1 := IntWalk.i64_in _ (by omega)
        obtain ⟨q, hq⟩ : ∃ q, l[i]? = some q := ⟨_, List.getElem?_eq_getElem (by have := hn.out; omega)⟩
        obtain ⟨bl, off, rfl, hbl, hcq⟩ := strs_at hs.out hlt hq
        have hq6 := hm.out q (List.mem_of_getElem? hq)
        have hT := Lib.hid (there_snoc t.name hq)
        have hM := Lib.hid (met_snoc t hq)
        have cq := (hY.below.cell (p := ⟨bl, off + i, none⟩) hbl).trans hcq
        clear hq hcq
        generalize thereL (toLs (l.take i)) t.name = th at *
        generalize metL (toLs (l.take i)) t = me at *
        repeat' ((fail_if_success at_builtin); (first | go_skip | go_guarded | go_step))
        refine (labelOf_any q wr (hR.below hY.below) hq6).mono ?_
        rintro e w2 ⟨hlr, hb2⟩
        obtain ⟨p, hp⟩ : ∃ p, p = readL q.data.toList := ⟨_, rfl⟩
        rw [← hp] at hlr
        have hlq := labL_eq hp
        clear hp
        obtain ⟨pf, pn, pm⟩ := p
        replace hY := hY.at hb2
        clear hb2 cq
        unfold LabR at hlr
        by_cases h5 : pf = 5
        · subst h5
          rw [if_pos (.inr rfl)] at hlq
          have hH := hitM_of (t := t) hlq
          rw [hlq] at hT
          rw [hH] at hM
          replace hlr : e = .returned (.tuple #[.agg (pval ⟨5, pn, pm⟩), .bool true, .bool true]) := hlr
          replace hT : Hid (_ = (th || (pn == t.name))) := hT
          replace hM : Hid (_ = (me || ((pn == t.name) && (decide (2 < t.form) && holdsN t pm)))) := hM
          obtain rfl := hlr
          clear hlq hH
          dsimp only
          have hX := Z3.new (w := w) hY.below 33 ⟨5, pn, pm⟩
          have hY3 := hY.at ((Below.refl _ _).alloc (Nat.le_refl _) (.cells (pval ⟨5, pn, pm⟩) 33))
          go_upto_region 8 with (fail)
          generalize hw5 : World.alloc w2 _ = w5
          replace hX : Z3 w w5 w2.heap.size ⟨5, pn, pm⟩ := by rw [← hw5]; exact hX
          replace hY3 : Z3 w w5 w.heap.size t := by rw [← hw5]; exact hY3
          clear hw5 hY
          have hY := hY3
          clear hY3
          generalize w2.heap.size = b9 at *
          have x0 := hX.c0
          have x1 := hX.c1
          have x2 := hX.c2
          have c0 := hY.c0
          have c1 := hY.c1
          have c2 := hY.c2
          cases hnm : (pn == t.name) with
          | false =>
            rw [hnm] at hT hM
            have gnm : ((strS pn).toList == (strS t.name).toList) = false := by rw [strS_beq]; exact hnm
            repeat' ((fail_if_success at_builtin); (first | go_skip | go_guarded | go_step))
            go_roundw
            case rel => exact ⟨i + 1, by omega, by go_num, by rw [hT.out]; simp, by rw [hM.out]; simp, hY⟩
            case measure => simp [intOf]; omega
          | true =>
            rw [hnm] at hT hM
            have gnm : ((strS pn).toList == (strS t.name).toList) = true := by rw [strS_beq]; exact hnm
            cases me with
            | true =>
              repeat' ((fail_if_success at_builtin); (first | go_skip | go_guarded | go_step))
              go_roundw
              case rel => exact ⟨i + 1, by omega, by go_num, by rw [hT.out]; simp, by rw [hM.out]; simp, hY⟩
              case measure => simp [intOf]; omega
            | false =>
              by_cases h2 : 2 < t.form
              · have g2 : (2 : Int) < (t.form : Int) := by omega
                rw [decide_eq_true h2] at hM
                repeat' ((fail_if_success at_builtin); (first | go_skip | go_guarded | go_step))
                refine (holds_any t pm _).mono ?_
                rintro e w6 ⟨rfl, hb6⟩
                dsimp only
                replace hY := hY.at hb6
                repeat' ((fail_if_success at_builtin); (first | go_skip | go_guarded | go_step))
                go_roundw
                case rel => exact ⟨i + 1, by omega, by go_num, by rw [hT.out]; simp, by rw [hM.out]; simp, hY⟩
                case measure => simp [intOf]; omega
              · have g2 : ¬ (2 : Int) < (t.form : Int) := by omega
                rw [decide_eq_false h2] at hM
                repeat' ((fail_if_success at_builtin); (first | go_skip | go_guarded | go_step))
                go_roundw
                case rel => exact ⟨i + 1, by omega, by go_num, by rw [hT.out]; simp, by rw [hM.out]; simp, hY⟩
                case measure => simp [intOf]; omega
        · by_cases h1 : pf = 1
          · subst h1
            rw [if_pos (.inl rfl)] at hlq
            have hH := hitM_of (t := t) hlq
            rw [hlq] at hT
            rw [hH] at hM
            replace hlr : e = .returned (.tuple #[.agg (pval ⟨1, pn, pm⟩), .bool false, .bool true]) := hlr
            replace hT : Hid (_ = (th || (pn == t.name))) := hT
            replace hM : Hid (_ = (me || ((pn == t.name) && false))) := hM
            obtain rfl := hlr
            clear hlq hH
            dsimp only
            have hX := Z3.new (w := w) hY.below 33 ⟨1, pn, pm⟩
            have hY3 := hY.at ((Below.refl _ _).alloc (Nat.le_refl _) (.cells (pval ⟨1, pn, pm⟩) 33))
            go_upto_region 8 with (fail)
            generalize hw5 : World.alloc w2 _ = w5
            replace hX : Z3 w w5 w2.heap.size ⟨1, pn, pm⟩ := by rw [← hw5]; exact hX
            replace hY3 : Z3 w w5 w.heap.size t := by rw [← hw5]; exact hY3
            clear hw5 hY
            have hY := hY3
            clear hY3
            generalize w2.heap.size = b9 at *
            have x0 := hX.c0
            have x1 := hX.c1
            have x2 := hX.c2
            have c0 := hY.c0
            have c1 := hY.c1
            have c2 := hY.c2
            cases hnm : (pn == t.name) with
            | false =>
              rw [hnm] at hT hM
              have gnm : ((strS pn).toList == (strS t.name).toList) = false := by rw [strS_beq]; exact hnm
              repeat' ((fail_if_success at_builtin); (first | go_skip | go_guarded | go_step))
              go_roundw
              case rel => exact ⟨i + 1, by omega, by go_num, by rw [hT.out]; simp, by rw [hM.out]; simp, hY⟩
              case measure => simp [intOf]; omega
            | true =>
              rw [hnm] at hT hM
              have gnm : ((strS pn).toList == (strS t.name).toList) = true := by rw [strS_beq]; exact hnm
              cases me with
              | true =>
                repeat' ((fail_if_success at_builtin); (first | go_skip | go_guarded | go_step))
                go_roundw
                case rel => exact ⟨i + 1, by omega, by go_num, by rw [hT.out]; simp, by rw [hM.out]; simp, hY⟩
                case measure => simp [intOf]; omega
              | false =>
                repeat' ((fail_if_success at_builtin); (first | go_skip | go_guarded | go_step))
                go_roundw
                case rel => exact ⟨i + 1, by omega, by go_num, by rw [hT.out]; simp, by rw [hM.out]; simp, hY⟩
                case measure => simp [intOf]; omega
          · rw [if_neg (fun h => h.elim h1 h5)] at hlq
            have hH := hitM_of (t := t) hlq
            rw [hlq] at hT
            rw [hH] at hM
            replace hlr : e = .returned (.tuple #[.agg (pval ⟨pf, pn, pm⟩), .bool false, .bool false]) := by rw [hlr]; simp [h1, h5]
            replace hT : Hid (_ = (th || false)) := hT
            replace hM : Hid (_ = (me || false)) := hM
            obtain rfl := hlr
            clear hlq hH
            dsimp only
            have hX := Z3.new (w := w) hY.below 33 ⟨pf, pn, pm⟩
            have hY3 := hY.at ((Below.refl _ _).alloc (Nat.le_refl _) (.cells (pval ⟨pf, pn, pm⟩) 33))
            go_upto_region 8 with (fail)
            generalize hw5 : World.alloc w2 _ = w5
            replace hX : Z3 w w5 w2.heap.size ⟨pf, pn, pm⟩ := by rw [← hw5]; exact hX
            replace hY3 : Z3 w w5 w.heap.size t := by rw [← hw5]; exact hY3
            clear hw5 hY
            have hY := hY3
            clear hY3
            generalize w2.heap.size = b9 at *
            have x0 := hX.c0
            have x1 := hX.c1
            have x2 := hX.c2
            have c0 := hY.c0
            have c1 := hY.c1
            have c2 := hY.c2
            repeat' ((fail_if_success at_builtin); (first | go_skip | go_guarded | go_step))
            go_roundw
            case rel => exact ⟨i + 1, by omega, by go_num, by rw [hT.out]; simp, by rw [hM.out]; simp, hY⟩
            case measure => simp [intOf]; omega
      · have i1 : ¬ ((i : Int) < (n : Int)) := by omega
        have htk : l.take i = l := List.take_of_length_le (by have := hn.out; omega)
        rw [htk]
        clear htk
        generalize thereL (toLs l) t.name = th at *
        generalize metL (toLs l) t = me at *
        have hbw := hY.below
        have c0 := hY.c0
        by_cases h1 : t.form = 1
        · have g1 : ((t.form : Int) == 1) = true := by simp; omega
          have hv : satL (toLs l) t = th := by rw [hsl.out, if_neg h0, if_pos h1]
          replace hv := Lib.hid hv
          clear h1
          repeat' ((fail_if_success at_builtin); (first | go_skip | go_guarded | go_step))
          go_ret
          exact ⟨retB hv.out.symm, hbw⟩
        · have g1 : ((t.form : Int) == 1) = false := by simp; omega
          by_cases h2 : t.form = 2
          · have g2 : ((t.form : Int) == 2) = true := by simp; omega
            have hv : satL (toLs l) t = !th := by rw [hsl.out, if_neg h0, if_neg h1, if_pos h2]
            replace hv := Lib.hid hv
            clear h1 h2
            repeat' ((fail_if_success at_builtin); (first | go_skip | go_guarded | go_step))
            go_ret
            exact ⟨retB hv.out.symm, hbw⟩
          · have g2 : ((t.form : Int) == 2) = false := by simp; omega
            have hv : satL (toLs l) t = me := by rw [hsl.out, if_neg h0, if_neg h1, if_neg h2]
            replace hv := Lib.hid hv
            clear h1 h2
            repeat' ((fail_if_success at_builtin); (first | go_skip | go_guarded | go_step))
            go_ret
            exact ⟨retB hv.out.symm, hbw⟩
end Go.Proofs.YtppbblgdcckbdaaDoor
