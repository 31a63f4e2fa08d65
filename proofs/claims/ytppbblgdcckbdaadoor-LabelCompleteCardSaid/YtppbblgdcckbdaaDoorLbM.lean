/- Label: the document's One. -/
import Derived.Test.YtppbblgdcckbdaaDoorLbK
import Derived.Test.YtppbblgdcckbdaaDoorHk
namespace Go.Proofs.YtppbblgdcckbdaaDoor
open Go.RowKit
abbrev toLs (l : List ByteArray) : List (List UInt8) := l.map fun p => p.data.toList
abbrev cellsS (l : List ByteArray) : List Value := l.map Value.string
theorem strs_at {w : World} {B : Nat} {A : Option Addr} {m j : Nat} {l : List ByteArray} {q : ByteArray} (hs : Seq w B 1 A m (cellsS l)) (hj : j < m) (hq : l[j]? = some q) :
    ∃ b o, A = some ⟨b, o, none⟩ ∧ b < B ∧ w.cell? ⟨b, o + j, none⟩ = some (.string q) := by
  obtain ⟨b, o, rfl, hb, hc⟩ := hs.2 (by omega)
  exact ⟨b, o, rfl, hb, hc j (.string q) (by rw [List.getElem?_map, hq]; rfl)⟩
def anyM (l : List ByteArray) (t : Prt) : Bool := l.any fun s => matchR (labL s.data.toList) t
theorem anyM_snoc {l : List ByteArray} {i : Nat} {q : ByteArray} (t : Prt) (hq : l[i]? = some q) : anyM (l.take (i + 1)) t = (anyM (l.take i) t || matchR (labL q.data.toList) t) := by
  obtain ⟨hi, rfl⟩ := List.getElem?_eq_some_iff.1 hq
  unfold anyM
  rw [List.take_succ_eq_append_getElem hi, List.any_append]
  simp
theorem one_any (l : List ByteArray) (t : Prt) : oneR (toLs l) t = (decide (t.form ≠ 0) && (anyM l t != decide (t.form = 2))) := by
  unfold oneR anyM toLs
  rw [List.any_map]
  rfl
set_option maxRecDepth 100000 in
set_option maxHeartbeats 4000000 in
theorem refOne_any (l : List ByteArray) (s : ByteArray) (A : Option Addr) (n c : Nat) (w : World) (hn : n = l.length) (hs : Seq w w.heap.size 1 A n (cellsS l)) (hl : n ≤ 1000000) (hm : ∀ q ∈ l, q.size ≤ 1000000) (hm2 : s.size ≤ 1000000) :
    Calls Tryd.prog 27 #[.slice A n c, .string s] w fun e w' => e = .returned (.bool (oneR (toLs l) (readL s.data.toList))) ∧ Below w.heap.size w w' := by
  obtain ⟨t, ht⟩ : ∃ t, t = readL s.data.toList := ⟨_, rfl⟩
  have ho := one_any l t
  have CR := fun w' => read_any s w' (by omega)
  rw [← ht] at CR
  replace CR := Lib.hid CR
  replace ht := Lib.hid ht
  replace ho := Lib.hid ho
  replace hs := Lib.hid hs
  replace hn := Lib.hid hn
  replace hm := Lib.hid hm
  go_enter Tryd.func27, Tryd.ntmps27
  repeat' ((fail_if_success at_builtin); (first | go_skip | go_guarded | go_step))
  refine (CR.out _).mono ?_
  rintro e w2 ⟨rfl, hb2⟩
  dsimp only
  have hY := Z3.new (w := w) hb2 38 t
  clear hb2
  go_upto_region 2 with (fail)
  generalize hw3 : World.alloc w2 _ = w3
  replace hY : Z3 w w3 w2.heap.size t := by rw [← hw3]; exact hY
  clear hw3
  generalize w2.heap.size = b5 at *
  repeat' ((fail_if_success at_builtin); (first | go_skip | go_guarded | go_step))
  go_loopw [6, 7] (fun u6 u7 wr => ∃ i : Nat, i ≤ n ∧ u7 = .int .i64 (i : Int) ∧ u6 = .bool (anyM (l.take i) t) ∧ Z3 w wr b5 t) (fun _ u7 _ => n - (intOf u7).toNat)
  case atStart => exact ⟨0, by omega, rfl, by rw [List.take_zero]; rfl, hY⟩
  case round =>
    clear hY
    obtain ⟨i, hi, rfl, rfl, hY⟩ := hrel
    by_cases hlt : i < n
    · have i0 : (0 : Int) ≤ (i : Int) := by omega
      have i1 : (i : Int) < (n : Int) := by omega
      have i2 : IntKind.i64.wrap ((i : Int) + 1) = (i : Int) + 1 := IntWalk.i64_in _ (by omega)
      obtain ⟨q, hq⟩ : ∃ q, l[i]? = some q := ⟨_, List.getElem?_eq_getElem (by have := hn.out; omega)⟩
      obtain ⟨bl, off, rfl, hbl, hcq⟩ := strs_at hs.out hlt hq
      have hq6 := hm.out q (List.mem_of_getElem? hq)
      have hsn := Lib.hid (anyM_snoc t hq)
      have cq := (hY.below.cell (p := ⟨bl, off + i, none⟩) hbl).trans hcq
      have lbl := Nat.lt_of_lt_of_le hbl hY.below.size
      have hS : ∀ w', Below wr.heap.size wr w' → (Below wr.heap.size wr w' ∧ w'.cell? ⟨bl, off + i, none⟩ = some (.string q) ∧ w'.cell? ⟨b5, 0, none⟩ = some (.int .i64 (t.form : Int)) ∧ w'.cell? ⟨b5, 1, none⟩ = some (.string (strS t.name)) ∧ w'.cell? ⟨b5, 2, none⟩ = some (.int .i64 (t.n : Int))) := fun w' h => ⟨h, (h.cell (p := ⟨bl, off + i, none⟩) lbl).trans cq, (hY.at h).c0, (hY.at h).c1, (hY.at h).c2⟩
      have keepS : ∀ w' w'', (Below wr.heap.size wr w' ∧ w'.cell? ⟨bl, off + i, none⟩ = some (.string q) ∧ w'.cell? ⟨b5, 0, none⟩ = some (.int .i64 (t.form : Int)) ∧ w'.cell? ⟨b5, 1, none⟩ = some (.string (strS t.name)) ∧ w'.cell? ⟨b5, 2, none⟩ = some (.int .i64 (t.n : Int))) → Below w'.heap.size w' w'' → (Below wr.heap.size wr w'' ∧ w''.cell? ⟨bl, off + i, none⟩ = some (.string q) ∧ w''.cell? ⟨b5, 0, none⟩ = some (.int .i64 (t.form : Int)) ∧ w''.cell? ⟨b5, 1, none⟩ = some (.string (strS t.name)) ∧ w''.cell? ⟨b5, 2, none⟩ = some (.int .i64 (t.n : Int))) := fun w' w'' h hq => hS _ (h.1.trans (hq.mono h.1.size))
      have hS1 := hS wr.drew (Below.refl _ _).drew
      replace keepS := Lib.hid keepS
      clear hS hq hcq
      cases ha : anyM (l.take i) t with
      | true =>
        repeat' ((fail_if_success at_builtin); (first | go_skip | go_guarded | go_step))
        refine wp_region_held_drew (S := fun w' => Below wr.heap.size wr w' ∧ w'.cell? ⟨bl, off + i, none⟩ = some (.string q) ∧ w'.cell? ⟨b5, 0, none⟩ = some (.int .i64 (t.form : Int)) ∧ w'.cell? ⟨b5, 1, none⟩ = some (.string (strS t.name)) ∧ w'.cell? ⟨b5, 2, none⟩ = some (.int .i64 (t.n : Int))) (by kernel_rfl) ?_ (fun hHeld => ?_)
        · (try dsimp only)
          exact hS1
        refine tkY 0 (v := ?v10) rfl (.inl ⟨by rfl, ?hy10⟩) ?hr10
        case hy10 => (intro w hSw; (try dsimp only at hSw); go_simp; try with_reducible rfl)
        simp only [Act.put, List.getElem_toArray, List.getElem_cons_zero, List.setIfInBounds_toArray, List.set_cons_zero, List.set_cons_succ]
        refine tkY 1 (v := ?v11) rfl (.inl ⟨by rfl, ?hy11⟩) ?hr11
        case hy11 => (intro w hSw; (try dsimp only at hSw); go_simp; try with_reducible rfl)
        simp only [Act.put, List.getElem_toArray, List.getElem_cons_zero, List.getElem_cons_succ, List.setIfInBounds_toArray, List.set_cons_zero, List.set_cons_succ]
        refine tkN 2 rfl ?_
        simp only [Act.put, List.getElem_toArray, List.getElem_cons_zero, List.getElem_cons_succ, List.setIfInBounds_toArray, List.set_cons_zero, List.set_cons_succ]
        refine tkN 3 rfl ?_
        simp only [Act.put, List.getElem_toArray, List.getElem_cons_zero, List.getElem_cons_succ, List.setIfInBounds_toArray, List.set_cons_zero, List.set_cons_succ]
        refine tkN 4 rfl ?_
        simp only [Act.put, List.getElem_toArray, List.getElem_cons_zero, List.getElem_cons_succ, List.setIfInBounds_toArray, List.set_cons_zero, List.set_cons_succ]
        refine tkN 5 rfl ?_
        simp only [Act.put, List.getElem_toArray, List.getElem_cons_zero, List.getElem_cons_succ, List.setIfInBounds_toArray, List.set_cons_zero, List.set_cons_succ]
        refine tkN 6 rfl ?_
        simp only [Act.put, List.getElem_toArray, List.getElem_cons_zero, List.getElem_cons_succ, List.setIfInBounds_toArray, List.set_cons_zero, List.set_cons_succ]
        refine tkN 7 rfl ?_
        simp only [Act.put, List.getElem_toArray, List.getElem_cons_zero, List.getElem_cons_succ, List.setIfInBounds_toArray, List.set_cons_zero, List.set_cons_succ]
        refine tkN 8 rfl ?_
        simp only [Act.put, List.getElem_toArray, List.getElem_cons_zero, List.getElem_cons_succ, List.setIfInBounds_toArray, List.set_cons_zero, List.set_cons_succ]
        refine tkY 9 (v := ?v12) rfl (.inl ⟨by rfl, ?hy12⟩) ?hr12
        case hy12 => (intro w hSw; (try dsimp only at hSw); go_simp; try with_reducible rfl)
        simp only [Act.put, List.getElem_toArray, List.getElem_cons_zero, List.getElem_cons_succ, List.setIfInBounds_toArray, List.set_cons_zero, List.set_cons_succ]
        refine tkY 10 (v := ?v13) rfl (.inl ⟨by rfl, ?hy13⟩) ?hr13
        case hy13 => (intro w hSw; (try dsimp only at hSw); go_simp; try with_reducible rfl)
        simp only [Act.put, List.getElem_toArray, List.getElem_cons_zero, List.getElem_cons_succ, List.setIfInBounds_toArray, List.set_cons_zero, List.set_cons_succ]
        refine wpAnyH_done (by kernel_rfl) ?_ _
        have hbq := hHeld.1
        repeat' ((fail_if_success at_builtin); (first | go_skip | go_guarded | go_step))
        go_roundw
        case rel => exact ⟨i + 1, by omega, by go_num, by rw [hsn.out, ha]; rfl, hY.at hbq⟩
        case measure => simp [intOf]; omega
      | false =>
        repeat' ((fail_if_success at_builtin); (first | go_skip | go_guarded | go_step))
        refine wp_region_held_drew (S := fun w' => Below wr.heap.size wr w' ∧ w'.cell? ⟨bl, off + i, none⟩ = some (.string q) ∧ w'.cell? ⟨b5, 0, none⟩ = some (.int .i64 (t.form : Int)) ∧ w'.cell? ⟨b5, 1, none⟩ = some (.string (strS t.name)) ∧ w'.cell? ⟨b5, 2, none⟩ = some (.int .i64 (t.n : Int))) (by kernel_rfl) ?_ (fun hHeld => ?_)
        · (try dsimp only)
          exact hS1
        refine tkY 0 (v := ?v1) rfl (.inl ⟨by rfl, ?hy1⟩) ?hr1
        case hy1 => (intro w hSw; (try dsimp only at hSw); go_simp; try with_reducible rfl)
        simp only [Act.put, List.getElem_toArray, List.getElem_cons_zero, List.setIfInBounds_toArray, List.set_cons_zero, List.set_cons_succ]
        refine tkY 1 (v := ?v2) rfl (.inl ⟨by rfl, ?hy2⟩) ?hr2
        case hy2 => (intro w hSw; (try dsimp only at hSw); go_simp; try with_reducible rfl)
        simp only [Act.put, List.getElem_toArray, List.getElem_cons_zero, List.getElem_cons_succ, List.setIfInBounds_toArray, List.set_cons_zero, List.set_cons_succ]
        refine tkY 2 (v := ?v3) rfl (.inl ⟨by rfl, ?hy3⟩) ?hr3
        case hy3 => (intro w hSw; (try dsimp only at hSw); go_simp; try with_reducible rfl)
        simp only [Act.put, List.getElem_toArray, List.getElem_cons_zero, List.getElem_cons_succ, List.setIfInBounds_toArray, List.set_cons_zero, List.set_cons_succ]
        refine tkY 3 (v := ?v4) rfl (.inl ⟨by rfl, ?hy4⟩) ?hr4
        case hy4 => (intro w hSw; (try dsimp only at hSw); go_simp; try with_reducible rfl)
        simp only [Act.put, List.getElem_toArray, List.getElem_cons_zero, List.getElem_cons_succ, List.setIfInBounds_toArray, List.set_cons_zero, List.set_cons_succ]
        refine tkY 4 (v := ?v5) rfl (.inl ⟨by rfl, ?hy5⟩) ?hr5
        case hy5 => (intro w hSw; (try dsimp only at hSw); go_simp; try with_reducible rfl)
        simp only [Act.put, List.getElem_toArray, List.getElem_cons_zero, List.getElem_cons_succ, List.setIfInBounds_toArray, List.set_cons_zero, List.set_cons_succ]
        refine tkY 5 (v := ?v6) rfl (.inl ⟨by rfl, ?hy6⟩) ?hr6
        case hy6 => (intro w hSw; (try dsimp only at hSw); go_simp; try with_reducible rfl)
        simp only [Act.put, List.getElem_toArray, List.getElem_cons_zero, List.getElem_cons_succ, List.setIfInBounds_toArray, List.set_cons_zero, List.set_cons_succ]
        refine tkY 7 (v := ?v7) rfl (.inl ⟨by rfl, ?hy7⟩) ?hr7
        case hy7 => (intro w hSw; (try dsimp only at hSw); go_simp; try with_reducible rfl)
        simp only [Act.put, List.getElem_toArray, List.getElem_cons_zero, List.getElem_cons_succ, List.setIfInBounds_toArray, List.set_cons_zero, List.set_cons_succ]
        refine wpAnyH_ready (rs := [6]) (by kernel_rfl) (by simp) ?_
        refine AllReadyH.cons rfl (fun K hK => ?_) AllReadyH.nil
        go_simp
        go_at_call 23
        refine (refLabel_any q _ hq6).mono ?_
        rintro e w7 ⟨rfl, hbq⟩
        dsimp only
        refine hK.out _ _ ?_ (fun hHeld => ?_)
        · (try dsimp only)
          exact keepS.out _ _ hHeld hbq
        clear hK K
        try simp only [Act.put, List.getElem_toArray, List.getElem_cons_zero, List.getElem_cons_succ, List.setIfInBounds_toArray, List.set_cons_zero, List.set_cons_succ]
        refine wpAnyH_ready (rs := [8]) (by kernel_rfl) (by simp) ?_
        refine AllReadyH.cons rfl (fun K hK => ?_) AllReadyH.nil
        go_simp
        go_at_call 46
        refine (matches_any _ t _).mono ?_
        rintro e w8 ⟨rfl, hbq⟩
        dsimp only
        refine hK.out _ _ ?_ (fun hHeld => ?_)
        · (try dsimp only)
          exact keepS.out _ _ hHeld hbq
        clear hK K
        try simp only [Act.put, List.getElem_toArray, List.getElem_cons_zero, List.getElem_cons_succ, List.setIfInBounds_toArray, List.set_cons_zero, List.set_cons_succ]
        refine tkY 9 (v := ?v8) rfl (.inl ⟨by rfl, ?hy8⟩) ?hr8
        case hy8 => (intro w hSw; (try dsimp only at hSw); go_simp; try with_reducible rfl)
        simp only [Act.put, List.getElem_toArray, List.getElem_cons_zero, List.getElem_cons_succ, List.setIfInBounds_toArray, List.set_cons_zero, List.set_cons_succ]
        refine tkY 10 (v := ?v9) rfl (.inl ⟨by rfl, ?hy9⟩) ?hr9
        case hy9 => (intro w hSw; (try dsimp only at hSw); go_simp; try with_reducible rfl)
        simp only [Act.put, List.getElem_toArray, List.getElem_cons_zero, List.getElem_cons_succ, List.setIfInBounds_toArray, List.set_cons_zero, List.set_cons_succ]
        refine wpAnyH_done (by kernel_rfl) ?_ _
        have hbq := hHeld.1
        repeat' ((fail_if_success at_builtin); (first | go_skip | go_guarded | go_step))
        go_roundw
        case rel => exact ⟨i + 1, by omega, by go_num, by rw [hsn.out, ha]; rfl, hY.at hbq⟩
        case measure => simp [intOf]; omega
    · have i1 : ¬ ((i : Int) < (n : Int)) := by omega
      have htk : l.take i = l := List.take_of_length_le (by have := hn.out; omega)
      rw [htk]
      generalize anyM l t = av at *
      have hbw := hY.below
      have c0 := hY.c0
      by_cases h0 : t.form = 0
      · have g0 : ((t.form : Int) != 0) = false := by simp; omega
        have hv : oneR (toLs l) t = false := by rw [ho.out, decide_eq_false (by omega)]; rfl
        replace hv := Lib.hid hv
        clear ho htk
        repeat' ((fail_if_success at_builtin); (first | go_skip | go_guarded | go_step))
        go_ret
        exact ⟨retB (by rw [← ht.out, hv.out]), hbw⟩
      · have g0 : ((t.form : Int) != 0) = true := by simp; omega
        have hv : oneR (toLs l) t = (av != decide (t.form = 2)) := by rw [ho.out, decide_eq_true (by omega)]; rfl
        replace hv := Lib.hid hv
        by_cases h2 : t.form = 2
        · have g2 : ((t.form : Int) == 2) = true := by simp; omega
          clear ho htk
          repeat' ((fail_if_success at_builtin); (first | go_skip | go_guarded | go_step))
          go_ret
          exact ⟨retB (by rw [← ht.out, hv.out, decide_eq_true h2]; simp), hbw⟩
        · have g2 : ((t.form : Int) == 2) = false := by simp; omega
          clear ho htk
          repeat' ((fail_if_success at_builtin); (first | go_skip | go_guarded | go_step))
          go_ret
          exact ⟨retB (by rw [← ht.out, hv.out, decide_eq_false h2]; simp), hbw⟩
end Go.Proofs.YtppbblgdcckbdaaDoor
