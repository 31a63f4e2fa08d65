/- Cache: Readable, both sides. -/
import Derived.Test.YtpdlapdnjmoaoaaDoorCaT
import Derived.Test.YtpdlapdnjmoaoaaDoorCaD
namespace Go.Proofs.YtpdlapdnjmoaoaaDoor
open Go.RowKit
def readS (o : Org) (t : Int) (l : List Ent) : List Ent := l.filter fun x => mayR o t x.sc
theorem readS_at {o : Org} {t : Int} {l : List Ent} {i : Nat} {x : Ent} (h : l[i]? = some x) : readS o t (l.take (i + 1)) = if mayR o t x.sc = true then readS o t (l.take i) ++ [x] else readS o t (l.take i) := by
  rw [List.take_add_one, h]
  unfold readS
  rw [List.filter_append]
  cases hm : mayR o t x.sc <;> simp [hm]
theorem readS_len (o : Org) (t : Int) (l : List Ent) (i : Nat) : (readS o t (l.take i)).length ≤ i :=
  Nat.le_trans (List.length_filter_le _ _) (by rw [List.length_take]; omega)
def RetL (w : World) (l : List Ent) (e : Ending) (w' : World) : Prop := ∃ A c, e = .returned (.slice A l.length c) ∧ l.length ≤ c ∧ Seq w' w'.heap.size 8 A l.length (entsC l) ∧ Below w.heap.size w w'
theorem own_more {W0 w : World} {v : Value} {p : List Ent} {x : Ent} {q : List Ent} (h : Own W0 w 42 8 v (p.length + 1) (entsC p ++ (ent8 x).toList)) (hq : q = p ++ [x]) : Own W0 w 42 8 v q.length (entsC q) := by
  subst hq
  rw [List.length_append, entsC_app]
  have : entsC [x] = (ent8 x).toList := by simp [entsC]
  rw [this]
  exact h
set_option maxRecDepth 100000 in
set_option maxHeartbeats 1000000 in
theorem readable_any (o : Org) (t : Int) (z : Int) (l : List Ent) (A : Option Addr) (n c : Nat) (w : World) (hn : n = l.length) (hs : Seq w w.heap.size 8 A n (entsC l)) (hl : n ≤ 1000000000) :
    Calls Tryd.prog 26 #[cval z A n c, .agg (ocells o), .int .i64 t] w (RetL w (readS o t l)) := by
  obtain ⟨w1, hw1⟩ : ∃ w1 : World, w1 = (w.alloc (.cells #[.int .i64 z, .slice A n c] 24)).alloc (.cells (ocells o) 54) := ⟨_, rfl⟩
  have hb0 : Below w.heap.size w w1 := by rw [hw1]; exact ((Below.refl w.heap.size w).alloc (Nat.le_refl _) _).alloc (by simp) _
  have zz : w1.heap.size = w.heap.size + 2 := by rw [hw1]; simp
  have z1 : w1.cell? ⟨w.heap.size, 1, none⟩ = some (.slice A n c) := by rw [hw1]; simp [go_sem]
  have k0 : w1.cell? ⟨w.heap.size + 1, 0, none⟩ = some (.string o.prj) := by rw [hw1]; simp [go_sem]
  have k1 : w1.cell? ⟨w.heap.size + 1, 1, none⟩ = some (.string o.ref) := by rw [hw1]; simp [go_sem]
  have k2 : w1.cell? ⟨w.heap.size + 1, 2, none⟩ = some (.bool o.fork) := by rw [hw1]; simp [go_sem]
  replace hs := Lib.hid hs
  replace hn := Lib.hid hn
  replace hw1 := Lib.hid hw1
  go_enter Tryd.func26, Tryd.ntmps26
  repeat' ((fail_if_success at_builtin); (first | go_skip | go_guarded | go_step))
  rw [← hw1.out]
  go_loopw [7, 9, 13] (fun u7 _ u13 wr => ∃ i : Nat, i ≤ n ∧ u13 = .int .i64 (i : Int) ∧ Own w1 wr 42 8 u7 (readS o t (l.take i)).length (entsC (readS o t (l.take i)))) (fun _ _ u13 _ => n - (intOf u13).toNat)
  case atStart => exact ⟨0, by omega, rfl, Own.nil_ _ _ _⟩
  case round =>
    obtain ⟨i, hi, rfl, hown⟩ := hrel
    have hb1 := hown.2
    have zr : w.heap.size + 2 ≤ wr.heap.size := by have := hb1.size; omega
    have lr0 : w.heap.size < wr.heap.size := by omega
    have lr1 : w.heap.size + 1 < wr.heap.size := by omega
    replace z1 := (hb1.cell (p := ⟨w.heap.size, 1, none⟩) (by show w.heap.size < _; omega)).trans z1
    replace k0 := (hb1.cell (p := ⟨w.heap.size + 1, 0, none⟩) (by show w.heap.size + 1 < _; omega)).trans k0
    replace k1 := (hb1.cell (p := ⟨w.heap.size + 1, 1, none⟩) (by show w.heap.size + 1 < _; omega)).trans k1
    replace k2 := (hb1.cell (p := ⟨w.heap.size + 1, 2, none⟩) (by show w.heap.size + 1 < _; omega)).trans k2
    by_cases hlt : i < n
    · have hlt2 : i < l.length := by have := hn.out; omega
      have hx : l[i]? = some l[i] := List.getElem?_eq_getElem hlt2
      obtain ⟨b, o', rfl, hbB, hc⟩ := ent_at hs.out hn.out hx
      have hc := hc.map (fun j => (hb0.trans (hb1.mono hb0.size)).cell (p := ⟨b, o' + i * 8 + j, none⟩) hbB)
      have hst := readS_at (o := o) (t := t) hx
      have hpl := readS_len o t l i
      clear hx
      generalize l[i] = x at *
      have i0 : (0 : Int) ≤ (i : Int) := by omega
      have i1 : (i : Int) < (n : Int) := by omega
      have i2 : IntKind.i64.wrap ((i : Int) + 1) = (i : Int) + 1 := IntWalk.i64_in _ (by omega)
      have C := fun w' => mayRead_any o t x.sc w'
      have hbl : b < wr.heap.size := by omega
      generalize mayR o t x.sc = r at *
      generalize readS o t (l.take i) = p at *
      have hby : (p.length + 1) * 88 ≤ 140737488355328 := by omega
      replace C := Lib.hid C
      replace hst := Lib.hid hst
      obtain ⟨c0, c1, c2, c3, c4, c5, c6, c7⟩ := hc
      repeat' ((fail_if_success at_builtin); (first | go_skip | go_guarded | go_step))
      have hownA := hown.alloc (.cells (ent8 x) 42)
      have X : CellsE (wr.alloc (.cells (ent8 x) 42)) wr.heap.size 0 x := ⟨by simp [go_sem], by simp [go_sem], by simp [go_sem], by simp [go_sem], by simp [go_sem], by simp [go_sem], by simp [go_sem], by simp [go_sem]⟩
      have lA : wr.heap.size < (wr.alloc (.cells (ent8 x) 42)).heap.size := by simp
      refine (C.out _).mono ?_
      rintro e w3 ⟨rfl, hb3⟩
      dsimp only
      have hown3 := hownA.below hb3
      have X3 := X.map (fun j => hb3.cell (p := ⟨wr.heap.size, 0 + j, none⟩) lA)
      clear X hownA hown c0 c1 c2 c3 c4 c5 c6 c7
      obtain ⟨c0, c1, c2, c3, c4, c5, c6, c7⟩ := X3
      simp only [Nat.zero_add] at c1 c2 c3 c4 c5 c6 c7
      have l3 : wr.heap.size < w3.heap.size := Nat.lt_of_lt_of_le lA hb3.size
      clear hb3 lA C
      cases r with
      | true =>
        have hst := hst.out
        rw [if_pos rfl] at hst
        replace hst := Lib.hid hst
        repeat' ((fail_if_success at_builtin); (first | go_skip | go_guarded | go_step))
        refine wp_app1 hown3 Tryd.underlying22 ent_info hby ?_
        intro v wz ho hg
        repeat' ((fail_if_success at_builtin); (first | go_skip | go_guarded | go_step))
        go_roundw
        case rel => exact ⟨i + 1, by omega, by go_num, own_more ho hst.out⟩
        case measure => simp [intOf]; omega
      | false =>
        have hst := hst.out
        rw [if_neg (by simp)] at hst
        replace hst := Lib.hid hst
        repeat' ((fail_if_success at_builtin); (first | go_skip | go_guarded | go_step))
        go_roundw
        case rel => exact ⟨i + 1, by omega, by go_num, by rw [hst.out]; exact hown3⟩
        case measure => simp [intOf]; omega
    · have i1 : ¬ ((i : Int) < (n : Int)) := by omega
      rw [List.take_of_length_le (by have := hn.out; omega)] at hown
      obtain ⟨A2, c2, rfl⟩ := Own.slice_form hown
      have hfin : RetL w (readS o t l) (.returned (.slice A2 (readS o t l).length c2)) wr := ⟨A2, c2, rfl, hown.cap_le, hown.seq, hb0.trans (hown.2.mono hb0.size)⟩
      replace hfin := Lib.hid hfin
      clear hown hb1
      repeat' ((fail_if_success at_builtin); (first | go_skip | go_guarded | go_step))
      go_ret
      exact hfin.out
set_option maxRecDepth 100000 in
set_option maxHeartbeats 1000000 in
theorem refReadable_any (o : Org) (t : Int) (z : Int) (l : List Ent) (A : Option Addr) (n c : Nat) (w : World) (hn : n = l.length) (hs : Seq w w.heap.size 8 A n (entsC l)) (hl : n ≤ 1000000000) :
    Calls Tryd.prog 27 #[cval z A n c, .agg (ocells o), .int .i64 t] w (RetL w (readS o t l)) := by
  obtain ⟨w1, hw1⟩ : ∃ w1 : World, w1 = (w.alloc (.cells #[.int .i64 z, .slice A n c] 24)).alloc (.cells (ocells o) 54) := ⟨_, rfl⟩
  have hb0 : Below w.heap.size w w1 := by rw [hw1]; exact ((Below.refl w.heap.size w).alloc (Nat.le_refl _) _).alloc (by simp) _
  have zz : w1.heap.size = w.heap.size + 2 := by rw [hw1]; simp
  have z1 : w1.cell? ⟨w.heap.size, 1, none⟩ = some (.slice A n c) := by rw [hw1]; simp [go_sem]
  have k0 : w1.cell? ⟨w.heap.size + 1, 0, none⟩ = some (.string o.prj) := by rw [hw1]; simp [go_sem]
  have k1 : w1.cell? ⟨w.heap.size + 1, 1, none⟩ = some (.string o.ref) := by rw [hw1]; simp [go_sem]
  have k2 : w1.cell? ⟨w.heap.size + 1, 2, none⟩ = some (.bool o.fork) := by rw [hw1]; simp [go_sem]
  replace hs := Lib.hid hs
  replace hn := Lib.hid hn
  replace hw1 := Lib.hid hw1
  go_enter Tryd.func27, Tryd.ntmps27
  repeat' ((fail_if_success at_builtin); (first | go_skip | go_guarded | go_step))
  rw [← hw1.out]
  go_loopw [7, 8] (fun u7 u13 wr => ∃ i : Nat, i ≤ n ∧ u13 = .int .i64 (i : Int) ∧ Own w1 wr 42 8 u7 (readS o t (l.take i)).length (entsC (readS o t (l.take i)))) (fun _ u13 _ => n - (intOf u13).toNat)
  case atStart => exact ⟨0, by omega, rfl, Own.nil_ _ _ _⟩
  case round =>
    obtain ⟨i, hi, rfl, hown⟩ := hrel
    have hb1 := hown.2
    have zr : w.heap.size + 2 ≤ wr.heap.size := by have := hb1.size; omega
    have lr0 : w.heap.size < wr.heap.size := by omega
    have lr1 : w.heap.size + 1 < wr.heap.size := by omega
    replace z1 := (hb1.cell (p := ⟨w.heap.size, 1, none⟩) (by show w.heap.size < _; omega)).trans z1
    replace k0 := (hb1.cell (p := ⟨w.heap.size + 1, 0, none⟩) (by show w.heap.size + 1 < _; omega)).trans k0
    replace k1 := (hb1.cell (p := ⟨w.heap.size + 1, 1, none⟩) (by show w.heap.size + 1 < _; omega)).trans k1
    replace k2 := (hb1.cell (p := ⟨w.heap.size + 1, 2, none⟩) (by show w.heap.size + 1 < _; omega)).trans k2
    by_cases hlt : i < n
    · have hlt2 : i < l.length := by have := hn.out; omega
      have hx : l[i]? = some l[i] := List.getElem?_eq_getElem hlt2
      obtain ⟨b, o', rfl, hbB, hc⟩ := ent_at hs.out hn.out hx
      have hc := hc.map (fun j => (hb0.trans (hb1.mono hb0.size)).cell (p := ⟨b, o' + i * 8 + j, none⟩) hbB)
      have hst := readS_at (o := o) (t := t) hx
      have hpl := readS_len o t l i
      clear hx
      generalize l[i] = x at *
      have i0 : (0 : Int) ≤ (i : Int) := by omega
      have i1 : (i : Int) < (n : Int) := by omega
      have i2 : IntKind.i64.wrap ((i : Int) + 1) = (i : Int) + 1 := IntWalk.i64_in _ (by omega)
      have C := fun w' => refMayRead_any o t x.sc w'
      have hbl : b < wr.heap.size := by omega
      generalize mayR o t x.sc = r at *
      generalize readS o t (l.take i) = p at *
      have hby : (p.length + 1) * 88 ≤ 140737488355328 := by omega
      replace C := Lib.hid C
      replace hst := Lib.hid hst
      have hS : ∀ w', Below wr.heap.size wr w' → (Below wr.heap.size wr w' ∧ w'.cell? ⟨w.heap.size, 1, none⟩ = some (.slice (some ⟨b, o', none⟩) n c) ∧ w'.cell? ⟨w.heap.size + 1, 0, none⟩ = some (.string o.prj) ∧ w'.cell? ⟨w.heap.size + 1, 1, none⟩ = some (.string o.ref) ∧ w'.cell? ⟨w.heap.size + 1, 2, none⟩ = some (.bool o.fork) ∧ w'.cell? ⟨b, o' + i * 8, none⟩ = some (.string x.sc.prj) ∧ w'.cell? ⟨b, o' + i * 8 + 1, none⟩ = some (.int .i64 x.sc.trust) ∧ w'.cell? ⟨b, o' + i * 8 + 2, none⟩ = some (.string x.sc.ref)) := by
        intro w' hb
        exact ⟨hb, (hb.cell (p := ⟨w.heap.size, 1, none⟩) lr0).trans z1, (hb.cell (p := ⟨w.heap.size + 1, 0, none⟩) lr1).trans k0, (hb.cell (p := ⟨w.heap.size + 1, 1, none⟩) lr1).trans k1, (hb.cell (p := ⟨w.heap.size + 1, 2, none⟩) lr1).trans k2,
          (hb.cell (p := ⟨b, o' + i * 8, none⟩) hbl).trans hc.c0, (hb.cell (p := ⟨b, o' + i * 8 + 1, none⟩) hbl).trans hc.c1, (hb.cell (p := ⟨b, o' + i * 8 + 2, none⟩) hbl).trans hc.c2⟩
      have hS1 := hS wr.drew (Below.refl _ _).drew
      have keepS : ∀ w' w'', (Below wr.heap.size wr w' ∧ w'.cell? ⟨w.heap.size, 1, none⟩ = some (.slice (some ⟨b, o', none⟩) n c) ∧ w'.cell? ⟨w.heap.size + 1, 0, none⟩ = some (.string o.prj) ∧ w'.cell? ⟨w.heap.size + 1, 1, none⟩ = some (.string o.ref) ∧ w'.cell? ⟨w.heap.size + 1, 2, none⟩ = some (.bool o.fork) ∧ w'.cell? ⟨b, o' + i * 8, none⟩ = some (.string x.sc.prj) ∧ w'.cell? ⟨b, o' + i * 8 + 1, none⟩ = some (.int .i64 x.sc.trust) ∧ w'.cell? ⟨b, o' + i * 8 + 2, none⟩ = some (.string x.sc.ref)) → Below w'.heap.size w' w'' → (Below wr.heap.size wr w'' ∧ w''.cell? ⟨w.heap.size, 1, none⟩ = some (.slice (some ⟨b, o', none⟩) n c) ∧ w''.cell? ⟨w.heap.size + 1, 0, none⟩ = some (.string o.prj) ∧ w''.cell? ⟨w.heap.size + 1, 1, none⟩ = some (.string o.ref) ∧ w''.cell? ⟨w.heap.size + 1, 2, none⟩ = some (.bool o.fork) ∧ w''.cell? ⟨b, o' + i * 8, none⟩ = some (.string x.sc.prj) ∧ w''.cell? ⟨b, o' + i * 8 + 1, none⟩ = some (.int .i64 x.sc.trust) ∧ w''.cell? ⟨b, o' + i * 8 + 2, none⟩ = some (.string x.sc.ref)) := fun w' w'' h hbq => hS _ (h.1.trans (hbq.mono h.1.size))
      replace keepS := Lib.hid keepS
      clear hS
      repeat' ((fail_if_success at_builtin); (first | go_skip | go_guarded | go_step))
      refine wp_region_held_drew (S := fun w' => Below wr.heap.size wr w' ∧ w'.cell? ⟨w.heap.size, 1, none⟩ = some (.slice (some ⟨b, o', none⟩) n c) ∧ w'.cell? ⟨w.heap.size + 1, 0, none⟩ = some (.string o.prj) ∧ w'.cell? ⟨w.heap.size + 1, 1, none⟩ = some (.string o.ref) ∧ w'.cell? ⟨w.heap.size + 1, 2, none⟩ = some (.bool o.fork) ∧ w'.cell? ⟨b, o' + i * 8, none⟩ = some (.string x.sc.prj) ∧ w'.cell? ⟨b, o' + i * 8 + 1, none⟩ = some (.int .i64 x.sc.trust) ∧ w'.cell? ⟨b, o' + i * 8 + 2, none⟩ = some (.string x.sc.ref)) (by kernel_rfl) ?_ (fun hHeld => ?_)
      · (try dsimp only)
        exact hS1
      refine wpAnyH_take (i := 0) (v := ?v519) rfl (by kernel_rfl) (by kernel_rfl) (by kernel_rfl) (fun _ _ _ h => h) (Or.inl ⟨by rfl, ?hy519⟩) (by assumption) ?rest519
      case hy519 => (intro w hSw; (try dsimp only at hSw); go_simp; try with_reducible rfl)
      simp only [Act.put, List.getElem_toArray, List.getElem_cons_zero, List.setIfInBounds_toArray, List.set_cons_zero, List.set_cons_succ]
      refine wpAnyH_take (i := 1) (v := ?v520) rfl (by kernel_rfl) (by kernel_rfl) (by kernel_rfl) (fun _ _ _ h => h) (Or.inl ⟨by rfl, ?hy520⟩) (by assumption) ?rest520
      case hy520 => (intro w hSw; (try dsimp only at hSw); go_simp; try with_reducible rfl)
      simp only [Act.put, List.getElem_toArray, List.getElem_cons_zero, List.getElem_cons_succ, List.setIfInBounds_toArray, List.set_cons_zero, List.set_cons_succ]
      refine wpAnyH_take (i := 2) (v := ?v521) rfl (by kernel_rfl) (by kernel_rfl) (by kernel_rfl) (fun _ _ _ h => h) (Or.inl ⟨by rfl, ?hy521⟩) (by assumption) ?rest521
      case hy521 => (intro w hSw; (try dsimp only at hSw); go_simp; try with_reducible rfl)
      simp only [Act.put, List.getElem_toArray, List.getElem_cons_zero, List.getElem_cons_succ, List.setIfInBounds_toArray, List.set_cons_zero, List.set_cons_succ]
      refine wpAnyH_take (i := 3) (v := ?v522) rfl (by kernel_rfl) (by kernel_rfl) (by kernel_rfl) (fun _ _ _ h => h) (Or.inl ⟨by rfl, ?hy522⟩) (by assumption) ?rest522
      case hy522 => (intro w hSw; (try dsimp only at hSw); go_simp; try with_reducible rfl)
      simp only [Act.put, List.getElem_toArray, List.getElem_cons_zero, List.getElem_cons_succ, List.setIfInBounds_toArray, List.set_cons_zero, List.set_cons_succ]
      refine wpAnyH_take (i := 4) (v := ?v523) rfl (by kernel_rfl) (by kernel_rfl) (by kernel_rfl) (fun _ _ _ h => h) (Or.inl ⟨by rfl, ?hy523⟩) (by assumption) ?rest523
      case hy523 => (intro w hSw; (try dsimp only at hSw); go_simp; try with_reducible rfl)
      simp only [Act.put, List.getElem_toArray, List.getElem_cons_zero, List.getElem_cons_succ, List.setIfInBounds_toArray, List.set_cons_zero, List.set_cons_succ]
      refine wpAnyH_take (i := 5) (v := ?v524) rfl (by kernel_rfl) (by kernel_rfl) (by kernel_rfl) (fun _ _ _ h => h) (Or.inl ⟨by rfl, ?hy524⟩) (by assumption) ?rest524
      case hy524 => (intro w hSw; (try dsimp only at hSw); go_simp; try with_reducible rfl)
      simp only [Act.put, List.getElem_toArray, List.getElem_cons_zero, List.getElem_cons_succ, List.setIfInBounds_toArray, List.set_cons_zero, List.set_cons_succ]
      refine wpAnyH_take (i := 6) (v := ?v525) rfl (by kernel_rfl) (by kernel_rfl) (by kernel_rfl) (fun _ _ _ h => h) (Or.inl ⟨by rfl, ?hy525⟩) (by assumption) ?rest525
      case hy525 => (intro w hSw; (try dsimp only at hSw); go_simp; try with_reducible rfl)
      simp only [Act.put, List.getElem_toArray, List.getElem_cons_zero, List.getElem_cons_succ, List.setIfInBounds_toArray, List.set_cons_zero, List.set_cons_succ]
      refine wpAnyH_take (i := 7) (v := ?v526) rfl (by kernel_rfl) (by kernel_rfl) (by kernel_rfl) (fun _ _ _ h => h) (Or.inl ⟨by rfl, ?hy526⟩) (by assumption) ?rest526
      case hy526 => (intro w hSw; (try dsimp only at hSw); go_simp; try with_reducible rfl)
      simp only [Act.put, List.getElem_toArray, List.getElem_cons_zero, List.getElem_cons_succ, List.setIfInBounds_toArray, List.set_cons_zero, List.set_cons_succ]
      refine wpAnyH_ready (rs := [8]) (by kernel_rfl) (by simp) ?_
      refine AllReadyH.cons rfl (fun K hK => ?_) AllReadyH.nil
      go_simp
      go_at_call 59
      refine (C.out _).mono ?_
      rintro e w7 ⟨rfl, hbq⟩
      dsimp only
      refine hK.out _ _ ?_ (fun hHeld => ?_)
      · (try dsimp only)
        exact keepS.out _ _ hHeld hbq
      clear hK K
      try simp only [Act.put, List.getElem_toArray, List.getElem_cons_zero, List.getElem_cons_succ, List.setIfInBounds_toArray, List.set_cons_zero, List.set_cons_succ]
      refine wpAnyH_done (by kernel_rfl) ?_ _
      have hbF := hHeld.1
      have hown3 := hown.below hbF
      have hc3 := hc.map (fun j => hbF.cell (p := ⟨b, o' + i * 8 + j, none⟩) hbl)
      obtain ⟨c0, c1, c2, c3, c4, c5, c6, c7⟩ := hc3
      have y1 := hHeld.2.1
      have l0F := Nat.lt_of_lt_of_le lr0 hbF.size
      have lbF := Nat.lt_of_lt_of_le hbl hbF.size
      clear hc hS1 keepS hHeld hbF C z1 k0 k1 k2
      cases r with
      | true =>
        have hst := hst.out
        rw [if_pos rfl] at hst
        replace hst := Lib.hid hst
        repeat' ((fail_if_success at_builtin); (first | go_skip | go_guarded | go_step))
        refine wp_app1 hown3 Tryd.underlying22 ent_info hby ?_
        intro v wz ho hg
        repeat' ((fail_if_success at_builtin); (first | go_skip | go_guarded | go_step))
        go_roundw
        case rel => exact ⟨i + 1, by omega, by go_num, own_more ho hst.out⟩
        case measure => simp [intOf]; omega
      | false =>
        have hst := hst.out
        rw [if_neg (by simp)] at hst
        replace hst := Lib.hid hst
        repeat' ((fail_if_success at_builtin); (first | go_skip | go_guarded | go_step))
        go_roundw
        case rel => exact ⟨i + 1, by omega, by go_num, by rw [hst.out]; exact hown3⟩
        case measure => simp [intOf]; omega
    · have i1 : ¬ ((i : Int) < (n : Int)) := by omega
      rw [List.take_of_length_le (by have := hn.out; omega)] at hown
      obtain ⟨A2, c2, rfl⟩ := Own.slice_form hown
      have hfin : RetL w (readS o t l) (.returned (.slice A2 (readS o t l).length c2)) wr := ⟨A2, c2, rfl, hown.cap_le, hown.seq, hb0.trans (hown.2.mono hb0.size)⟩
      replace hfin := Lib.hid hfin
      clear hown hb1
      repeat' ((fail_if_success at_builtin); (first | go_skip | go_guarded | go_step))
      go_ret
      exact hfin.out
end Go.Proofs.YtpdlapdnjmoaoaaDoor
