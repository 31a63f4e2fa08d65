/- Cache: short, few. -/
import Derived.Test.YtpdlapdnjmoaoaaDoorCaF
namespace Go.Proofs.YtpdlapdnjmoaoaaDoor
open Go.RowKit
def shrtE (s : Scp) (k : ByteArray) : Bool := decide (s.prj.size ≤ 600) && (decide (s.ref.size ≤ 600) && decide (k.size ≤ 600))
def fewE (l : List Ent) : Bool := decide (l.length ≤ 25) && l.all fun x => shrtE x.sc x.key
/-- texts of any length -/
structure Ent.text (x : Ent) : Prop where
  p : x.sc.prj.size ≤ 9223372036854775807
  r : x.sc.ref.size ≤ 9223372036854775807
  k : x.key.size ≤ 9223372036854775807
/-- numbers -/
structure Ent.nums (x : Ent) : Prop where
  t : I64 x.sc.trust
  z : I64 x.size
  c : I64 x.created
  u : I64 x.used
  d : 0 ≤ x.dig ∧ x.dig ≤ 18446744073709551615
theorem shrt_of {s : Scp} {k : ByteArray} (h : shrtE s k = true) : s.prj.size ≤ 600 ∧ s.ref.size ≤ 600 ∧ k.size ≤ 600 := by
  unfold shrtE at h
  simpa using h
theorem few_len {l : List Ent} (h : fewE l = true) : l.length ≤ 25 := by
  unfold fewE at h
  rw [Bool.and_eq_true] at h
  exact of_decide_eq_true h.1
theorem few_all {l : List Ent} (h : fewE l = true) : ∀ x ∈ l, shrtE x.sc x.key = true := by
  unfold fewE at h
  rw [Bool.and_eq_true] at h
  exact List.all_eq_true.1 h.2
set_option maxRecDepth 100000 in
set_option maxHeartbeats 1000000 in
theorem short_any (s : Scp) (k : ByteArray) (w : World) (h1 : s.prj.size ≤ 9223372036854775807) (h2 : s.ref.size ≤ 9223372036854775807) (h3 : k.size ≤ 9223372036854775807) :
    Calls Tryd.prog 19 #[.agg (pcells s), .string k] w fun e w' => e = .returned (.bool (shrtE s k)) ∧ Below w.heap.size w w' := by
  have hb1 := (Below.refl w.heap.size w).alloc (Nat.le_refl _) (.cells (pcells s) 38)
  by_cases g1 : s.prj.size ≤ 600
  · have g1' : (s.prj.size : Int) ≤ 600 := by omega
    by_cases g2 : s.ref.size ≤ 600
    · have g2' : (s.ref.size : Int) ≤ 600 := by omega
      by_cases g3 : k.size ≤ 600
      · have g3' : (k.size : Int) ≤ 600 := by omega
        have hv : shrtE s k = true := by unfold shrtE; rw [decide_eq_true g1, decide_eq_true g2, decide_eq_true g3]; rfl
        have hv := Lib.hid hv
        go_enter Tryd.func19, Tryd.ntmps19
        repeat' ((fail_if_success at_builtin); (first | go_skip | go_guarded | go_step))
        go_ret
        exact ⟨ret_b hv.out.symm, hb1⟩
      · have g3' : ¬ ((k.size : Int) ≤ 600) := by omega
        have hv : shrtE s k = false := by unfold shrtE; rw [decide_eq_true g1, decide_eq_true g2, decide_eq_false g3]; rfl
        have hv := Lib.hid hv
        go_enter Tryd.func19, Tryd.ntmps19
        repeat' ((fail_if_success at_builtin); (first | go_skip | go_guarded | go_step))
        go_ret
        exact ⟨ret_b hv.out.symm, hb1⟩
    · have g2' : ¬ ((s.ref.size : Int) ≤ 600) := by omega
      have hv : shrtE s k = false := by unfold shrtE; rw [decide_eq_true g1, decide_eq_false g2]; rfl
      have hv := Lib.hid hv
      go_enter Tryd.func19, Tryd.ntmps19
      repeat' ((fail_if_success at_builtin); (first | go_skip | go_guarded | go_step))
      go_ret
      exact ⟨ret_b hv.out.symm, hb1⟩
  · have g1' : ¬ ((s.prj.size : Int) ≤ 600) := by omega
    have hv : shrtE s k = false := by unfold shrtE; rw [decide_eq_false g1]; rfl
    have hv := Lib.hid hv
    go_enter Tryd.func19, Tryd.ntmps19
    repeat' ((fail_if_success at_builtin); (first | go_skip | go_guarded | go_step))
    go_ret
    exact ⟨ret_b hv.out.symm, hb1⟩
set_option maxRecDepth 100000 in
set_option maxHeartbeats 4000000 in
theorem few_any (l : List Ent) (A : Option Addr) (n c : Nat) (w : World) (hn : n = l.length) (hs : Seq w w.heap.size 8 A n (entsC l)) (hl : n ≤ 9223372036854775807) (hm : ∀ x ∈ l, x.text) :
    Calls Tryd.prog 10 #[.slice A n c] w fun e w' => e = .returned (.bool (fewE l)) ∧ Below w.heap.size w w' := by
  replace hm := Lib.hid hm
  replace hs := Lib.hid hs
  replace hn := Lib.hid hn
  go_enter Tryd.func10, Tryd.ntmps10
  repeat' ((fail_if_success at_builtin); (first | go_skip | go_guarded | go_step))
  go_loopw [3] (fun u3 wr => ∃ i : Nat, i ≤ n ∧ i ≤ 25 ∧ u3 = .int .i64 (i : Int) ∧ Below w.heap.size w wr ∧ ∀ (j : Nat) x, j < i → l[j]? = some x → shrtE x.sc x.key = true) (fun u3 _ => n - (intOf u3).toNat)
  case atStart => exact ⟨0, by omega, by omega, rfl, Below.refl _ _, fun j p h => by omega⟩
  case round =>
    obtain ⟨i, hi, hi10, rfl, hb, hall⟩ := hrel
    replace hall := Lib.hid hall
    by_cases hlt : i < n
    · have i1 : (i : Int) < (n : Int) := by omega
      have i0 : (0 : Int) ≤ (i : Int) := by omega
      by_cases h10 : i < 25
      · have i2 : (i : Int) < 25 := by omega
        have i3 : IntKind.i64.wrap ((i : Int) + 1) = (i : Int) + 1 := IntWalk.i64_in _ (by omega)
        have hlt2 : i < l.length := by have := hn.out; omega
        have hx : l[i]? = some l[i] := List.getElem?_eq_getElem hlt2
        obtain ⟨b, o, rfl, hbB, hc⟩ := ent_at hs.out hn.out hx
        obtain ⟨c0, c1, c2, c3, c4, c5, c6, c7⟩ := hc.map (fun j => hb.cell (p := ⟨b, o + i * 8 + j, none⟩) hbB)
        have hps := hm.out _ (List.getElem_mem hlt2)
        have hxm := List.getElem_mem hlt2
        have hx := Lib.hid hx
        generalize hp : l[i] = x at *
        have hlb : b < wr.heap.size := Nat.lt_of_lt_of_le hbB hb.size
        have CS := fun w' => short_any x.sc x.key w' hps.p hps.r hps.k
        have hsh : shrtE x.sc x.key = shrtE x.sc x.key := rfl
        generalize hsv : shrtE x.sc x.key = sv at CS hsh
        replace hsv := Lib.hid hsv
        replace CS := Lib.hid CS
        replace hxm := Lib.hid hxm
        have hS1 : Below wr.heap.size wr wr.drew ∧ wr.drew.cell? ⟨b, o + i * 8, none⟩ = some (.string x.sc.prj) ∧ wr.drew.cell? ⟨b, o + i * 8 + 1, none⟩ = some (.int .i64 x.sc.trust) ∧ wr.drew.cell? ⟨b, o + i * 8 + 2, none⟩ = some (.string x.sc.ref) ∧ wr.drew.cell? ⟨b, o + i * 8 + 3, none⟩ = some (.string x.key) := ⟨(Below.refl _ _).drew, c0, c1, c2, c3⟩
        have keepS : ∀ w' w'', (Below wr.heap.size wr w' ∧ w'.cell? ⟨b, o + i * 8, none⟩ = some (.string x.sc.prj) ∧ w'.cell? ⟨b, o + i * 8 + 1, none⟩ = some (.int .i64 x.sc.trust) ∧ w'.cell? ⟨b, o + i * 8 + 2, none⟩ = some (.string x.sc.ref) ∧ w'.cell? ⟨b, o + i * 8 + 3, none⟩ = some (.string x.key)) → Below w'.heap.size w' w'' → (Below wr.heap.size wr w'' ∧ w''.cell? ⟨b, o + i * 8, none⟩ = some (.string x.sc.prj) ∧ w''.cell? ⟨b, o + i * 8 + 1, none⟩ = some (.int .i64 x.sc.trust) ∧ w''.cell? ⟨b, o + i * 8 + 2, none⟩ = some (.string x.sc.ref) ∧ w''.cell? ⟨b, o + i * 8 + 3, none⟩ = some (.string x.key)) := fun w' w'' h hc => ⟨h.1.trans (hc.mono h.1.size), (hc.cell (p := ⟨b, o + i * 8, none⟩) (Nat.lt_of_lt_of_le hlb h.1.size)).trans h.2.1, (hc.cell (p := ⟨b, o + i * 8 + 1, none⟩) (Nat.lt_of_lt_of_le hlb h.1.size)).trans h.2.2.1, (hc.cell (p := ⟨b, o + i * 8 + 2, none⟩) (Nat.lt_of_lt_of_le hlb h.1.size)).trans h.2.2.2.1, (hc.cell (p := ⟨b, o + i * 8 + 3, none⟩) (Nat.lt_of_lt_of_le hlb h.1.size)).trans h.2.2.2.2⟩
        clear hc hps hsh
        replace keepS := Lib.hid keepS
        cases sv with
        | false =>
          repeat' ((fail_if_success at_builtin); (first | go_skip | go_guarded | go_step))
          refine wp_region_held_drew (S := fun w' => Below wr.heap.size wr w' ∧ w'.cell? ⟨b, o + i * 8, none⟩ = some (.string x.sc.prj) ∧ w'.cell? ⟨b, o + i * 8 + 1, none⟩ = some (.int .i64 x.sc.trust) ∧ w'.cell? ⟨b, o + i * 8 + 2, none⟩ = some (.string x.sc.ref) ∧ w'.cell? ⟨b, o + i * 8 + 3, none⟩ = some (.string x.key)) (by kernel_rfl) ?_ (fun hHeld => ?_)
          · (try dsimp only)
            exact hS1
          refine wpAnyH_take (i := 0) (v := ?v1473) rfl (by kernel_rfl) (by kernel_rfl) (by kernel_rfl) (fun _ _ _ h => h) (Or.inl ⟨by rfl, ?hy1473⟩) (by assumption) ?rest1473
          case hy1473 => (intro w hSw; (try dsimp only at hSw); go_simp; try with_reducible rfl)
          simp only [Act.put, List.getElem_toArray, List.getElem_cons_zero, List.setIfInBounds_toArray, List.set_cons_zero, List.set_cons_succ]
          refine wpAnyH_take (i := 1) (v := ?v1474) rfl (by kernel_rfl) (by kernel_rfl) (by kernel_rfl) (fun _ _ _ h => h) (Or.inl ⟨by rfl, ?hy1474⟩) (by assumption) ?rest1474
          case hy1474 => (intro w hSw; (try dsimp only at hSw); go_simp; try with_reducible rfl)
          simp only [Act.put, List.getElem_toArray, List.getElem_cons_zero, List.getElem_cons_succ, List.setIfInBounds_toArray, List.set_cons_zero, List.set_cons_succ]
          refine wpAnyH_take (i := 2) (v := ?v1475) rfl (by kernel_rfl) (by kernel_rfl) (by kernel_rfl) (fun _ _ _ h => h) (Or.inl ⟨by rfl, ?hy1475⟩) (by assumption) ?rest1475
          case hy1475 => (intro w hSw; (try dsimp only at hSw); go_simp; try with_reducible rfl)
          simp only [Act.put, List.getElem_toArray, List.getElem_cons_zero, List.getElem_cons_succ, List.setIfInBounds_toArray, List.set_cons_zero, List.set_cons_succ]
          refine wpAnyH_take (i := 3) (v := ?v1476) rfl (by kernel_rfl) (by kernel_rfl) (by kernel_rfl) (fun _ _ _ h => h) (Or.inl ⟨by rfl, ?hy1476⟩) (by assumption) ?rest1476
          case hy1476 => (intro w hSw; (try dsimp only at hSw); go_simp; try with_reducible rfl)
          simp only [Act.put, List.getElem_toArray, List.getElem_cons_zero, List.getElem_cons_succ, List.setIfInBounds_toArray, List.set_cons_zero, List.set_cons_succ]
          refine wpAnyH_take (i := 4) (v := ?v1477) rfl (by kernel_rfl) (by kernel_rfl) (by kernel_rfl) (fun _ _ _ h => h) (Or.inl ⟨by rfl, ?hy1477⟩) (by assumption) ?rest1477
          case hy1477 => (intro w hSw; (try dsimp only at hSw); go_simp; try with_reducible rfl)
          simp only [Act.put, List.getElem_toArray, List.getElem_cons_zero, List.getElem_cons_succ, List.setIfInBounds_toArray, List.set_cons_zero, List.set_cons_succ]
          refine wpAnyH_take (i := 5) (v := ?v1478) rfl (by kernel_rfl) (by kernel_rfl) (by kernel_rfl) (fun _ _ _ h => h) (Or.inl ⟨by rfl, ?hy1478⟩) (by assumption) ?rest1478
          case hy1478 => (intro w hSw; (try dsimp only at hSw); go_simp; try with_reducible rfl)
          simp only [Act.put, List.getElem_toArray, List.getElem_cons_zero, List.getElem_cons_succ, List.setIfInBounds_toArray, List.set_cons_zero, List.set_cons_succ]
          refine wpAnyH_take (i := 6) (v := ?v1479) rfl (by kernel_rfl) (by kernel_rfl) (by kernel_rfl) (fun _ _ _ h => h) (Or.inl ⟨by rfl, ?hy1479⟩) (by assumption) ?rest1479
          case hy1479 => (intro w hSw; (try dsimp only at hSw); go_simp; try with_reducible rfl)
          simp only [Act.put, List.getElem_toArray, List.getElem_cons_zero, List.getElem_cons_succ, List.setIfInBounds_toArray, List.set_cons_zero, List.set_cons_succ]
          refine wpAnyH_take (i := 7) (v := ?v1480) rfl (by kernel_rfl) (by kernel_rfl) (by kernel_rfl) (fun _ _ _ h => h) (Or.inl ⟨by rfl, ?hy1480⟩) (by assumption) ?rest1480
          case hy1480 => (intro w hSw; (try dsimp only at hSw); go_simp; try with_reducible rfl)
          simp only [Act.put, List.getElem_toArray, List.getElem_cons_zero, List.getElem_cons_succ, List.setIfInBounds_toArray, List.set_cons_zero, List.set_cons_succ]
          refine wpAnyH_take (i := 8) (v := ?v1481) rfl (by kernel_rfl) (by kernel_rfl) (by kernel_rfl) (fun _ _ _ h => h) (Or.inl ⟨by rfl, ?hy1481⟩) (by assumption) ?rest1481
          case hy1481 => (intro w hSw; (try dsimp only at hSw); go_simp; try with_reducible rfl)
          simp only [Act.put, List.getElem_toArray, List.getElem_cons_zero, List.getElem_cons_succ, List.setIfInBounds_toArray, List.set_cons_zero, List.set_cons_succ]
          refine wpAnyH_take (i := 9) (v := ?v1482) rfl (by kernel_rfl) (by kernel_rfl) (by kernel_rfl) (fun _ _ _ h => h) (Or.inl ⟨by rfl, ?hy1482⟩) (by assumption) ?rest1482
          case hy1482 => (intro w hSw; (try dsimp only at hSw); go_simp; try with_reducible rfl)
          simp only [Act.put, List.getElem_toArray, List.getElem_cons_zero, List.getElem_cons_succ, List.setIfInBounds_toArray, List.set_cons_zero, List.set_cons_succ]
          refine wpAnyH_ready (rs := [10]) (by kernel_rfl) (by simp) ?_
          refine AllReadyH.cons rfl (fun K hK => ?_) AllReadyH.nil
          go_simp
          go_at_call 19
          refine (CS.out _).mono ?_
          rintro e wq ⟨rfl, hbq⟩
          dsimp only
          refine hK.out _ _ ?_ (fun hHeld => ?_)
          · (try dsimp only)
            exact keepS.out _ _ hHeld hbq
          clear hK K
          try simp only [Act.put, List.getElem_toArray, List.getElem_cons_zero, List.getElem_cons_succ, List.setIfInBounds_toArray, List.set_cons_zero, List.set_cons_succ]
          refine wpAnyH_take (i := 11) (v := ?v1483) rfl (by kernel_rfl) (by kernel_rfl) (by kernel_rfl) (fun _ _ _ h => h) (Or.inl ⟨by rfl, ?hy1483⟩) (by assumption) ?rest1483
          case hy1483 => (intro w hSw; (try dsimp only at hSw); go_simp; try with_reducible rfl)
          simp only [Act.put, List.getElem_toArray, List.getElem_cons_zero, List.getElem_cons_succ, List.setIfInBounds_toArray, List.set_cons_zero, List.set_cons_succ]
          refine wpAnyH_done (by kernel_rfl) ?_ _
          have hb9 := hb.trans (hHeld.1.mono hb.size)
          repeat' ((fail_if_success at_builtin); (first | go_skip | go_guarded | go_step))
          go_ret
          refine ⟨ret_b ?_, hb9⟩
          unfold fewE
          rw [show (l.all fun x => shrtE x.sc x.key) = false from ?_, Bool.and_false]
          rw [List.all_eq_false]
          exact ⟨x, hxm.out, by rw [hsv.out]; simp⟩
        | true =>
          repeat' ((fail_if_success at_builtin); (first | go_skip | go_guarded | go_step))
          refine wp_region_held_drew (S := fun w' => Below wr.heap.size wr w' ∧ w'.cell? ⟨b, o + i * 8, none⟩ = some (.string x.sc.prj) ∧ w'.cell? ⟨b, o + i * 8 + 1, none⟩ = some (.int .i64 x.sc.trust) ∧ w'.cell? ⟨b, o + i * 8 + 2, none⟩ = some (.string x.sc.ref) ∧ w'.cell? ⟨b, o + i * 8 + 3, none⟩ = some (.string x.key)) (by kernel_rfl) ?_ (fun hHeld => ?_)
          · (try dsimp only)
            exact hS1
          refine wpAnyH_take (i := 0) (v := ?v2484) rfl (by kernel_rfl) (by kernel_rfl) (by kernel_rfl) (fun _ _ _ h => h) (Or.inl ⟨by rfl, ?hy2484⟩) (by assumption) ?rest2484
          case hy2484 => (intro w hSw; (try dsimp only at hSw); go_simp; try with_reducible rfl)
          simp only [Act.put, List.getElem_toArray, List.getElem_cons_zero, List.setIfInBounds_toArray, List.set_cons_zero, List.set_cons_succ]
          refine wpAnyH_take (i := 1) (v := ?v2485) rfl (by kernel_rfl) (by kernel_rfl) (by kernel_rfl) (fun _ _ _ h => h) (Or.inl ⟨by rfl, ?hy2485⟩) (by assumption) ?rest2485
          case hy2485 => (intro w hSw; (try dsimp only at hSw); go_simp; try with_reducible rfl)
          simp only [Act.put, List.getElem_toArray, List.getElem_cons_zero, List.getElem_cons_succ, List.setIfInBounds_toArray, List.set_cons_zero, List.set_cons_succ]
          refine wpAnyH_take (i := 2) (v := ?v2486) rfl (by kernel_rfl) (by kernel_rfl) (by kernel_rfl) (fun _ _ _ h => h) (Or.inl ⟨by rfl, ?hy2486⟩) (by assumption) ?rest2486
          case hy2486 => (intro w hSw; (try dsimp only at hSw); go_simp; try with_reducible rfl)
          simp only [Act.put, List.getElem_toArray, List.getElem_cons_zero, List.getElem_cons_succ, List.setIfInBounds_toArray, List.set_cons_zero, List.set_cons_succ]
          refine wpAnyH_take (i := 3) (v := ?v2487) rfl (by kernel_rfl) (by kernel_rfl) (by kernel_rfl) (fun _ _ _ h => h) (Or.inl ⟨by rfl, ?hy2487⟩) (by assumption) ?rest2487
          case hy2487 => (intro w hSw; (try dsimp only at hSw); go_simp; try with_reducible rfl)
          simp only [Act.put, List.getElem_toArray, List.getElem_cons_zero, List.getElem_cons_succ, List.setIfInBounds_toArray, List.set_cons_zero, List.set_cons_succ]
          refine wpAnyH_take (i := 4) (v := ?v2488) rfl (by kernel_rfl) (by kernel_rfl) (by kernel_rfl) (fun _ _ _ h => h) (Or.inl ⟨by rfl, ?hy2488⟩) (by assumption) ?rest2488
          case hy2488 => (intro w hSw; (try dsimp only at hSw); go_simp; try with_reducible rfl)
          simp only [Act.put, List.getElem_toArray, List.getElem_cons_zero, List.getElem_cons_succ, List.setIfInBounds_toArray, List.set_cons_zero, List.set_cons_succ]
          refine wpAnyH_take (i := 5) (v := ?v2489) rfl (by kernel_rfl) (by kernel_rfl) (by kernel_rfl) (fun _ _ _ h => h) (Or.inl ⟨by rfl, ?hy2489⟩) (by assumption) ?rest2489
          case hy2489 => (intro w hSw; (try dsimp only at hSw); go_simp; try with_reducible rfl)
          simp only [Act.put, List.getElem_toArray, List.getElem_cons_zero, List.getElem_cons_succ, List.setIfInBounds_toArray, List.set_cons_zero, List.set_cons_succ]
          refine wpAnyH_take (i := 6) (v := ?v2490) rfl (by kernel_rfl) (by kernel_rfl) (by kernel_rfl) (fun _ _ _ h => h) (Or.inl ⟨by rfl, ?hy2490⟩) (by assumption) ?rest2490
          case hy2490 => (intro w hSw; (try dsimp only at hSw); go_simp; try with_reducible rfl)
          simp only [Act.put, List.getElem_toArray, List.getElem_cons_zero, List.getElem_cons_succ, List.setIfInBounds_toArray, List.set_cons_zero, List.set_cons_succ]
          refine wpAnyH_take (i := 7) (v := ?v2491) rfl (by kernel_rfl) (by kernel_rfl) (by kernel_rfl) (fun _ _ _ h => h) (Or.inl ⟨by rfl, ?hy2491⟩) (by assumption) ?rest2491
          case hy2491 => (intro w hSw; (try dsimp only at hSw); go_simp; try with_reducible rfl)
          simp only [Act.put, List.getElem_toArray, List.getElem_cons_zero, List.getElem_cons_succ, List.setIfInBounds_toArray, List.set_cons_zero, List.set_cons_succ]
          refine wpAnyH_take (i := 8) (v := ?v2492) rfl (by kernel_rfl) (by kernel_rfl) (by kernel_rfl) (fun _ _ _ h => h) (Or.inl ⟨by rfl, ?hy2492⟩) (by assumption) ?rest2492
          case hy2492 => (intro w hSw; (try dsimp only at hSw); go_simp; try with_reducible rfl)
          simp only [Act.put, List.getElem_toArray, List.getElem_cons_zero, List.getElem_cons_succ, List.setIfInBounds_toArray, List.set_cons_zero, List.set_cons_succ]
          refine wpAnyH_take (i := 9) (v := ?v2493) rfl (by kernel_rfl) (by kernel_rfl) (by kernel_rfl) (fun _ _ _ h => h) (Or.inl ⟨by rfl, ?hy2493⟩) (by assumption) ?rest2493
          case hy2493 => (intro w hSw; (try dsimp only at hSw); go_simp; try with_reducible rfl)
          simp only [Act.put, List.getElem_toArray, List.getElem_cons_zero, List.getElem_cons_succ, List.setIfInBounds_toArray, List.set_cons_zero, List.set_cons_succ]
          refine wpAnyH_ready (rs := [10]) (by kernel_rfl) (by simp) ?_
          refine AllReadyH.cons rfl (fun K hK => ?_) AllReadyH.nil
          go_simp
          go_at_call 19
          refine (CS.out _).mono ?_
          rintro e wq ⟨rfl, hbq⟩
          dsimp only
          refine hK.out _ _ ?_ (fun hHeld => ?_)
          · (try dsimp only)
            exact keepS.out _ _ hHeld hbq
          clear hK K
          try simp only [Act.put, List.getElem_toArray, List.getElem_cons_zero, List.getElem_cons_succ, List.setIfInBounds_toArray, List.set_cons_zero, List.set_cons_succ]
          refine wpAnyH_take (i := 11) (v := ?v2494) rfl (by kernel_rfl) (by kernel_rfl) (by kernel_rfl) (fun _ _ _ h => h) (Or.inl ⟨by rfl, ?hy2494⟩) (by assumption) ?rest2494
          case hy2494 => (intro w hSw; (try dsimp only at hSw); go_simp; try with_reducible rfl)
          simp only [Act.put, List.getElem_toArray, List.getElem_cons_zero, List.getElem_cons_succ, List.setIfInBounds_toArray, List.set_cons_zero, List.set_cons_succ]
          refine wpAnyH_done (by kernel_rfl) ?_ _
          have hb9 := hb.trans (hHeld.1.mono hb.size)
          repeat' ((fail_if_success at_builtin); (first | go_skip | go_guarded | go_step))
          go_roundw
          case rel =>
            refine ⟨i + 1, by omega, by omega, by go_num, hb9, fun j q hj hq => ?_⟩
            by_cases hji : j = i
            · subst hji
              have := hx.out
              rw [hq] at this
              injection this with this
              rw [this]
              exact hsv.out
            · exact hall.out j q (by omega) hq
          case measure => simp [intOf]; omega
      · have i2 : ¬ (i : Int) < 25 := by omega
        have i3 : ¬ (n : Int) ≤ 25 := by omega
        repeat' ((fail_if_success at_builtin); (first | go_skip | go_guarded | go_step))
        go_ret
        refine ⟨ret_b ?_, hb⟩
        unfold fewE
        rw [decide_eq_false (by have := hn.out; omega)]
        rfl
    · have i1 : ¬ (i : Int) < (n : Int) := by omega
      have i3 : (n : Int) ≤ 25 := by omega
      repeat' ((fail_if_success at_builtin); (first | go_skip | go_guarded | go_step))
      go_ret
      refine ⟨ret_b ?_, hb⟩
      unfold fewE
      rw [decide_eq_true (by have := hn.out; omega), Bool.true_and]
      symm
      rw [List.all_eq_true]
      intro x hx
      obtain ⟨j, hj, rfl⟩ := List.mem_iff_getElem.1 hx
      exact hall.out j _ (by have := hn.out; omega) (List.getElem?_eq_getElem hj)
end Go.Proofs.YtpdlapdnjmoaoaaDoor
