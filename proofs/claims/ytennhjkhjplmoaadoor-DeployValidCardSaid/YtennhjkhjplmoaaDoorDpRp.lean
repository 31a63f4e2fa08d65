/- Deploy: the document's repeated. -/
import Derived.Test.YtennhjkhjplmoaaDoorDpDe
import Derived.Test.YtennhjkhjplmoaaDoorDpX
import Derived.Test.YtennhjkhjplmoaaDoorHk
namespace Go.Proofs.YtennhjkhjplmoaaDoor
open Go.RowKit
theorem nodup_next {l : List Ref} {i : Nat} {x : Ref} (hx : l[i]? = some x) (h : (l.take i).Nodup) : (l.take (i + 1)).Nodup ↔ hasR (l.take i) x = false := by
  rw [List.take_add_one, hx, hasR_not, List.nodup_append]
  constructor
  · rintro ⟨_, _, h3⟩ hm
    exact h3 x hm x (by simp) rfl
  · intro h4
    refine ⟨h, by simp, fun a ha b hb e => ?_⟩
    simp at hb
    rw [e, hb] at ha
    exact h4 ha
theorem nodup_take {l : List Ref} (i : Nat) (h : l.Nodup) : (l.take i).Nodup := h.sublist (List.take_sublist _ _)
theorem dup_true {l : List Ref} (h : ¬ l.Nodup) : dupR l = true := by
  cases hd : dupR l with
  | true => rfl
  | false => exact absurd (dupR_nodup.1 hd) h
set_option maxRecDepth 100000 in
set_option maxHeartbeats 4000000 in
theorem repeated_any (l : List Ref) (A : Option Addr) (n c : Nat) (w : World) (h : Refs w A n c l) :
    Calls Tryd.prog 72 #[.slice A n c] w fun e w' => e = .returned (.bool (dupR l)) ∧ Below w.heap.size w w' := by
  go_enter Tryd.func72, Tryd.ntmps72
  have hn := h.n
  have hl := h.len
  have hnc := h.rd.2.1
  replace hn := Lib.hid hn
  repeat' ((fail_if_success at_builtin); (first | go_skip | go_guarded | go_step))
  go_loopw [3] (fun u3 wr => ∃ i : Nat, i ≤ n ∧ u3 = .int .i64 (i : Int) ∧ Below w.heap.size w wr ∧ (l.take i).Nodup) (fun u3 _ => n - (intOf u3).toNat)
  case atStart => exact ⟨0, by omega, rfl, Below.refl _ _, by simp⟩
  case round =>
    obtain ⟨i, hi, rfl, hb, hnd⟩ := hrel
    have i0 : (0 : Int) ≤ (i : Int) := by omega
    have i2 : IntKind.i64.wrap ((i : Int) + 1) = (i : Int) + 1 := IntWalk.i64_in _ (by have := hn.out; omega)
    by_cases hlt : i < n
    · have i1 : (i : Int) < (n : Int) := by omega
      have i3 : (i : Int) ≤ (n : Int) := by omega
      have i4 : (i : Int) ≤ (c : Int) := by omega
      have i5 : (n : Int) ≤ (c : Int) := by omega
      obtain ⟨x, hx⟩ : ∃ x, l[i]? = some x := ⟨_, List.getElem?_eq_getElem (by have := hn.out; omega)⟩
      have hnx := nodup_next hx hnd
      have hT := h.rd.take (i := i) hi
      obtain ⟨g, o, rfl, hg, hS⟩ := ref_at h.rd hx
      have y0 := (hb.cell (p := ⟨g, o + i * 2, none⟩) hg).trans hS.1
      have y1 := (hb.cell (p := ⟨g, o + i * 2 + 1, none⟩) hg).trans hS.2
      have hgl : g < wr.heap.size := Nat.lt_of_lt_of_le hg hb.size
      obtain ⟨q, hq⟩ : ∃ q, q = posI (fun y => eqR y x) (l.take i) := ⟨_, rfl⟩
      have hqh := posI_has (l.take i) x
      rw [← hq] at hqh
      replace hq := Lib.hid hq
      clear hS hx
      by_cases hq1 : 0 ≤ q
      · have hr : dupR l = true := dup_true (fun hnl => by
          have := hnx.1 (nodup_take _ hnl)
          rw [← hqh, decide_eq_true hq1] at this
          cases this)
        replace hr := Lib.hid hr
        clear hnx hqh hnd
        have hS0 : (Below wr.heap.size wr wr ∧ wr.cell? ⟨g, o + i * 2, none⟩ = some (.string x.run) ∧ wr.cell? ⟨g, o + i * 2 + 1, none⟩ = some (.string x.job)) := ⟨Below.refl _ _, y0, y1⟩
        have keepS : ∀ v1 v2 : World, (Below wr.heap.size wr v1 ∧ v1.cell? ⟨g, o + i * 2, none⟩ = some (.string x.run) ∧ v1.cell? ⟨g, o + i * 2 + 1, none⟩ = some (.string x.job)) → Below v1.heap.size v1 v2 → (Below wr.heap.size wr v2 ∧ v2.cell? ⟨g, o + i * 2, none⟩ = some (.string x.run) ∧ v2.cell? ⟨g, o + i * 2 + 1, none⟩ = some (.string x.job)) := fun v1 v2 h hb => ⟨h.1.trans (hb.mono h.1.size), (hb.cell (p := ⟨g, _, none⟩) (Nat.lt_of_lt_of_le hgl h.1.size)).trans h.2.1, (hb.cell (p := ⟨g, _, none⟩) (Nat.lt_of_lt_of_le hgl h.1.size)).trans h.2.2⟩
        have hS1 : (Below wr.heap.size wr wr.drew ∧ wr.drew.cell? ⟨g, o + i * 2, none⟩ = some (.string x.run) ∧ wr.drew.cell? ⟨g, o + i * 2 + 1, none⟩ = some (.string x.job)) := keepS _ _ hS0 ((Below.refl _ _).drew)
        replace keepS := Lib.hid keepS
        clear hS0
        go_upto_region 4 with (fail)
        refine wp_region_held_drew (S := fun w' => Below wr.heap.size wr w' ∧ w'.cell? ⟨g, o + i * 2, none⟩ = some (.string x.run) ∧ w'.cell? ⟨g, o + i * 2 + 1, none⟩ = some (.string x.job)) (by kernel_rfl) ?_ (fun hHeld => ?_)
        · (try dsimp only)
          exact hS1
        refine tkY 0 (v := ?v54) rfl (.inl ⟨by rfl, ?hy54⟩) ?hr54
        case hy54 => (intro w hSw; (try dsimp only at hSw); go_simp; try with_reducible rfl)
        simp only [Act.put, List.getElem_toArray, List.getElem_cons_zero, List.setIfInBounds_toArray, List.set_cons_zero, List.set_cons_succ]
        refine tkY 1 (v := ?v55) rfl (.inl ⟨by rfl, ?hy55⟩) ?hr55
        case hy55 => (intro w hSw; (try dsimp only at hSw); go_simp; try with_reducible rfl)
        simp only [Act.put, List.getElem_toArray, List.getElem_cons_zero, List.getElem_cons_succ, List.setIfInBounds_toArray, List.set_cons_zero, List.set_cons_succ]
        refine tkY 2 (v := ?v56) rfl (.inl ⟨by rfl, ?hy56⟩) ?hr56
        case hy56 => (intro w hSw; (try dsimp only at hSw); go_simp; try with_reducible rfl)
        simp only [Act.put, List.getElem_toArray, List.getElem_cons_zero, List.getElem_cons_succ, List.setIfInBounds_toArray, List.set_cons_zero, List.set_cons_succ]
        refine tkY 3 (v := ?v57) rfl (.inl ⟨by rfl, ?hy57⟩) ?hr57
        case hy57 => (intro w hSw; (try dsimp only at hSw); go_simp; try with_reducible rfl)
        simp only [Act.put, List.getElem_toArray, List.getElem_cons_zero, List.getElem_cons_succ, List.setIfInBounds_toArray, List.set_cons_zero, List.set_cons_succ]
        refine tkY 4 (v := ?v58) rfl (.inl ⟨by rfl, ?hy58⟩) ?hr58
        case hy58 => (intro w hSw; (try dsimp only at hSw); go_simp; try with_reducible rfl)
        simp only [Act.put, List.getElem_toArray, List.getElem_cons_zero, List.getElem_cons_succ, List.setIfInBounds_toArray, List.set_cons_zero, List.set_cons_succ]
        refine tkY 5 (v := ?v59) rfl (.inl ⟨by rfl, ?hy59⟩) ?hr59
        case hy59 => (intro w hSw; (try dsimp only at hSw); go_simp; try with_reducible rfl)
        simp only [Act.put, List.getElem_toArray, List.getElem_cons_zero, List.getElem_cons_succ, List.setIfInBounds_toArray, List.set_cons_zero, List.set_cons_succ]
        refine tkY 6 (v := ?v60) rfl (.inl ⟨by rfl, ?hy60⟩) ?hr60
        case hy60 => (intro w hSw; (try dsimp only at hSw); go_simp; try with_reducible rfl)
        simp only [Act.put, List.getElem_toArray, List.getElem_cons_zero, List.getElem_cons_succ, List.setIfInBounds_toArray, List.set_cons_zero, List.set_cons_succ]
        refine wpAnyH_ready (rs := [7]) (by kernel_rfl) (by simp) ?_
        refine AllReadyH.cons rfl (fun K hK => ?_) AllReadyH.nil
        go_simp
        go_at_call 46
        have hbh := hb.trans (hHeld.1.mono hb.size)
        have CJ := place_any (l.take i) x (some ⟨g, o, none⟩) i c _ ⟨(hT.below rRef_ok hbh).more rRef_ok (fun _ hp => Nat.lt_of_lt_of_le hp hbh.size), by rw [List.length_take]; omega⟩
        rw [← hq.out] at CJ
        refine CJ.mono ?_
        clear CJ
        rintro e r9 ⟨rfl, hbq⟩
        dsimp only
        refine hK.out _ _ ?_ (fun hHeld => ?_)
        · (try dsimp only)
          exact keepS.out _ _ hHeld hbq
        clear hK K
        try simp only [Act.put, List.getElem_toArray, List.getElem_cons_zero, List.getElem_cons_succ, List.setIfInBounds_toArray, List.set_cons_zero, List.set_cons_succ]
        refine tkY 8 (v := ?v61) rfl (.inl ⟨by rfl, ?hy61⟩) ?hr61
        case hy61 => (intro w hSw; (try dsimp only at hSw); go_simp; try with_reducible rfl)
        simp only [Act.put, List.getElem_toArray, List.getElem_cons_zero, List.getElem_cons_succ, List.setIfInBounds_toArray, List.set_cons_zero, List.set_cons_succ]
        refine wpAnyH_done (by kernel_rfl) ?_ _
        have hbW := hHeld.1
        clear hHeld hS1 keepS
        have hbz := hb.trans (hbW.mono hb.size)
        repeat' ((fail_if_success at_builtin); (first | go_skip | go_guarded | go_step))
        go_ret
        exact ⟨by rw [hr.out]; rfl, hbz⟩
      · have hnd2 := hnx.2 (by rw [← hqh, decide_eq_false hq1])
        replace hnd2 := Lib.hid hnd2
        have hq2 : q < 0 := by omega
        clear hnx hqh hnd
        have hS0 : (Below wr.heap.size wr wr ∧ wr.cell? ⟨g, o + i * 2, none⟩ = some (.string x.run) ∧ wr.cell? ⟨g, o + i * 2 + 1, none⟩ = some (.string x.job)) := ⟨Below.refl _ _, y0, y1⟩
        have keepS : ∀ v1 v2 : World, (Below wr.heap.size wr v1 ∧ v1.cell? ⟨g, o + i * 2, none⟩ = some (.string x.run) ∧ v1.cell? ⟨g, o + i * 2 + 1, none⟩ = some (.string x.job)) → Below v1.heap.size v1 v2 → (Below wr.heap.size wr v2 ∧ v2.cell? ⟨g, o + i * 2, none⟩ = some (.string x.run) ∧ v2.cell? ⟨g, o + i * 2 + 1, none⟩ = some (.string x.job)) := fun v1 v2 h hb => ⟨h.1.trans (hb.mono h.1.size), (hb.cell (p := ⟨g, _, none⟩) (Nat.lt_of_lt_of_le hgl h.1.size)).trans h.2.1, (hb.cell (p := ⟨g, _, none⟩) (Nat.lt_of_lt_of_le hgl h.1.size)).trans h.2.2⟩
        have hS1 : (Below wr.heap.size wr wr.drew ∧ wr.drew.cell? ⟨g, o + i * 2, none⟩ = some (.string x.run) ∧ wr.drew.cell? ⟨g, o + i * 2 + 1, none⟩ = some (.string x.job)) := keepS _ _ hS0 ((Below.refl _ _).drew)
        replace keepS := Lib.hid keepS
        clear hS0
        go_upto_region 4 with (fail)
        refine wp_region_held_drew (S := fun w' => Below wr.heap.size wr w' ∧ w'.cell? ⟨g, o + i * 2, none⟩ = some (.string x.run) ∧ w'.cell? ⟨g, o + i * 2 + 1, none⟩ = some (.string x.job)) (by kernel_rfl) ?_ (fun hHeld => ?_)
        · (try dsimp only)
          exact hS1
        refine tkY 0 (v := ?v62) rfl (.inl ⟨by rfl, ?hy62⟩) ?hr62
        case hy62 => (intro w hSw; (try dsimp only at hSw); go_simp; try with_reducible rfl)
        simp only [Act.put, List.getElem_toArray, List.getElem_cons_zero, List.setIfInBounds_toArray, List.set_cons_zero, List.set_cons_succ]
        refine tkY 1 (v := ?v63) rfl (.inl ⟨by rfl, ?hy63⟩) ?hr63
        case hy63 => (intro w hSw; (try dsimp only at hSw); go_simp; try with_reducible rfl)
        simp only [Act.put, List.getElem_toArray, List.getElem_cons_zero, List.getElem_cons_succ, List.setIfInBounds_toArray, List.set_cons_zero, List.set_cons_succ]
        refine tkY 2 (v := ?v64) rfl (.inl ⟨by rfl, ?hy64⟩) ?hr64
        case hy64 => (intro w hSw; (try dsimp only at hSw); go_simp; try with_reducible rfl)
        simp only [Act.put, List.getElem_toArray, List.getElem_cons_zero, List.getElem_cons_succ, List.setIfInBounds_toArray, List.set_cons_zero, List.set_cons_succ]
        refine tkY 3 (v := ?v65) rfl (.inl ⟨by rfl, ?hy65⟩) ?hr65
        case hy65 => (intro w hSw; (try dsimp only at hSw); go_simp; try with_reducible rfl)
        simp only [Act.put, List.getElem_toArray, List.getElem_cons_zero, List.getElem_cons_succ, List.setIfInBounds_toArray, List.set_cons_zero, List.set_cons_succ]
        refine tkY 4 (v := ?v66) rfl (.inl ⟨by rfl, ?hy66⟩) ?hr66
        case hy66 => (intro w hSw; (try dsimp only at hSw); go_simp; try with_reducible rfl)
        simp only [Act.put, List.getElem_toArray, List.getElem_cons_zero, List.getElem_cons_succ, List.setIfInBounds_toArray, List.set_cons_zero, List.set_cons_succ]
        refine tkY 5 (v := ?v67) rfl (.inl ⟨by rfl, ?hy67⟩) ?hr67
        case hy67 => (intro w hSw; (try dsimp only at hSw); go_simp; try with_reducible rfl)
        simp only [Act.put, List.getElem_toArray, List.getElem_cons_zero, List.getElem_cons_succ, List.setIfInBounds_toArray, List.set_cons_zero, List.set_cons_succ]
        refine tkY 6 (v := ?v68) rfl (.inl ⟨by rfl, ?hy68⟩) ?hr68
        case hy68 => (intro w hSw; (try dsimp only at hSw); go_simp; try with_reducible rfl)
        simp only [Act.put, List.getElem_toArray, List.getElem_cons_zero, List.getElem_cons_succ, List.setIfInBounds_toArray, List.set_cons_zero, List.set_cons_succ]
        refine wpAnyH_ready (rs := [7]) (by kernel_rfl) (by simp) ?_
        refine AllReadyH.cons rfl (fun K hK => ?_) AllReadyH.nil
        go_simp
        go_at_call 46
        have hbh := hb.trans (hHeld.1.mono hb.size)
        have CJ := place_any (l.take i) x (some ⟨g, o, none⟩) i c _ ⟨(hT.below rRef_ok hbh).more rRef_ok (fun _ hp => Nat.lt_of_lt_of_le hp hbh.size), by rw [List.length_take]; omega⟩
        rw [← hq.out] at CJ
        refine CJ.mono ?_
        clear CJ
        rintro e r9 ⟨rfl, hbq⟩
        dsimp only
        refine hK.out _ _ ?_ (fun hHeld => ?_)
        · (try dsimp only)
          exact keepS.out _ _ hHeld hbq
        clear hK K
        try simp only [Act.put, List.getElem_toArray, List.getElem_cons_zero, List.getElem_cons_succ, List.setIfInBounds_toArray, List.set_cons_zero, List.set_cons_succ]
        refine tkY 8 (v := ?v69) rfl (.inl ⟨by rfl, ?hy69⟩) ?hr69
        case hy69 => (intro w hSw; (try dsimp only at hSw); go_simp; try with_reducible rfl)
        simp only [Act.put, List.getElem_toArray, List.getElem_cons_zero, List.getElem_cons_succ, List.setIfInBounds_toArray, List.set_cons_zero, List.set_cons_succ]
        refine wpAnyH_done (by kernel_rfl) ?_ _
        have hbW := hHeld.1
        clear hHeld hS1 keepS
        have hbz := hb.trans (hbW.mono hb.size)
        repeat' ((fail_if_success at_builtin); (first | go_skip | go_guarded | go_step))
        go_roundw
        case rel => exact ⟨i + 1, by omega, by first | rfl | go_num, hbz, hnd2.out⟩
        case measure => (try go_num); (try simp [intOf]); (try omega)
    · have i1 : ¬ (i : Int) < (n : Int) := by omega
      have hr : dupR l = false := by
        rw [List.take_of_length_le (by have := hn.out; omega)] at hnd
        exact dupR_nodup.2 hnd
      replace hr := Lib.hid hr
      repeat' ((fail_if_success at_builtin); (first | go_skip | go_guarded | go_step))
      go_ret
      exact ⟨by rw [hr.out]; rfl, hb⟩
theorem envF_at {l : List Env} {i : Nat} {x : Env} (hx : l[i]? = some x) : envF (l.take i) x = if nameS x.name.data.toList = false then 1 else if ordF (l.take i) x = true then 22 else if holdOk x = false then 1 else if dupR (refsL (l.take (i + 1))) = true then 7 else histF x.history := by
  unfold envF
  rw [show l.take i ++ [x] = l.take (i + 1) from by rw [List.take_add_one, hx]; rfl]
theorem ord_zero (l : List Env) (x : Env) : ordF (l.take 0) x = false := rfl
theorem ord_succ {l : List Env} {j : Nat} {x y : Env} (hy : l[j]? = some y) : ordF (l.take (j + 1)) x = decide (0 ≤ cmpN y.name.data.toList x.name.data.toList) := by
  unfold ordF
  rw [List.take_add_one, hy]
  simp
theorem holdOk_of {x : Env} : holdOk x = ((eqR x.holder zR || properR x.holder) && x.waiting.all properR) := rfl
end Go.Proofs.YtennhjkhjplmoaaDoor
