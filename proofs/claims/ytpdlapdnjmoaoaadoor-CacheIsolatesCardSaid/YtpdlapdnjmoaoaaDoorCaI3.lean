/- Cache: the law's best. -/
import Derived.Test.YtpdlapdnjmoaoaaDoorCaI2
namespace Go.Proofs.YtpdlapdnjmoaoaaDoor
open Go.RowKit
set_option maxRecDepth 100000 in
set_option maxHeartbeats 8000000 in
theorem best_law (l : List Ent) (A : Option Addr) (n c : Nat) (y : Ent) (k : ByteArray) (ps : List ByteArray) (A2 : Option Addr) (m c2 : Nat) (w : World) (hn : n = l.length) (hs : Seq w w.heap.size 8 A n (entsC l)) (hl : n ≤ 1000000000) (hm : m = ps.length) (hs2 : Seq w w.heap.size 1 A2 m (ps.map Value.string)) (hl2 : m ≤ 1000000000) (hc2 : m ≤ c2) :
    Calls Tryd.prog 34 #[.slice A n c, .agg (ent8 y), .string k, .slice A2 m c2] w fun e w' => e = .returned (.bool (bestLaw l y k ps)) ∧ Below w.heap.size w w' := by
  obtain ⟨w1, hw1⟩ : ∃ w1 : World, w1 = w.alloc (.cells (ent8 y) 42) := ⟨_, rfl⟩
  have hb0 : Below w.heap.size w w1 := by rw [hw1]; exact (Below.refl w.heap.size w).alloc (Nat.le_refl _) _
  have zz : w.heap.size < w1.heap.size := by rw [hw1]; simp
  have zY : CellsE w1 w.heap.size 0 y := by rw [hw1]; exact ⟨by simp [go_sem], by simp [go_sem], by simp [go_sem], by simp [go_sem], by simp [go_sem], by simp [go_sem], by simp [go_sem], by simp [go_sem]⟩
  have CP := fun (w' : World) (hq : Below w.heap.size w w') (bq oq j : Nat) (q : ByteArray) (c3 : Nat) (hbq : bq < w.heap.size) (hcq : w.cell? ⟨bq, oq + j, none⟩ = some (.string q)) => possible_any l A n c k [q] (some ⟨bq, oq + j, none⟩) 1 c3 w' hn ((hs.below hq).more hq.size) hl rfl ⟨rfl, fun _ => ⟨bq, oq + j, rfl, Nat.lt_of_lt_of_le hbq hq.size, fun t u hu => by
    have ht : t = 0 := by have := (List.getElem?_eq_some_iff.1 hu).1; simp at this; omega
    subst ht
    simp at hu
    subst hu
    exact (hq.cell (p := ⟨bq, oq + j, none⟩) hbq).trans hcq⟩⟩ (by omega)
  have hst : bestLaw l y k ps = ((l.drop 0).all (fun x => !(keyP k x && (!keyP k y || decide (x.sc.trust < y.sc.trust)))) && bestP l y k ps) := rfl
  generalize bestLaw l y k ps = fin at *
  have hps : bestP l y k ps = bestP l y k (ps.drop 0) := rfl
  replace hst := Lib.hid hst
  replace hps := Lib.hid hps
  replace hs := Lib.hid hs
  replace hs2 := Lib.hid hs2
  replace hn := Lib.hid hn
  replace hm := Lib.hid hm
  replace CP := Lib.hid CP
  replace hw1 := Lib.hid hw1
  go_enter Tryd.func34, Tryd.ntmps34
  repeat' ((fail_if_success at_builtin); (first | go_skip | go_guarded | go_step))
  rw [← hw1.out]
  go_loopw [9] (fun uI wr => ∃ i : Nat, i ≤ n ∧ uI = .int .i64 (i : Int) ∧ Below w1.heap.size w1 wr ∧ fin = ((l.drop i).all (fun x => !(keyP k x && (!keyP k y || decide (x.sc.trust < y.sc.trust)))) && bestP l y k ps)) (fun uI _ => n - (intOf uI).toNat)
  case atStart => exact ⟨0, by omega, rfl, Below.refl _ _, hst.out⟩
  case round =>
    clear hst
    obtain ⟨i, hi, rfl, hb1, hu⟩ := hrel
    have hY := zY.map (fun t => hb1.cell (p := ⟨w.heap.size, 0 + t, none⟩) zz)
    have hsz : w.heap.size < wr.heap.size := Nat.lt_of_lt_of_le zz hb1.size
    have hb := hb0.trans (hb1.mono hb0.size)
    have b1 := hY.c1
    have b3 := hY.c3
    have b6 := hY.c6
    simp only [Nat.zero_add] at b1 b3 b6
    have bz : w.heap.size < wr.heap.size := hsz
    by_cases hlt : i < n
    · have hlt2 : i < l.length := by have := hn.out; omega
      have hx : l[i]? = some l[i] := List.getElem?_eq_getElem hlt2
      obtain ⟨bl, off, hAl, hbB, hc⟩ := ent_at hs.out hn.out hx
      rw [List.drop_eq_getElem_cons hlt2, List.all_cons] at hu
      obtain ⟨c0, c1, c2', c3, c4, c5, c6, c7⟩ := hc.map (fun j => hb.cell (p := ⟨bl, off + i * 8 + j, none⟩) hbB)
      generalize l[i] = x at *
      have i0 : (0 : Int) ≤ (i : Int) := by omega
      have i1 : (i : Int) < (n : Int) := by omega
      have i2 : IntKind.i64.wrap ((i : Int) + 1) = (i : Int) + 1 := IntWalk.i64_in _ (by omega)
      clear c0 c2' c4 c5 c7 hc hx
      subst hAl
      have hbq : ∀ wx : World, Below w.heap.size w wx → Below wr.heap.size wr wx → Below w1.heap.size w1 wx := fun wx _ h => hb1.trans (h.mono hb1.size)
      cases hk : keyP k x with
      | false =>
        have hk' : (x.key.toList == k.toList) = false := hk
        rw [hk] at hu
        simp only [Bool.true_and, Bool.false_and, Bool.not_true, Bool.not_false, Bool.or_false, Bool.false_or, Bool.true_or] at hu
        replace hu := Lib.hid hu
        have hS1 : Below wr.heap.size wr wr.drew ∧ Below w.heap.size w wr.drew ∧ wr.drew.cell? ⟨bl, off + i * 8 + 3, none⟩ = some (.string x.key) ∧ wr.drew.cell? ⟨bl, off + i * 8 + 1, none⟩ = some (.int .i64 x.sc.trust) ∧ wr.drew.cell? ⟨w.heap.size, 3, none⟩ = some (.string y.key) ∧ wr.drew.cell? ⟨w.heap.size, 1, none⟩ = some (.int .i64 y.sc.trust) := ⟨(Below.refl _ _).drew, hb.drew, c3, c1, b3, b1⟩
        repeat' ((fail_if_success at_builtin); (first | go_skip | go_guarded | go_step))
        refine wp_region_held_drew (S := fun w' => Below wr.heap.size wr w' ∧ Below w.heap.size w w' ∧ w'.cell? ⟨bl, off + i * 8 + 3, none⟩ = some (.string x.key) ∧ w'.cell? ⟨bl, off + i * 8 + 1, none⟩ = some (.int .i64 x.sc.trust) ∧ w'.cell? ⟨w.heap.size, 3, none⟩ = some (.string y.key) ∧ w'.cell? ⟨w.heap.size, 1, none⟩ = some (.int .i64 y.sc.trust)) (by kernel_rfl) ?_ (fun hHeld => ?_)
        · (try dsimp only)
          exact hS1
        refine tkY 0 (v := ?v624) rfl (.inl ⟨by rfl, ?hy624⟩) ?hr624
        case hy624 => (intro w hSw; (try dsimp only at hSw); go_simp; try with_reducible rfl)
        simp only [Act.put, List.getElem_toArray, List.getElem_cons_zero, List.getElem_cons_succ, List.setIfInBounds_toArray, List.set_cons_zero, List.set_cons_succ]
        refine tkY 1 (v := ?v625) rfl (.inl ⟨by rfl, ?hy625⟩) ?hr625
        case hy625 => (intro w hSw; (try dsimp only at hSw); go_simp; try with_reducible rfl)
        simp only [Act.put, List.getElem_toArray, List.getElem_cons_zero, List.getElem_cons_succ, List.setIfInBounds_toArray, List.set_cons_zero, List.set_cons_succ]
        refine tkY 2 (v := ?v626) rfl (.inl ⟨by rfl, ?hy626⟩) ?hr626
        case hy626 => (intro w hSw; (try dsimp only at hSw); go_simp; try with_reducible rfl)
        simp only [Act.put, List.getElem_toArray, List.getElem_cons_zero, List.getElem_cons_succ, List.setIfInBounds_toArray, List.set_cons_zero, List.set_cons_succ]
        refine tkY 3 (v := ?v627) rfl (.inl ⟨by rfl, ?hy627⟩) ?hr627
        case hy627 => (intro w hSw; (try dsimp only at hSw); go_simp; try with_reducible rfl)
        simp only [Act.put, List.getElem_toArray, List.getElem_cons_zero, List.getElem_cons_succ, List.setIfInBounds_toArray, List.set_cons_zero, List.set_cons_succ]
        refine tkY 4 (v := ?v628) rfl (.inl ⟨by rfl, ?hy628⟩) ?hr628
        case hy628 => (intro w hSw; (try dsimp only at hSw); go_simp; try with_reducible rfl)
        simp only [Act.put, List.getElem_toArray, List.getElem_cons_zero, List.getElem_cons_succ, List.setIfInBounds_toArray, List.set_cons_zero, List.set_cons_succ]
        refine tkY 5 (v := ?v629) rfl (.inl ⟨by rfl, ?hy629⟩) ?hr629
        case hy629 => (intro w hSw; (try dsimp only at hSw); go_simp; try with_reducible rfl)
        simp only [Act.put, List.getElem_toArray, List.getElem_cons_zero, List.getElem_cons_succ, List.setIfInBounds_toArray, List.set_cons_zero, List.set_cons_succ]
        refine tkY 6 (v := ?v630) rfl (.inl ⟨by rfl, ?hy630⟩) ?hr630
        case hy630 => (intro w hSw; (try dsimp only at hSw); go_simp; try with_reducible rfl)
        simp only [Act.put, List.getElem_toArray, List.getElem_cons_zero, List.getElem_cons_succ, List.setIfInBounds_toArray, List.set_cons_zero, List.set_cons_succ]
        refine tkY 7 (v := ?v631) rfl (.inl ⟨by rfl, ?hy631⟩) ?hr631
        case hy631 => (intro w hSw; (try dsimp only at hSw); go_simp; try with_reducible rfl)
        simp only [Act.put, List.getElem_toArray, List.getElem_cons_zero, List.getElem_cons_succ, List.setIfInBounds_toArray, List.set_cons_zero, List.set_cons_succ]
        refine tkN 8 rfl ?_
        simp only [Act.put, List.getElem_toArray, List.getElem_cons_zero, List.getElem_cons_succ, List.setIfInBounds_toArray, List.set_cons_zero, List.set_cons_succ]
        refine tkN 9 rfl ?_
        simp only [Act.put, List.getElem_toArray, List.getElem_cons_zero, List.getElem_cons_succ, List.setIfInBounds_toArray, List.set_cons_zero, List.set_cons_succ]
        refine tkN 10 rfl ?_
        simp only [Act.put, List.getElem_toArray, List.getElem_cons_zero, List.getElem_cons_succ, List.setIfInBounds_toArray, List.set_cons_zero, List.set_cons_succ]
        refine tkN 11 rfl ?_
        simp only [Act.put, List.getElem_toArray, List.getElem_cons_zero, List.getElem_cons_succ, List.setIfInBounds_toArray, List.set_cons_zero, List.set_cons_succ]
        refine tkN 12 rfl ?_
        simp only [Act.put, List.getElem_toArray, List.getElem_cons_zero, List.getElem_cons_succ, List.setIfInBounds_toArray, List.set_cons_zero, List.set_cons_succ]
        refine tkN 13 rfl ?_
        simp only [Act.put, List.getElem_toArray, List.getElem_cons_zero, List.getElem_cons_succ, List.setIfInBounds_toArray, List.set_cons_zero, List.set_cons_succ]
        refine tkN 14 rfl ?_
        simp only [Act.put, List.getElem_toArray, List.getElem_cons_zero, List.getElem_cons_succ, List.setIfInBounds_toArray, List.set_cons_zero, List.set_cons_succ]
        refine tkN 15 rfl ?_
        simp only [Act.put, List.getElem_toArray, List.getElem_cons_zero, List.getElem_cons_succ, List.setIfInBounds_toArray, List.set_cons_zero, List.set_cons_succ]
        refine tkN 16 rfl ?_
        simp only [Act.put, List.getElem_toArray, List.getElem_cons_zero, List.getElem_cons_succ, List.setIfInBounds_toArray, List.set_cons_zero, List.set_cons_succ]
        refine tkN 17 rfl ?_
        simp only [Act.put, List.getElem_toArray, List.getElem_cons_zero, List.getElem_cons_succ, List.setIfInBounds_toArray, List.set_cons_zero, List.set_cons_succ]
        refine tkN 18 rfl ?_
        simp only [Act.put, List.getElem_toArray, List.getElem_cons_zero, List.getElem_cons_succ, List.setIfInBounds_toArray, List.set_cons_zero, List.set_cons_succ]
        refine tkN 19 rfl ?_
        simp only [Act.put, List.getElem_toArray, List.getElem_cons_zero, List.getElem_cons_succ, List.setIfInBounds_toArray, List.set_cons_zero, List.set_cons_succ]
        refine tkN 20 rfl ?_
        simp only [Act.put, List.getElem_toArray, List.getElem_cons_zero, List.getElem_cons_succ, List.setIfInBounds_toArray, List.set_cons_zero, List.set_cons_succ]
        refine tkN 21 rfl ?_
        simp only [Act.put, List.getElem_toArray, List.getElem_cons_zero, List.getElem_cons_succ, List.setIfInBounds_toArray, List.set_cons_zero, List.set_cons_succ]
        refine tkN 22 rfl ?_
        simp only [Act.put, List.getElem_toArray, List.getElem_cons_zero, List.getElem_cons_succ, List.setIfInBounds_toArray, List.set_cons_zero, List.set_cons_succ]
        refine tkN 23 rfl ?_
        simp only [Act.put, List.getElem_toArray, List.getElem_cons_zero, List.getElem_cons_succ, List.setIfInBounds_toArray, List.set_cons_zero, List.set_cons_succ]
        refine tkY 24 (v := ?v632) rfl (.inl ⟨by rfl, ?hy632⟩) ?hr632
        case hy632 => (intro w hSw; (try dsimp only at hSw); go_simp; try with_reducible rfl)
        simp only [Act.put, List.getElem_toArray, List.getElem_cons_zero, List.getElem_cons_succ, List.setIfInBounds_toArray, List.set_cons_zero, List.set_cons_succ]
        refine wpAnyH_done (by kernel_rfl) ?_ _
        have hbw := hHeld.1
        have hb9 := hHeld.2.1
        repeat' ((fail_if_success at_builtin); (first | go_skip | go_guarded | go_step))
        go_roundw
        case rel => exact ⟨i + 1, by omega, by go_num, hb1.trans (hbw.mono hb1.size), hu.out⟩
        case measure => simp [intOf]; omega
      | true =>
        have hk' : (x.key.toList == k.toList) = true := hk
        cases hky : keyP k y with
        | false =>
          have hky' : (y.key.toList == k.toList) = false := hky
          have hf : fin = false := by rw [hu, hk, hky]; rfl
          replace hf := Lib.hid hf
          have hS1 : Below wr.heap.size wr wr.drew ∧ Below w.heap.size w wr.drew ∧ wr.drew.cell? ⟨bl, off + i * 8 + 3, none⟩ = some (.string x.key) ∧ wr.drew.cell? ⟨bl, off + i * 8 + 1, none⟩ = some (.int .i64 x.sc.trust) ∧ wr.drew.cell? ⟨w.heap.size, 3, none⟩ = some (.string y.key) ∧ wr.drew.cell? ⟨w.heap.size, 1, none⟩ = some (.int .i64 y.sc.trust) := ⟨(Below.refl _ _).drew, hb.drew, c3, c1, b3, b1⟩
          repeat' ((fail_if_success at_builtin); (first | go_skip | go_guarded | go_step))
          refine wp_region_held_drew (S := fun w' => Below wr.heap.size wr w' ∧ Below w.heap.size w w' ∧ w'.cell? ⟨bl, off + i * 8 + 3, none⟩ = some (.string x.key) ∧ w'.cell? ⟨bl, off + i * 8 + 1, none⟩ = some (.int .i64 x.sc.trust) ∧ w'.cell? ⟨w.heap.size, 3, none⟩ = some (.string y.key) ∧ w'.cell? ⟨w.heap.size, 1, none⟩ = some (.int .i64 y.sc.trust)) (by kernel_rfl) ?_ (fun hHeld => ?_)
          · (try dsimp only)
            exact hS1
          refine tkY 0 (v := ?v633) rfl (.inl ⟨by rfl, ?hy633⟩) ?hr633
          case hy633 => (intro w hSw; (try dsimp only at hSw); go_simp; try with_reducible rfl)
          simp only [Act.put, List.getElem_toArray, List.getElem_cons_zero, List.getElem_cons_succ, List.setIfInBounds_toArray, List.set_cons_zero, List.set_cons_succ]
          refine tkY 1 (v := ?v634) rfl (.inl ⟨by rfl, ?hy634⟩) ?hr634
          case hy634 => (intro w hSw; (try dsimp only at hSw); go_simp; try with_reducible rfl)
          simp only [Act.put, List.getElem_toArray, List.getElem_cons_zero, List.getElem_cons_succ, List.setIfInBounds_toArray, List.set_cons_zero, List.set_cons_succ]
          refine tkY 2 (v := ?v635) rfl (.inl ⟨by rfl, ?hy635⟩) ?hr635
          case hy635 => (intro w hSw; (try dsimp only at hSw); go_simp; try with_reducible rfl)
          simp only [Act.put, List.getElem_toArray, List.getElem_cons_zero, List.getElem_cons_succ, List.setIfInBounds_toArray, List.set_cons_zero, List.set_cons_succ]
          refine tkY 3 (v := ?v636) rfl (.inl ⟨by rfl, ?hy636⟩) ?hr636
          case hy636 => (intro w hSw; (try dsimp only at hSw); go_simp; try with_reducible rfl)
          simp only [Act.put, List.getElem_toArray, List.getElem_cons_zero, List.getElem_cons_succ, List.setIfInBounds_toArray, List.set_cons_zero, List.set_cons_succ]
          refine tkY 4 (v := ?v637) rfl (.inl ⟨by rfl, ?hy637⟩) ?hr637
          case hy637 => (intro w hSw; (try dsimp only at hSw); go_simp; try with_reducible rfl)
          simp only [Act.put, List.getElem_toArray, List.getElem_cons_zero, List.getElem_cons_succ, List.setIfInBounds_toArray, List.set_cons_zero, List.set_cons_succ]
          refine tkY 5 (v := ?v638) rfl (.inl ⟨by rfl, ?hy638⟩) ?hr638
          case hy638 => (intro w hSw; (try dsimp only at hSw); go_simp; try with_reducible rfl)
          simp only [Act.put, List.getElem_toArray, List.getElem_cons_zero, List.getElem_cons_succ, List.setIfInBounds_toArray, List.set_cons_zero, List.set_cons_succ]
          refine tkY 6 (v := ?v639) rfl (.inl ⟨by rfl, ?hy639⟩) ?hr639
          case hy639 => (intro w hSw; (try dsimp only at hSw); go_simp; try with_reducible rfl)
          simp only [Act.put, List.getElem_toArray, List.getElem_cons_zero, List.getElem_cons_succ, List.setIfInBounds_toArray, List.set_cons_zero, List.set_cons_succ]
          refine tkY 7 (v := ?v640) rfl (.inl ⟨by rfl, ?hy640⟩) ?hr640
          case hy640 => (intro w hSw; (try dsimp only at hSw); go_simp; try with_reducible rfl)
          simp only [Act.put, List.getElem_toArray, List.getElem_cons_zero, List.getElem_cons_succ, List.setIfInBounds_toArray, List.set_cons_zero, List.set_cons_succ]
          refine tkY 8 (v := ?v641) rfl (.inl ⟨by rfl, ?hy641⟩) ?hr641
          case hy641 => (intro w hSw; (try dsimp only at hSw); go_simp; try with_reducible rfl)
          simp only [Act.put, List.getElem_toArray, List.getElem_cons_zero, List.getElem_cons_succ, List.setIfInBounds_toArray, List.set_cons_zero, List.set_cons_succ]
          refine tkY 9 (v := ?v642) rfl (.inl ⟨by rfl, ?hy642⟩) ?hr642
          case hy642 => (intro w hSw; (try dsimp only at hSw); go_simp; try with_reducible rfl)
          simp only [Act.put, List.getElem_toArray, List.getElem_cons_zero, List.getElem_cons_succ, List.setIfInBounds_toArray, List.set_cons_zero, List.set_cons_succ]
          refine tkY 10 (v := ?v643) rfl (.inl ⟨by rfl, ?hy643⟩) ?hr643
          case hy643 => (intro w hSw; (try dsimp only at hSw); go_simp; try with_reducible rfl)
          simp only [Act.put, List.getElem_toArray, List.getElem_cons_zero, List.getElem_cons_succ, List.setIfInBounds_toArray, List.set_cons_zero, List.set_cons_succ]
          refine tkY 11 (v := ?v644) rfl (.inl ⟨by rfl, ?hy644⟩) ?hr644
          case hy644 => (intro w hSw; (try dsimp only at hSw); go_simp; try with_reducible rfl)
          simp only [Act.put, List.getElem_toArray, List.getElem_cons_zero, List.getElem_cons_succ, List.setIfInBounds_toArray, List.set_cons_zero, List.set_cons_succ]
          refine tkY 12 (v := ?v645) rfl (.inl ⟨by rfl, ?hy645⟩) ?hr645
          case hy645 => (intro w hSw; (try dsimp only at hSw); go_simp; try with_reducible rfl)
          simp only [Act.put, List.getElem_toArray, List.getElem_cons_zero, List.getElem_cons_succ, List.setIfInBounds_toArray, List.set_cons_zero, List.set_cons_succ]
          refine tkN 13 rfl ?_
          simp only [Act.put, List.getElem_toArray, List.getElem_cons_zero, List.getElem_cons_succ, List.setIfInBounds_toArray, List.set_cons_zero, List.set_cons_succ]
          refine tkN 14 rfl ?_
          simp only [Act.put, List.getElem_toArray, List.getElem_cons_zero, List.getElem_cons_succ, List.setIfInBounds_toArray, List.set_cons_zero, List.set_cons_succ]
          refine tkN 15 rfl ?_
          simp only [Act.put, List.getElem_toArray, List.getElem_cons_zero, List.getElem_cons_succ, List.setIfInBounds_toArray, List.set_cons_zero, List.set_cons_succ]
          refine tkN 16 rfl ?_
          simp only [Act.put, List.getElem_toArray, List.getElem_cons_zero, List.getElem_cons_succ, List.setIfInBounds_toArray, List.set_cons_zero, List.set_cons_succ]
          refine tkN 17 rfl ?_
          simp only [Act.put, List.getElem_toArray, List.getElem_cons_zero, List.getElem_cons_succ, List.setIfInBounds_toArray, List.set_cons_zero, List.set_cons_succ]
          refine tkN 18 rfl ?_
          simp only [Act.put, List.getElem_toArray, List.getElem_cons_zero, List.getElem_cons_succ, List.setIfInBounds_toArray, List.set_cons_zero, List.set_cons_succ]
          refine tkN 19 rfl ?_
          simp only [Act.put, List.getElem_toArray, List.getElem_cons_zero, List.getElem_cons_succ, List.setIfInBounds_toArray, List.set_cons_zero, List.set_cons_succ]
          refine tkN 20 rfl ?_
          simp only [Act.put, List.getElem_toArray, List.getElem_cons_zero, List.getElem_cons_succ, List.setIfInBounds_toArray, List.set_cons_zero, List.set_cons_succ]
          refine tkN 21 rfl ?_
          simp only [Act.put, List.getElem_toArray, List.getElem_cons_zero, List.getElem_cons_succ, List.setIfInBounds_toArray, List.set_cons_zero, List.set_cons_succ]
          refine tkN 22 rfl ?_
          simp only [Act.put, List.getElem_toArray, List.getElem_cons_zero, List.getElem_cons_succ, List.setIfInBounds_toArray, List.set_cons_zero, List.set_cons_succ]
          refine tkY 23 (v := ?v646) rfl (.inl ⟨by rfl, ?hy646⟩) ?hr646
          case hy646 => (intro w hSw; (try dsimp only at hSw); go_simp; try with_reducible rfl)
          simp only [Act.put, List.getElem_toArray, List.getElem_cons_zero, List.getElem_cons_succ, List.setIfInBounds_toArray, List.set_cons_zero, List.set_cons_succ]
          refine tkY 24 (v := ?v647) rfl (.inl ⟨by rfl, ?hy647⟩) ?hr647
          case hy647 => (intro w hSw; (try dsimp only at hSw); go_simp; try with_reducible rfl)
          simp only [Act.put, List.getElem_toArray, List.getElem_cons_zero, List.getElem_cons_succ, List.setIfInBounds_toArray, List.set_cons_zero, List.set_cons_succ]
          refine wpAnyH_done (by kernel_rfl) ?_ _
          have hbw := hHeld.1
          have hb9 := hHeld.2.1
          repeat' ((fail_if_success at_builtin); (first | go_skip | go_guarded | go_step))
          go_ret
          exact ⟨ret_b hf.out.symm, hb9⟩
        | true =>
          have hky' : (y.key.toList == k.toList) = true := hky
          by_cases ht : x.sc.trust < y.sc.trust
          · have hf : fin = false := by rw [hu, hk, hky, decide_eq_true ht]; rfl
            replace hf := Lib.hid hf
            have hS1 : Below wr.heap.size wr wr.drew ∧ Below w.heap.size w wr.drew ∧ wr.drew.cell? ⟨bl, off + i * 8 + 3, none⟩ = some (.string x.key) ∧ wr.drew.cell? ⟨bl, off + i * 8 + 1, none⟩ = some (.int .i64 x.sc.trust) ∧ wr.drew.cell? ⟨w.heap.size, 3, none⟩ = some (.string y.key) ∧ wr.drew.cell? ⟨w.heap.size, 1, none⟩ = some (.int .i64 y.sc.trust) := ⟨(Below.refl _ _).drew, hb.drew, c3, c1, b3, b1⟩
            repeat' ((fail_if_success at_builtin); (first | go_skip | go_guarded | go_step))
            refine wp_region_held_drew (S := fun w' => Below wr.heap.size wr w' ∧ Below w.heap.size w w' ∧ w'.cell? ⟨bl, off + i * 8 + 3, none⟩ = some (.string x.key) ∧ w'.cell? ⟨bl, off + i * 8 + 1, none⟩ = some (.int .i64 x.sc.trust) ∧ w'.cell? ⟨w.heap.size, 3, none⟩ = some (.string y.key) ∧ w'.cell? ⟨w.heap.size, 1, none⟩ = some (.int .i64 y.sc.trust)) (by kernel_rfl) ?_ (fun hHeld => ?_)
            · (try dsimp only)
              exact hS1
            refine tkY 0 (v := ?v648) rfl (.inl ⟨by rfl, ?hy648⟩) ?hr648
            case hy648 => (intro w hSw; (try dsimp only at hSw); go_simp; try with_reducible rfl)
            simp only [Act.put, List.getElem_toArray, List.getElem_cons_zero, List.getElem_cons_succ, List.setIfInBounds_toArray, List.set_cons_zero, List.set_cons_succ]
            refine tkY 1 (v := ?v649) rfl (.inl ⟨by rfl, ?hy649⟩) ?hr649
            case hy649 => (intro w hSw; (try dsimp only at hSw); go_simp; try with_reducible rfl)
            simp only [Act.put, List.getElem_toArray, List.getElem_cons_zero, List.getElem_cons_succ, List.setIfInBounds_toArray, List.set_cons_zero, List.set_cons_succ]
            refine tkY 2 (v := ?v650) rfl (.inl ⟨by rfl, ?hy650⟩) ?hr650
            case hy650 => (intro w hSw; (try dsimp only at hSw); go_simp; try with_reducible rfl)
            simp only [Act.put, List.getElem_toArray, List.getElem_cons_zero, List.getElem_cons_succ, List.setIfInBounds_toArray, List.set_cons_zero, List.set_cons_succ]
            refine tkY 3 (v := ?v651) rfl (.inl ⟨by rfl, ?hy651⟩) ?hr651
            case hy651 => (intro w hSw; (try dsimp only at hSw); go_simp; try with_reducible rfl)
            simp only [Act.put, List.getElem_toArray, List.getElem_cons_zero, List.getElem_cons_succ, List.setIfInBounds_toArray, List.set_cons_zero, List.set_cons_succ]
            refine tkY 4 (v := ?v652) rfl (.inl ⟨by rfl, ?hy652⟩) ?hr652
            case hy652 => (intro w hSw; (try dsimp only at hSw); go_simp; try with_reducible rfl)
            simp only [Act.put, List.getElem_toArray, List.getElem_cons_zero, List.getElem_cons_succ, List.setIfInBounds_toArray, List.set_cons_zero, List.set_cons_succ]
            refine tkY 5 (v := ?v653) rfl (.inl ⟨by rfl, ?hy653⟩) ?hr653
            case hy653 => (intro w hSw; (try dsimp only at hSw); go_simp; try with_reducible rfl)
            simp only [Act.put, List.getElem_toArray, List.getElem_cons_zero, List.getElem_cons_succ, List.setIfInBounds_toArray, List.set_cons_zero, List.set_cons_succ]
            refine tkY 6 (v := ?v654) rfl (.inl ⟨by rfl, ?hy654⟩) ?hr654
            case hy654 => (intro w hSw; (try dsimp only at hSw); go_simp; try with_reducible rfl)
            simp only [Act.put, List.getElem_toArray, List.getElem_cons_zero, List.getElem_cons_succ, List.setIfInBounds_toArray, List.set_cons_zero, List.set_cons_succ]
            refine tkY 7 (v := ?v655) rfl (.inl ⟨by rfl, ?hy655⟩) ?hr655
            case hy655 => (intro w hSw; (try dsimp only at hSw); go_simp; try with_reducible rfl)
            simp only [Act.put, List.getElem_toArray, List.getElem_cons_zero, List.getElem_cons_succ, List.setIfInBounds_toArray, List.set_cons_zero, List.set_cons_succ]
            refine tkY 8 (v := ?v656) rfl (.inl ⟨by rfl, ?hy656⟩) ?hr656
            case hy656 => (intro w hSw; (try dsimp only at hSw); go_simp; try with_reducible rfl)
            simp only [Act.put, List.getElem_toArray, List.getElem_cons_zero, List.getElem_cons_succ, List.setIfInBounds_toArray, List.set_cons_zero, List.set_cons_succ]
            refine tkY 9 (v := ?v657) rfl (.inl ⟨by rfl, ?hy657⟩) ?hr657
            case hy657 => (intro w hSw; (try dsimp only at hSw); go_simp; try with_reducible rfl)
            simp only [Act.put, List.getElem_toArray, List.getElem_cons_zero, List.getElem_cons_succ, List.setIfInBounds_toArray, List.set_cons_zero, List.set_cons_succ]
            refine tkY 10 (v := ?v658) rfl (.inl ⟨by rfl, ?hy658⟩) ?hr658
            case hy658 => (intro w hSw; (try dsimp only at hSw); go_simp; try with_reducible rfl)
            simp only [Act.put, List.getElem_toArray, List.getElem_cons_zero, List.getElem_cons_succ, List.setIfInBounds_toArray, List.set_cons_zero, List.set_cons_succ]
            refine tkY 11 (v := ?v659) rfl (.inl ⟨by rfl, ?hy659⟩) ?hr659
            case hy659 => (intro w hSw; (try dsimp only at hSw); go_simp; try with_reducible rfl)
            simp only [Act.put, List.getElem_toArray, List.getElem_cons_zero, List.getElem_cons_succ, List.setIfInBounds_toArray, List.set_cons_zero, List.set_cons_succ]
            refine tkY 12 (v := ?v660) rfl (.inl ⟨by rfl, ?hy660⟩) ?hr660
            case hy660 => (intro w hSw; (try dsimp only at hSw); go_simp; try with_reducible rfl)
            simp only [Act.put, List.getElem_toArray, List.getElem_cons_zero, List.getElem_cons_succ, List.setIfInBounds_toArray, List.set_cons_zero, List.set_cons_succ]
            refine tkY 13 (v := ?v661) rfl (.inl ⟨by rfl, ?hy661⟩) ?hr661
            case hy661 => (intro w hSw; (try dsimp only at hSw); go_simp; try with_reducible rfl)
            simp only [Act.put, List.getElem_toArray, List.getElem_cons_zero, List.getElem_cons_succ, List.setIfInBounds_toArray, List.set_cons_zero, List.set_cons_succ]
            refine tkY 14 (v := ?v662) rfl (.inl ⟨by rfl, ?hy662⟩) ?hr662
            case hy662 => (intro w hSw; (try dsimp only at hSw); go_simp; try with_reducible rfl)
            simp only [Act.put, List.getElem_toArray, List.getElem_cons_zero, List.getElem_cons_succ, List.setIfInBounds_toArray, List.set_cons_zero, List.set_cons_succ]
            refine tkY 15 (v := ?v663) rfl (.inl ⟨by rfl, ?hy663⟩) ?hr663
            case hy663 => (intro w hSw; (try dsimp only at hSw); go_simp; try with_reducible rfl)
            simp only [Act.put, List.getElem_toArray, List.getElem_cons_zero, List.getElem_cons_succ, List.setIfInBounds_toArray, List.set_cons_zero, List.set_cons_succ]
            refine tkY 16 (v := ?v664) rfl (.inl ⟨by rfl, ?hy664⟩) ?hr664
            case hy664 => (intro w hSw; (try dsimp only at hSw); go_simp; try with_reducible rfl)
            simp only [Act.put, List.getElem_toArray, List.getElem_cons_zero, List.getElem_cons_succ, List.setIfInBounds_toArray, List.set_cons_zero, List.set_cons_succ]
            refine tkY 17 (v := ?v665) rfl (.inl ⟨by rfl, ?hy665⟩) ?hr665
            case hy665 => (intro w hSw; (try dsimp only at hSw); go_simp; try with_reducible rfl)
            simp only [Act.put, List.getElem_toArray, List.getElem_cons_zero, List.getElem_cons_succ, List.setIfInBounds_toArray, List.set_cons_zero, List.set_cons_succ]
            refine tkY 18 (v := ?v666) rfl (.inl ⟨by rfl, ?hy666⟩) ?hr666
            case hy666 => (intro w hSw; (try dsimp only at hSw); go_simp; try with_reducible rfl)
            simp only [Act.put, List.getElem_toArray, List.getElem_cons_zero, List.getElem_cons_succ, List.setIfInBounds_toArray, List.set_cons_zero, List.set_cons_succ]
            refine tkY 19 (v := ?v667) rfl (.inl ⟨by rfl, ?hy667⟩) ?hr667
            case hy667 => (intro w hSw; (try dsimp only at hSw); go_simp; try with_reducible rfl)
            simp only [Act.put, List.getElem_toArray, List.getElem_cons_zero, List.getElem_cons_succ, List.setIfInBounds_toArray, List.set_cons_zero, List.set_cons_succ]
            refine tkY 20 (v := ?v668) rfl (.inl ⟨by rfl, ?hy668⟩) ?hr668
            case hy668 => (intro w hSw; (try dsimp only at hSw); go_simp; try with_reducible rfl)
            simp only [Act.put, List.getElem_toArray, List.getElem_cons_zero, List.getElem_cons_succ, List.setIfInBounds_toArray, List.set_cons_zero, List.set_cons_succ]
            refine tkY 21 (v := ?v669) rfl (.inl ⟨by rfl, ?hy669⟩) ?hr669
            case hy669 => (intro w hSw; (try dsimp only at hSw); go_simp; try with_reducible rfl)
            simp only [Act.put, List.getElem_toArray, List.getElem_cons_zero, List.getElem_cons_succ, List.setIfInBounds_toArray, List.set_cons_zero, List.set_cons_succ]
            refine tkY 22 (v := ?v670) rfl (.inl ⟨by rfl, ?hy670⟩) ?hr670
            case hy670 => (intro w hSw; (try dsimp only at hSw); go_simp; try with_reducible rfl)
            simp only [Act.put, List.getElem_toArray, List.getElem_cons_zero, List.getElem_cons_succ, List.setIfInBounds_toArray, List.set_cons_zero, List.set_cons_succ]
            refine tkY 23 (v := ?v671) rfl (.inl ⟨by rfl, ?hy671⟩) ?hr671
            case hy671 => (intro w hSw; (try dsimp only at hSw); go_simp; try with_reducible rfl)
            simp only [Act.put, List.getElem_toArray, List.getElem_cons_zero, List.getElem_cons_succ, List.setIfInBounds_toArray, List.set_cons_zero, List.set_cons_succ]
            refine tkY 24 (v := ?v672) rfl (.inl ⟨by rfl, ?hy672⟩) ?hr672
            case hy672 => (intro w hSw; (try dsimp only at hSw); go_simp; try with_reducible rfl)
            simp only [Act.put, List.getElem_toArray, List.getElem_cons_zero, List.getElem_cons_succ, List.setIfInBounds_toArray, List.set_cons_zero, List.set_cons_succ]
            refine wpAnyH_done (by kernel_rfl) ?_ _
            have hbw := hHeld.1
            have hb9 := hHeld.2.1
            repeat' ((fail_if_success at_builtin); (first | go_skip | go_guarded | go_step))
            go_ret
            exact ⟨ret_b hf.out.symm, hb9⟩
          · rw [hk, hky, decide_eq_false ht] at hu
            simp only [Bool.true_and, Bool.false_and, Bool.not_true, Bool.not_false, Bool.or_false, Bool.false_or, Bool.true_or] at hu
            replace hu := Lib.hid hu
            have ht' : decide (x.sc.trust < y.sc.trust) = false := decide_eq_false ht
            have hS1 : Below wr.heap.size wr wr.drew ∧ Below w.heap.size w wr.drew ∧ wr.drew.cell? ⟨bl, off + i * 8 + 3, none⟩ = some (.string x.key) ∧ wr.drew.cell? ⟨bl, off + i * 8 + 1, none⟩ = some (.int .i64 x.sc.trust) ∧ wr.drew.cell? ⟨w.heap.size, 3, none⟩ = some (.string y.key) ∧ wr.drew.cell? ⟨w.heap.size, 1, none⟩ = some (.int .i64 y.sc.trust) := ⟨(Below.refl _ _).drew, hb.drew, c3, c1, b3, b1⟩
            repeat' ((fail_if_success at_builtin); (first | go_skip | go_guarded | go_step))
            refine wp_region_held_drew (S := fun w' => Below wr.heap.size wr w' ∧ Below w.heap.size w w' ∧ w'.cell? ⟨bl, off + i * 8 + 3, none⟩ = some (.string x.key) ∧ w'.cell? ⟨bl, off + i * 8 + 1, none⟩ = some (.int .i64 x.sc.trust) ∧ w'.cell? ⟨w.heap.size, 3, none⟩ = some (.string y.key) ∧ w'.cell? ⟨w.heap.size, 1, none⟩ = some (.int .i64 y.sc.trust)) (by kernel_rfl) ?_ (fun hHeld => ?_)
            · (try dsimp only)
              exact hS1
            refine tkY 0 (v := ?v673) rfl (.inl ⟨by rfl, ?hy673⟩) ?hr673
            case hy673 => (intro w hSw; (try dsimp only at hSw); go_simp; try with_reducible rfl)
            simp only [Act.put, List.getElem_toArray, List.getElem_cons_zero, List.getElem_cons_succ, List.setIfInBounds_toArray, List.set_cons_zero, List.set_cons_succ]
            refine tkY 1 (v := ?v674) rfl (.inl ⟨by rfl, ?hy674⟩) ?hr674
            case hy674 => (intro w hSw; (try dsimp only at hSw); go_simp; try with_reducible rfl)
            simp only [Act.put, List.getElem_toArray, List.getElem_cons_zero, List.getElem_cons_succ, List.setIfInBounds_toArray, List.set_cons_zero, List.set_cons_succ]
            refine tkY 2 (v := ?v675) rfl (.inl ⟨by rfl, ?hy675⟩) ?hr675
            case hy675 => (intro w hSw; (try dsimp only at hSw); go_simp; try with_reducible rfl)
            simp only [Act.put, List.getElem_toArray, List.getElem_cons_zero, List.getElem_cons_succ, List.setIfInBounds_toArray, List.set_cons_zero, List.set_cons_succ]
            refine tkY 3 (v := ?v676) rfl (.inl ⟨by rfl, ?hy676⟩) ?hr676
            case hy676 => (intro w hSw; (try dsimp only at hSw); go_simp; try with_reducible rfl)
            simp only [Act.put, List.getElem_toArray, List.getElem_cons_zero, List.getElem_cons_succ, List.setIfInBounds_toArray, List.set_cons_zero, List.set_cons_succ]
            refine tkY 4 (v := ?v677) rfl (.inl ⟨by rfl, ?hy677⟩) ?hr677
            case hy677 => (intro w hSw; (try dsimp only at hSw); go_simp; try with_reducible rfl)
            simp only [Act.put, List.getElem_toArray, List.getElem_cons_zero, List.getElem_cons_succ, List.setIfInBounds_toArray, List.set_cons_zero, List.set_cons_succ]
            refine tkY 5 (v := ?v678) rfl (.inl ⟨by rfl, ?hy678⟩) ?hr678
            case hy678 => (intro w hSw; (try dsimp only at hSw); go_simp; try with_reducible rfl)
            simp only [Act.put, List.getElem_toArray, List.getElem_cons_zero, List.getElem_cons_succ, List.setIfInBounds_toArray, List.set_cons_zero, List.set_cons_succ]
            refine tkY 6 (v := ?v679) rfl (.inl ⟨by rfl, ?hy679⟩) ?hr679
            case hy679 => (intro w hSw; (try dsimp only at hSw); go_simp; try with_reducible rfl)
            simp only [Act.put, List.getElem_toArray, List.getElem_cons_zero, List.getElem_cons_succ, List.setIfInBounds_toArray, List.set_cons_zero, List.set_cons_succ]
            refine tkY 7 (v := ?v680) rfl (.inl ⟨by rfl, ?hy680⟩) ?hr680
            case hy680 => (intro w hSw; (try dsimp only at hSw); go_simp; try with_reducible rfl)
            simp only [Act.put, List.getElem_toArray, List.getElem_cons_zero, List.getElem_cons_succ, List.setIfInBounds_toArray, List.set_cons_zero, List.set_cons_succ]
            refine tkY 8 (v := ?v681) rfl (.inl ⟨by rfl, ?hy681⟩) ?hr681
            case hy681 => (intro w hSw; (try dsimp only at hSw); go_simp; try with_reducible rfl)
            simp only [Act.put, List.getElem_toArray, List.getElem_cons_zero, List.getElem_cons_succ, List.setIfInBounds_toArray, List.set_cons_zero, List.set_cons_succ]
            refine tkY 9 (v := ?v682) rfl (.inl ⟨by rfl, ?hy682⟩) ?hr682
            case hy682 => (intro w hSw; (try dsimp only at hSw); go_simp; try with_reducible rfl)
            simp only [Act.put, List.getElem_toArray, List.getElem_cons_zero, List.getElem_cons_succ, List.setIfInBounds_toArray, List.set_cons_zero, List.set_cons_succ]
            refine tkY 10 (v := ?v683) rfl (.inl ⟨by rfl, ?hy683⟩) ?hr683
            case hy683 => (intro w hSw; (try dsimp only at hSw); go_simp; try with_reducible rfl)
            simp only [Act.put, List.getElem_toArray, List.getElem_cons_zero, List.getElem_cons_succ, List.setIfInBounds_toArray, List.set_cons_zero, List.set_cons_succ]
            refine tkY 11 (v := ?v684) rfl (.inl ⟨by rfl, ?hy684⟩) ?hr684
            case hy684 => (intro w hSw; (try dsimp only at hSw); go_simp; try with_reducible rfl)
            simp only [Act.put, List.getElem_toArray, List.getElem_cons_zero, List.getElem_cons_succ, List.setIfInBounds_toArray, List.set_cons_zero, List.set_cons_succ]
            refine tkY 12 (v := ?v685) rfl (.inl ⟨by rfl, ?hy685⟩) ?hr685
            case hy685 => (intro w hSw; (try dsimp only at hSw); go_simp; try with_reducible rfl)
            simp only [Act.put, List.getElem_toArray, List.getElem_cons_zero, List.getElem_cons_succ, List.setIfInBounds_toArray, List.set_cons_zero, List.set_cons_succ]
            refine tkY 13 (v := ?v686) rfl (.inl ⟨by rfl, ?hy686⟩) ?hr686
            case hy686 => (intro w hSw; (try dsimp only at hSw); go_simp; try with_reducible rfl)
            simp only [Act.put, List.getElem_toArray, List.getElem_cons_zero, List.getElem_cons_succ, List.setIfInBounds_toArray, List.set_cons_zero, List.set_cons_succ]
            refine tkY 14 (v := ?v687) rfl (.inl ⟨by rfl, ?hy687⟩) ?hr687
            case hy687 => (intro w hSw; (try dsimp only at hSw); go_simp; try with_reducible rfl)
            simp only [Act.put, List.getElem_toArray, List.getElem_cons_zero, List.getElem_cons_succ, List.setIfInBounds_toArray, List.set_cons_zero, List.set_cons_succ]
            refine tkY 15 (v := ?v688) rfl (.inl ⟨by rfl, ?hy688⟩) ?hr688
            case hy688 => (intro w hSw; (try dsimp only at hSw); go_simp; try with_reducible rfl)
            simp only [Act.put, List.getElem_toArray, List.getElem_cons_zero, List.getElem_cons_succ, List.setIfInBounds_toArray, List.set_cons_zero, List.set_cons_succ]
            refine tkY 16 (v := ?v689) rfl (.inl ⟨by rfl, ?hy689⟩) ?hr689
            case hy689 => (intro w hSw; (try dsimp only at hSw); go_simp; try with_reducible rfl)
            simp only [Act.put, List.getElem_toArray, List.getElem_cons_zero, List.getElem_cons_succ, List.setIfInBounds_toArray, List.set_cons_zero, List.set_cons_succ]
            refine tkY 17 (v := ?v690) rfl (.inl ⟨by rfl, ?hy690⟩) ?hr690
            case hy690 => (intro w hSw; (try dsimp only at hSw); go_simp; try with_reducible rfl)
            simp only [Act.put, List.getElem_toArray, List.getElem_cons_zero, List.getElem_cons_succ, List.setIfInBounds_toArray, List.set_cons_zero, List.set_cons_succ]
            refine tkY 18 (v := ?v691) rfl (.inl ⟨by rfl, ?hy691⟩) ?hr691
            case hy691 => (intro w hSw; (try dsimp only at hSw); go_simp; try with_reducible rfl)
            simp only [Act.put, List.getElem_toArray, List.getElem_cons_zero, List.getElem_cons_succ, List.setIfInBounds_toArray, List.set_cons_zero, List.set_cons_succ]
            refine tkY 19 (v := ?v692) rfl (.inl ⟨by rfl, ?hy692⟩) ?hr692
            case hy692 => (intro w hSw; (try dsimp only at hSw); go_simp; try with_reducible rfl)
            simp only [Act.put, List.getElem_toArray, List.getElem_cons_zero, List.getElem_cons_succ, List.setIfInBounds_toArray, List.set_cons_zero, List.set_cons_succ]
            refine tkY 20 (v := ?v693) rfl (.inl ⟨by rfl, ?hy693⟩) ?hr693
            case hy693 => (intro w hSw; (try dsimp only at hSw); go_simp; try with_reducible rfl)
            simp only [Act.put, List.getElem_toArray, List.getElem_cons_zero, List.getElem_cons_succ, List.setIfInBounds_toArray, List.set_cons_zero, List.set_cons_succ]
            refine tkY 21 (v := ?v694) rfl (.inl ⟨by rfl, ?hy694⟩) ?hr694
            case hy694 => (intro w hSw; (try dsimp only at hSw); go_simp; try with_reducible rfl)
            simp only [Act.put, List.getElem_toArray, List.getElem_cons_zero, List.getElem_cons_succ, List.setIfInBounds_toArray, List.set_cons_zero, List.set_cons_succ]
            refine tkY 22 (v := ?v695) rfl (.inl ⟨by rfl, ?hy695⟩) ?hr695
            case hy695 => (intro w hSw; (try dsimp only at hSw); go_simp; try with_reducible rfl)
            simp only [Act.put, List.getElem_toArray, List.getElem_cons_zero, List.getElem_cons_succ, List.setIfInBounds_toArray, List.set_cons_zero, List.set_cons_succ]
            refine tkY 23 (v := ?v696) rfl (.inl ⟨by rfl, ?hy696⟩) ?hr696
            case hy696 => (intro w hSw; (try dsimp only at hSw); go_simp; try with_reducible rfl)
            simp only [Act.put, List.getElem_toArray, List.getElem_cons_zero, List.getElem_cons_succ, List.setIfInBounds_toArray, List.set_cons_zero, List.set_cons_succ]
            refine tkY 24 (v := ?v697) rfl (.inl ⟨by rfl, ?hy697⟩) ?hr697
            case hy697 => (intro w hSw; (try dsimp only at hSw); go_simp; try with_reducible rfl)
            simp only [Act.put, List.getElem_toArray, List.getElem_cons_zero, List.getElem_cons_succ, List.setIfInBounds_toArray, List.set_cons_zero, List.set_cons_succ]
            refine wpAnyH_done (by kernel_rfl) ?_ _
            have hbw := hHeld.1
            have hb9 := hHeld.2.1
            repeat' ((fail_if_success at_builtin); (first | go_skip | go_guarded | go_step))
            go_roundw
            case rel => exact ⟨i + 1, by omega, by go_num, hb1.trans (hbw.mono hb1.size), hu.out⟩
            case measure => simp [intOf]; omega
    · have i1 : ¬ ((i : Int) < (n : Int)) := by omega
      rw [List.drop_of_length_le (by have := hn.out; omega), List.all_nil, Bool.true_and] at hu
      have hst : fin = bestP l y k (ps.drop 0) := hu
      replace hst := Lib.hid hst
      clear hu hps
      repeat' ((fail_if_success at_builtin); (first | go_skip | go_guarded | go_step))
      clear i1 hlt hY hsz b1 b3 b6 bz
      go_loopw [10] (fun uJ wr => ∃ j : Nat, j ≤ m ∧ uJ = .int .i64 (j : Int) ∧ Below w1.heap.size w1 wr ∧ fin = bestP l y k (ps.drop j)) (fun uJ _ => m - (intOf uJ).toNat)
      case atStart => exact ⟨0, by omega, rfl, hb1, hst.out⟩
      case round =>
        clear hst hb hb1
        obtain ⟨j, hj, rfl, hb1, hu⟩ := hrel
        have hY := zY.map (fun t => hb1.cell (p := ⟨w.heap.size, 0 + t, none⟩) zz)
        have hsz : w.heap.size < wr.heap.size := Nat.lt_of_lt_of_le zz hb1.size
        have hb := hb0.trans (hb1.mono hb0.size)
        have b1 := hY.c1
        have b3 := hY.c3
        have b6 := hY.c6
        simp only [Nat.zero_add] at b1 b3 b6
        have bz : w.heap.size < wr.heap.size := hsz
        by_cases hlj : j < m
        · have hlj2 : j < ps.length := by have := hm.out; omega
          have hq : ps[j]? = some ps[j] := List.getElem?_eq_getElem hlj2
          obtain ⟨bq, oq, hAq, hbq, hcq⟩ := strs_at hs2.out hlj hq
          subst hAq
          rw [List.drop_eq_getElem_cons hlj2, bestP] at hu
          have ks := (hb.cell (p := ⟨bq, oq + j, none⟩) hbq).trans hcq
          generalize ps[j] = q at *
          have j0 : (0 : Int) ≤ (j : Int) := by omega
          have j1 : (j : Int) < (m : Int) := by omega
          have j2 : IntKind.i64.wrap ((j : Int) + 1) = (j : Int) + 1 := IntWalk.i64_in _ (by omega)
          clear hq
          cases hky : keyP k y with
          | true =>
            have hky' : (y.key.toList == k.toList) = true := hky
            have hf : fin = true := by rw [hu, hky]; rfl
            replace hf := Lib.hid hf
            repeat' ((fail_if_success at_builtin); (first | go_skip | go_guarded | go_step))
            go_ret
            exact ⟨ret_b hf.out.symm, hb⟩
          | false =>
            have hky' : (y.key.toList == k.toList) = false := hky
            rw [hky, if_neg (by simp)] at hu
            cases hp : preP q y with
            | true =>
              have hsel : Lib.hasPrefix y.key.data.toList q.data.toList = true := hp
              rw [hp, if_pos rfl] at hu
              have hst : fin = (l.drop 0).all (fun x => !(preP q x && decide (y.created < x.created))) := hu
              replace hst := Lib.hid hst
              clear hu
              have hS1 : Below wr.heap.size wr wr.drew ∧ Below w.heap.size w wr.drew ∧ wr.drew.cell? ⟨w.heap.size, 3, none⟩ = some (.string y.key) ∧ wr.drew.cell? ⟨bq, oq + j, none⟩ = some (.string q) := ⟨(Below.refl _ _).drew, hb.drew, b3, ks⟩
              repeat' ((fail_if_success at_builtin); (first | go_skip | go_guarded | go_step))
              refine wp_region_held_drew (S := fun w' => Below wr.heap.size wr w' ∧ Below w.heap.size w w' ∧ w'.cell? ⟨w.heap.size, 3, none⟩ = some (.string y.key) ∧ w'.cell? ⟨bq, oq + j, none⟩ = some (.string q)) (by kernel_rfl) ?_ (fun hHeld => ?_)
              · (try dsimp only)
                exact hS1
              refine tkY 0 (v := ?v698) rfl (.inl ⟨by rfl, ?hy698⟩) ?hr698
              case hy698 => (intro w hSw; (try dsimp only at hSw); go_simp; try with_reducible rfl)
              simp only [Act.put, List.getElem_toArray, List.getElem_cons_zero, List.getElem_cons_succ, List.setIfInBounds_toArray, List.set_cons_zero, List.set_cons_succ]
              refine tkY 1 (v := ?v699) rfl (.inl ⟨by rfl, ?hy699⟩) ?hr699
              case hy699 => (intro w hSw; (try dsimp only at hSw); go_simp; try with_reducible rfl)
              simp only [Act.put, List.getElem_toArray, List.getElem_cons_zero, List.getElem_cons_succ, List.setIfInBounds_toArray, List.set_cons_zero, List.set_cons_succ]
              refine tkY 2 (v := ?v700) rfl (.inl ⟨by rfl, ?hy700⟩) ?hr700
              case hy700 => (intro w hSw; (try dsimp only at hSw); go_simp; try with_reducible rfl)
              simp only [Act.put, List.getElem_toArray, List.getElem_cons_zero, List.getElem_cons_succ, List.setIfInBounds_toArray, List.set_cons_zero, List.set_cons_succ]
              refine tkY 3 (v := ?v701) rfl (.inl ⟨by rfl, ?hy701⟩) ?hr701
              case hy701 => (intro w hSw; (try dsimp only at hSw); go_simp; try with_reducible rfl)
              simp only [Act.put, List.getElem_toArray, List.getElem_cons_zero, List.getElem_cons_succ, List.setIfInBounds_toArray, List.set_cons_zero, List.set_cons_succ]
              refine tkY 4 (v := ?v702) rfl (.inl ⟨by rfl, ?hy702⟩) ?hr702
              case hy702 => (intro w hSw; (try dsimp only at hSw); go_simp; try with_reducible rfl)
              simp only [Act.put, List.getElem_toArray, List.getElem_cons_zero, List.getElem_cons_succ, List.setIfInBounds_toArray, List.set_cons_zero, List.set_cons_succ]
              refine tkY 5 (v := ?v703) rfl (.inl ⟨by rfl, ?hy703⟩) ?hr703
              case hy703 => (intro w hSw; (try dsimp only at hSw); go_simp; try with_reducible rfl)
              simp only [Act.put, List.getElem_toArray, List.getElem_cons_zero, List.getElem_cons_succ, List.setIfInBounds_toArray, List.set_cons_zero, List.set_cons_succ]
              refine wpAnyH_ready (rs := [6]) (by kernel_rfl) (by simp) ?_
              refine AllReadyH.cons rfl (fun K hK => ?_) AllReadyH.nil
              go_simp
              go_at_call 57
              refine (begins2_any _ _ _).mono ?_
              rintro e v9 ⟨rfl, rfl⟩
              dsimp only
              (try rw [hsel])
              (try simp only [hsel])
              refine hK.out _ _ ?_ (fun hHeld => ?_)
              · (try dsimp only)
                exact hHeld
              clear hK K
              try simp only [Act.put, List.getElem_toArray, List.getElem_cons_zero, List.getElem_cons_succ, List.setIfInBounds_toArray, List.set_cons_zero, List.set_cons_succ]
              refine wpAnyH_done (by kernel_rfl) ?_ _
              have hbw := hHeld.1
              have hb9 := hHeld.2.1
              repeat' ((fail_if_success at_builtin); (first | go_skip | go_guarded | go_step))
              clear hY hsz b1 b3 b6 bz ks hS1 hHeld
              go_loopw [11] (fun uI wr => ∃ i : Nat, i ≤ n ∧ uI = .int .i64 (i : Int) ∧ Below w1.heap.size w1 wr ∧ fin = (l.drop i).all (fun x => !(preP q x && decide (y.created < x.created)))) (fun uI _ => n - (intOf uI).toNat)
              case atStart => exact ⟨0, by omega, rfl, hb1.trans (hbw.mono hb1.size), hst.out⟩
              case round =>
                clear hst hb hb1 hbw hb9 hsel
                obtain ⟨i, hi, rfl, hb1, hu⟩ := hrel
                have hY := zY.map (fun t => hb1.cell (p := ⟨w.heap.size, 0 + t, none⟩) zz)
                have hsz : w.heap.size < wr.heap.size := Nat.lt_of_lt_of_le zz hb1.size
                have hb := hb0.trans (hb1.mono hb0.size)
                have b1 := hY.c1
                have b3 := hY.c3
                have b6 := hY.c6
                simp only [Nat.zero_add] at b1 b3 b6
                have bz : w.heap.size < wr.heap.size := hsz
                have ks := (hb.cell (p := ⟨bq, oq + j, none⟩) hbq).trans hcq
                by_cases hlt : i < n
                · have hlt2 : i < l.length := by have := hn.out; omega
                  have hx : l[i]? = some l[i] := List.getElem?_eq_getElem hlt2
                  obtain ⟨bl, off, hAl, hbB, hc⟩ := ent_at hs.out hn.out hx
                  rw [List.drop_eq_getElem_cons hlt2, List.all_cons] at hu
                  obtain ⟨c0, c1, c2', c3, c4, c5, c6, c7⟩ := hc.map (fun j => hb.cell (p := ⟨bl, off + i * 8 + j, none⟩) hbB)
                  generalize l[i] = x at *
                  have i0 : (0 : Int) ≤ (i : Int) := by omega
                  have i1 : (i : Int) < (n : Int) := by omega
                  have i2 : IntKind.i64.wrap ((i : Int) + 1) = (i : Int) + 1 := IntWalk.i64_in _ (by omega)
                  clear c0 c2' c4 c5 c7 hc hx
                  subst hAl
                  cases hpx : preP q x with
                  | false =>
                    have hsel : Lib.hasPrefix x.key.data.toList q.data.toList = false := hpx
                    rw [hpx] at hu
                    simp only [Bool.true_and, Bool.false_and, Bool.not_true, Bool.not_false, Bool.or_false, Bool.false_or, Bool.true_or] at hu
                    replace hu := Lib.hid hu
                    have hS1 : Below wr.heap.size wr wr.drew ∧ Below w.heap.size w wr.drew ∧ wr.drew.cell? ⟨bl, off + i * 8 + 3, none⟩ = some (.string x.key) ∧ wr.drew.cell? ⟨bl, off + i * 8 + 6, none⟩ = some (.int .i64 x.created) ∧ wr.drew.cell? ⟨w.heap.size, 6, none⟩ = some (.int .i64 y.created) ∧ wr.drew.cell? ⟨bq, oq + j, none⟩ = some (.string q) := ⟨(Below.refl _ _).drew, hb.drew, c3, c6, b6, ks⟩
                    repeat' ((fail_if_success at_builtin); (first | go_skip | go_guarded | go_step))
                    refine wp_region_held_drew (S := fun w' => Below wr.heap.size wr w' ∧ Below w.heap.size w w' ∧ w'.cell? ⟨bl, off + i * 8 + 3, none⟩ = some (.string x.key) ∧ w'.cell? ⟨bl, off + i * 8 + 6, none⟩ = some (.int .i64 x.created) ∧ w'.cell? ⟨w.heap.size, 6, none⟩ = some (.int .i64 y.created) ∧ w'.cell? ⟨bq, oq + j, none⟩ = some (.string q)) (by kernel_rfl) ?_ (fun hHeld => ?_)
                    · (try dsimp only)
                      exact hS1
                    refine tkY 0 (v := ?v710) rfl (.inl ⟨by rfl, ?hy710⟩) ?hr710
                    case hy710 => (intro w hSw; (try dsimp only at hSw); go_simp; try with_reducible rfl)
                    simp only [Act.put, List.getElem_toArray, List.getElem_cons_zero, List.getElem_cons_succ, List.setIfInBounds_toArray, List.set_cons_zero, List.set_cons_succ]
                    refine tkY 1 (v := ?v711) rfl (.inl ⟨by rfl, ?hy711⟩) ?hr711
                    case hy711 => (intro w hSw; (try dsimp only at hSw); go_simp; try with_reducible rfl)
                    simp only [Act.put, List.getElem_toArray, List.getElem_cons_zero, List.getElem_cons_succ, List.setIfInBounds_toArray, List.set_cons_zero, List.set_cons_succ]
                    refine tkY 2 (v := ?v712) rfl (.inl ⟨by rfl, ?hy712⟩) ?hr712
                    case hy712 => (intro w hSw; (try dsimp only at hSw); go_simp; try with_reducible rfl)
                    simp only [Act.put, List.getElem_toArray, List.getElem_cons_zero, List.getElem_cons_succ, List.setIfInBounds_toArray, List.set_cons_zero, List.set_cons_succ]
                    refine tkY 3 (v := ?v713) rfl (.inl ⟨by rfl, ?hy713⟩) ?hr713
                    case hy713 => (intro w hSw; (try dsimp only at hSw); go_simp; try with_reducible rfl)
                    simp only [Act.put, List.getElem_toArray, List.getElem_cons_zero, List.getElem_cons_succ, List.setIfInBounds_toArray, List.set_cons_zero, List.set_cons_succ]
                    refine tkY 4 (v := ?v714) rfl (.inl ⟨by rfl, ?hy714⟩) ?hr714
                    case hy714 => (intro w hSw; (try dsimp only at hSw); go_simp; try with_reducible rfl)
                    simp only [Act.put, List.getElem_toArray, List.getElem_cons_zero, List.getElem_cons_succ, List.setIfInBounds_toArray, List.set_cons_zero, List.set_cons_succ]
                    refine tkY 5 (v := ?v715) rfl (.inl ⟨by rfl, ?hy715⟩) ?hr715
                    case hy715 => (intro w hSw; (try dsimp only at hSw); go_simp; try with_reducible rfl)
                    simp only [Act.put, List.getElem_toArray, List.getElem_cons_zero, List.getElem_cons_succ, List.setIfInBounds_toArray, List.set_cons_zero, List.set_cons_succ]
                    refine tkY 6 (v := ?v716) rfl (.inl ⟨by rfl, ?hy716⟩) ?hr716
                    case hy716 => (intro w hSw; (try dsimp only at hSw); go_simp; try with_reducible rfl)
                    simp only [Act.put, List.getElem_toArray, List.getElem_cons_zero, List.getElem_cons_succ, List.setIfInBounds_toArray, List.set_cons_zero, List.set_cons_succ]
                    refine tkY 7 (v := ?v717) rfl (.inl ⟨by rfl, ?hy717⟩) ?hr717
                    case hy717 => (intro w hSw; (try dsimp only at hSw); go_simp; try with_reducible rfl)
                    simp only [Act.put, List.getElem_toArray, List.getElem_cons_zero, List.getElem_cons_succ, List.setIfInBounds_toArray, List.set_cons_zero, List.set_cons_succ]
                    refine tkY 8 (v := ?v718) rfl (.inl ⟨by rfl, ?hy718⟩) ?hr718
                    case hy718 => (intro w hSw; (try dsimp only at hSw); go_simp; try with_reducible rfl)
                    simp only [Act.put, List.getElem_toArray, List.getElem_cons_zero, List.getElem_cons_succ, List.setIfInBounds_toArray, List.set_cons_zero, List.set_cons_succ]
                    refine wpAnyH_ready (rs := [9]) (by kernel_rfl) (by simp) ?_
                    refine AllReadyH.cons rfl (fun K hK => ?_) AllReadyH.nil
                    go_simp
                    go_at_call 57
                    refine (begins2_any _ _ _).mono ?_
                    rintro e v9 ⟨rfl, rfl⟩
                    dsimp only
                    (try rw [hsel])
                    (try simp only [hsel])
                    refine hK.out _ _ ?_ (fun hHeld => ?_)
                    · (try dsimp only)
                      exact hHeld
                    clear hK K
                    try simp only [Act.put, List.getElem_toArray, List.getElem_cons_zero, List.getElem_cons_succ, List.setIfInBounds_toArray, List.set_cons_zero, List.set_cons_succ]
                    refine tkY 10 (v := ?v719) rfl (.inl ⟨by rfl, ?hy719⟩) ?hr719
                    case hy719 => (intro w hSw; (try dsimp only at hSw); go_simp; try with_reducible rfl)
                    simp only [Act.put, List.getElem_toArray, List.getElem_cons_zero, List.getElem_cons_succ, List.setIfInBounds_toArray, List.set_cons_zero, List.set_cons_succ]
                    refine tkN 11 rfl ?_
                    simp only [Act.put, List.getElem_toArray, List.getElem_cons_zero, List.getElem_cons_succ, List.setIfInBounds_toArray, List.set_cons_zero, List.set_cons_succ]
                    refine tkN 12 rfl ?_
                    simp only [Act.put, List.getElem_toArray, List.getElem_cons_zero, List.getElem_cons_succ, List.setIfInBounds_toArray, List.set_cons_zero, List.set_cons_succ]
                    refine tkN 13 rfl ?_
                    simp only [Act.put, List.getElem_toArray, List.getElem_cons_zero, List.getElem_cons_succ, List.setIfInBounds_toArray, List.set_cons_zero, List.set_cons_succ]
                    refine tkN 14 rfl ?_
                    simp only [Act.put, List.getElem_toArray, List.getElem_cons_zero, List.getElem_cons_succ, List.setIfInBounds_toArray, List.set_cons_zero, List.set_cons_succ]
                    refine tkN 15 rfl ?_
                    simp only [Act.put, List.getElem_toArray, List.getElem_cons_zero, List.getElem_cons_succ, List.setIfInBounds_toArray, List.set_cons_zero, List.set_cons_succ]
                    refine tkN 16 rfl ?_
                    simp only [Act.put, List.getElem_toArray, List.getElem_cons_zero, List.getElem_cons_succ, List.setIfInBounds_toArray, List.set_cons_zero, List.set_cons_succ]
                    refine tkN 17 rfl ?_
                    simp only [Act.put, List.getElem_toArray, List.getElem_cons_zero, List.getElem_cons_succ, List.setIfInBounds_toArray, List.set_cons_zero, List.set_cons_succ]
                    refine tkN 18 rfl ?_
                    simp only [Act.put, List.getElem_toArray, List.getElem_cons_zero, List.getElem_cons_succ, List.setIfInBounds_toArray, List.set_cons_zero, List.set_cons_succ]
                    refine tkY 19 (v := ?v720) rfl (.inl ⟨by rfl, ?hy720⟩) ?hr720
                    case hy720 => (intro w hSw; (try dsimp only at hSw); go_simp; try with_reducible rfl)
                    simp only [Act.put, List.getElem_toArray, List.getElem_cons_zero, List.getElem_cons_succ, List.setIfInBounds_toArray, List.set_cons_zero, List.set_cons_succ]
                    refine wpAnyH_done (by kernel_rfl) ?_ _
                    have hbw := hHeld.1
                    have hb9 := hHeld.2.1
                    repeat' ((fail_if_success at_builtin); (first | go_skip | go_guarded | go_step))
                    go_roundw
                    case rel => exact ⟨i + 1, by omega, by go_num, hb1.trans (hbw.mono hb1.size), hu.out⟩
                    case measure => simp [intOf]; omega
                  | true =>
                    have hsel : Lib.hasPrefix x.key.data.toList q.data.toList = true := hpx
                    by_cases ht : y.created < x.created
                    · have hf : fin = false := by rw [hu, hpx, decide_eq_true ht]; rfl
                      replace hf := Lib.hid hf
                      have hS1 : Below wr.heap.size wr wr.drew ∧ Below w.heap.size w wr.drew ∧ wr.drew.cell? ⟨bl, off + i * 8 + 3, none⟩ = some (.string x.key) ∧ wr.drew.cell? ⟨bl, off + i * 8 + 6, none⟩ = some (.int .i64 x.created) ∧ wr.drew.cell? ⟨w.heap.size, 6, none⟩ = some (.int .i64 y.created) ∧ wr.drew.cell? ⟨bq, oq + j, none⟩ = some (.string q) := ⟨(Below.refl _ _).drew, hb.drew, c3, c6, b6, ks⟩
                      repeat' ((fail_if_success at_builtin); (first | go_skip | go_guarded | go_step))
                      refine wp_region_held_drew (S := fun w' => Below wr.heap.size wr w' ∧ Below w.heap.size w w' ∧ w'.cell? ⟨bl, off + i * 8 + 3, none⟩ = some (.string x.key) ∧ w'.cell? ⟨bl, off + i * 8 + 6, none⟩ = some (.int .i64 x.created) ∧ w'.cell? ⟨w.heap.size, 6, none⟩ = some (.int .i64 y.created) ∧ w'.cell? ⟨bq, oq + j, none⟩ = some (.string q)) (by kernel_rfl) ?_ (fun hHeld => ?_)
                      · (try dsimp only)
                        exact hS1
                      refine tkY 0 (v := ?v721) rfl (.inl ⟨by rfl, ?hy721⟩) ?hr721
                      case hy721 => (intro w hSw; (try dsimp only at hSw); go_simp; try with_reducible rfl)
                      simp only [Act.put, List.getElem_toArray, List.getElem_cons_zero, List.getElem_cons_succ, List.setIfInBounds_toArray, List.set_cons_zero, List.set_cons_succ]
                      refine tkY 1 (v := ?v722) rfl (.inl ⟨by rfl, ?hy722⟩) ?hr722
                      case hy722 => (intro w hSw; (try dsimp only at hSw); go_simp; try with_reducible rfl)
                      simp only [Act.put, List.getElem_toArray, List.getElem_cons_zero, List.getElem_cons_succ, List.setIfInBounds_toArray, List.set_cons_zero, List.set_cons_succ]
                      refine tkY 2 (v := ?v723) rfl (.inl ⟨by rfl, ?hy723⟩) ?hr723
                      case hy723 => (intro w hSw; (try dsimp only at hSw); go_simp; try with_reducible rfl)
                      simp only [Act.put, List.getElem_toArray, List.getElem_cons_zero, List.getElem_cons_succ, List.setIfInBounds_toArray, List.set_cons_zero, List.set_cons_succ]
                      refine tkY 3 (v := ?v724) rfl (.inl ⟨by rfl, ?hy724⟩) ?hr724
                      case hy724 => (intro w hSw; (try dsimp only at hSw); go_simp; try with_reducible rfl)
                      simp only [Act.put, List.getElem_toArray, List.getElem_cons_zero, List.getElem_cons_succ, List.setIfInBounds_toArray, List.set_cons_zero, List.set_cons_succ]
                      refine tkY 4 (v := ?v725) rfl (.inl ⟨by rfl, ?hy725⟩) ?hr725
                      case hy725 => (intro w hSw; (try dsimp only at hSw); go_simp; try with_reducible rfl)
                      simp only [Act.put, List.getElem_toArray, List.getElem_cons_zero, List.getElem_cons_succ, List.setIfInBounds_toArray, List.set_cons_zero, List.set_cons_succ]
                      refine tkY 5 (v := ?v726) rfl (.inl ⟨by rfl, ?hy726⟩) ?hr726
                      case hy726 => (intro w hSw; (try dsimp only at hSw); go_simp; try with_reducible rfl)
                      simp only [Act.put, List.getElem_toArray, List.getElem_cons_zero, List.getElem_cons_succ, List.setIfInBounds_toArray, List.set_cons_zero, List.set_cons_succ]
                      refine tkY 6 (v := ?v727) rfl (.inl ⟨by rfl, ?hy727⟩) ?hr727
                      case hy727 => (intro w hSw; (try dsimp only at hSw); go_simp; try with_reducible rfl)
                      simp only [Act.put, List.getElem_toArray, List.getElem_cons_zero, List.getElem_cons_succ, List.setIfInBounds_toArray, List.set_cons_zero, List.set_cons_succ]
                      refine tkY 7 (v := ?v728) rfl (.inl ⟨by rfl, ?hy728⟩) ?hr728
                      case hy728 => (intro w hSw; (try dsimp only at hSw); go_simp; try with_reducible rfl)
                      simp only [Act.put, List.getElem_toArray, List.getElem_cons_zero, List.getElem_cons_succ, List.setIfInBounds_toArray, List.set_cons_zero, List.set_cons_succ]
                      refine tkY 8 (v := ?v729) rfl (.inl ⟨by rfl, ?hy729⟩) ?hr729
                      case hy729 => (intro w hSw; (try dsimp only at hSw); go_simp; try with_reducible rfl)
                      simp only [Act.put, List.getElem_toArray, List.getElem_cons_zero, List.getElem_cons_succ, List.setIfInBounds_toArray, List.set_cons_zero, List.set_cons_succ]
                      refine wpAnyH_ready (rs := [9]) (by kernel_rfl) (by simp) ?_
                      refine AllReadyH.cons rfl (fun K hK => ?_) AllReadyH.nil
                      go_simp
                      go_at_call 57
                      refine (begins2_any _ _ _).mono ?_
                      rintro e v9 ⟨rfl, rfl⟩
                      dsimp only
                      (try rw [hsel])
                      (try simp only [hsel])
                      refine hK.out _ _ ?_ (fun hHeld => ?_)
                      · (try dsimp only)
                        exact hHeld
                      clear hK K
                      try simp only [Act.put, List.getElem_toArray, List.getElem_cons_zero, List.getElem_cons_succ, List.setIfInBounds_toArray, List.set_cons_zero, List.set_cons_succ]
                      refine tkY 10 (v := ?v730) rfl (.inl ⟨by rfl, ?hy730⟩) ?hr730
                      case hy730 => (intro w hSw; (try dsimp only at hSw); go_simp; try with_reducible rfl)
                      simp only [Act.put, List.getElem_toArray, List.getElem_cons_zero, List.getElem_cons_succ, List.setIfInBounds_toArray, List.set_cons_zero, List.set_cons_succ]
                      refine tkY 11 (v := ?v731) rfl (.inl ⟨by rfl, ?hy731⟩) ?hr731
                      case hy731 => (intro w hSw; (try dsimp only at hSw); go_simp; try with_reducible rfl)
                      simp only [Act.put, List.getElem_toArray, List.getElem_cons_zero, List.getElem_cons_succ, List.setIfInBounds_toArray, List.set_cons_zero, List.set_cons_succ]
                      refine tkY 12 (v := ?v732) rfl (.inl ⟨by rfl, ?hy732⟩) ?hr732
                      case hy732 => (intro w hSw; (try dsimp only at hSw); go_simp; try with_reducible rfl)
                      simp only [Act.put, List.getElem_toArray, List.getElem_cons_zero, List.getElem_cons_succ, List.setIfInBounds_toArray, List.set_cons_zero, List.set_cons_succ]
                      refine tkY 13 (v := ?v733) rfl (.inl ⟨by rfl, ?hy733⟩) ?hr733
                      case hy733 => (intro w hSw; (try dsimp only at hSw); go_simp; try with_reducible rfl)
                      simp only [Act.put, List.getElem_toArray, List.getElem_cons_zero, List.getElem_cons_succ, List.setIfInBounds_toArray, List.set_cons_zero, List.set_cons_succ]
                      refine tkY 14 (v := ?v734) rfl (.inl ⟨by rfl, ?hy734⟩) ?hr734
                      case hy734 => (intro w hSw; (try dsimp only at hSw); go_simp; try with_reducible rfl)
                      simp only [Act.put, List.getElem_toArray, List.getElem_cons_zero, List.getElem_cons_succ, List.setIfInBounds_toArray, List.set_cons_zero, List.set_cons_succ]
                      refine tkY 15 (v := ?v735) rfl (.inl ⟨by rfl, ?hy735⟩) ?hr735
                      case hy735 => (intro w hSw; (try dsimp only at hSw); go_simp; try with_reducible rfl)
                      simp only [Act.put, List.getElem_toArray, List.getElem_cons_zero, List.getElem_cons_succ, List.setIfInBounds_toArray, List.set_cons_zero, List.set_cons_succ]
                      refine tkY 16 (v := ?v736) rfl (.inl ⟨by rfl, ?hy736⟩) ?hr736
                      case hy736 => (intro w hSw; (try dsimp only at hSw); go_simp; try with_reducible rfl)
                      simp only [Act.put, List.getElem_toArray, List.getElem_cons_zero, List.getElem_cons_succ, List.setIfInBounds_toArray, List.set_cons_zero, List.set_cons_succ]
                      refine tkY 17 (v := ?v737) rfl (.inl ⟨by rfl, ?hy737⟩) ?hr737
                      case hy737 => (intro w hSw; (try dsimp only at hSw); go_simp; try with_reducible rfl)
                      simp only [Act.put, List.getElem_toArray, List.getElem_cons_zero, List.getElem_cons_succ, List.setIfInBounds_toArray, List.set_cons_zero, List.set_cons_succ]
                      refine tkY 18 (v := ?v738) rfl (.inl ⟨by rfl, ?hy738⟩) ?hr738
                      case hy738 => (intro w hSw; (try dsimp only at hSw); go_simp; try with_reducible rfl)
                      simp only [Act.put, List.getElem_toArray, List.getElem_cons_zero, List.getElem_cons_succ, List.setIfInBounds_toArray, List.set_cons_zero, List.set_cons_succ]
                      refine tkY 19 (v := ?v739) rfl (.inl ⟨by rfl, ?hy739⟩) ?hr739
                      case hy739 => (intro w hSw; (try dsimp only at hSw); go_simp; try with_reducible rfl)
                      simp only [Act.put, List.getElem_toArray, List.getElem_cons_zero, List.getElem_cons_succ, List.setIfInBounds_toArray, List.set_cons_zero, List.set_cons_succ]
                      refine wpAnyH_done (by kernel_rfl) ?_ _
                      have hbw := hHeld.1
                      have hb9 := hHeld.2.1
                      repeat' ((fail_if_success at_builtin); (first | go_skip | go_guarded | go_step))
                      go_ret
                      exact ⟨ret_b hf.out.symm, hb9⟩
                    · rw [hpx, decide_eq_false ht] at hu
                      simp only [Bool.true_and, Bool.false_and, Bool.not_true, Bool.not_false] at hu
                      replace hu := Lib.hid hu
                      have hS1 : Below wr.heap.size wr wr.drew ∧ Below w.heap.size w wr.drew ∧ wr.drew.cell? ⟨bl, off + i * 8 + 3, none⟩ = some (.string x.key) ∧ wr.drew.cell? ⟨bl, off + i * 8 + 6, none⟩ = some (.int .i64 x.created) ∧ wr.drew.cell? ⟨w.heap.size, 6, none⟩ = some (.int .i64 y.created) ∧ wr.drew.cell? ⟨bq, oq + j, none⟩ = some (.string q) := ⟨(Below.refl _ _).drew, hb.drew, c3, c6, b6, ks⟩
                      repeat' ((fail_if_success at_builtin); (first | go_skip | go_guarded | go_step))
                      refine wp_region_held_drew (S := fun w' => Below wr.heap.size wr w' ∧ Below w.heap.size w w' ∧ w'.cell? ⟨bl, off + i * 8 + 3, none⟩ = some (.string x.key) ∧ w'.cell? ⟨bl, off + i * 8 + 6, none⟩ = some (.int .i64 x.created) ∧ w'.cell? ⟨w.heap.size, 6, none⟩ = some (.int .i64 y.created) ∧ w'.cell? ⟨bq, oq + j, none⟩ = some (.string q)) (by kernel_rfl) ?_ (fun hHeld => ?_)
                      · (try dsimp only)
                        exact hS1
                      refine tkY 0 (v := ?v740) rfl (.inl ⟨by rfl, ?hy740⟩) ?hr740
                      case hy740 => (intro w hSw; (try dsimp only at hSw); go_simp; try with_reducible rfl)
                      simp only [Act.put, List.getElem_toArray, List.getElem_cons_zero, List.getElem_cons_succ, List.setIfInBounds_toArray, List.set_cons_zero, List.set_cons_succ]
                      refine tkY 1 (v := ?v741) rfl (.inl ⟨by rfl, ?hy741⟩) ?hr741
                      case hy741 => (intro w hSw; (try dsimp only at hSw); go_simp; try with_reducible rfl)
                      simp only [Act.put, List.getElem_toArray, List.getElem_cons_zero, List.getElem_cons_succ, List.setIfInBounds_toArray, List.set_cons_zero, List.set_cons_succ]
                      refine tkY 2 (v := ?v742) rfl (.inl ⟨by rfl, ?hy742⟩) ?hr742
                      case hy742 => (intro w hSw; (try dsimp only at hSw); go_simp; try with_reducible rfl)
                      simp only [Act.put, List.getElem_toArray, List.getElem_cons_zero, List.getElem_cons_succ, List.setIfInBounds_toArray, List.set_cons_zero, List.set_cons_succ]
                      refine tkY 3 (v := ?v743) rfl (.inl ⟨by rfl, ?hy743⟩) ?hr743
                      case hy743 => (intro w hSw; (try dsimp only at hSw); go_simp; try with_reducible rfl)
                      simp only [Act.put, List.getElem_toArray, List.getElem_cons_zero, List.getElem_cons_succ, List.setIfInBounds_toArray, List.set_cons_zero, List.set_cons_succ]
                      refine tkY 4 (v := ?v744) rfl (.inl ⟨by rfl, ?hy744⟩) ?hr744
                      case hy744 => (intro w hSw; (try dsimp only at hSw); go_simp; try with_reducible rfl)
                      simp only [Act.put, List.getElem_toArray, List.getElem_cons_zero, List.getElem_cons_succ, List.setIfInBounds_toArray, List.set_cons_zero, List.set_cons_succ]
                      refine tkY 5 (v := ?v745) rfl (.inl ⟨by rfl, ?hy745⟩) ?hr745
                      case hy745 => (intro w hSw; (try dsimp only at hSw); go_simp; try with_reducible rfl)
                      simp only [Act.put, List.getElem_toArray, List.getElem_cons_zero, List.getElem_cons_succ, List.setIfInBounds_toArray, List.set_cons_zero, List.set_cons_succ]
                      refine tkY 6 (v := ?v746) rfl (.inl ⟨by rfl, ?hy746⟩) ?hr746
                      case hy746 => (intro w hSw; (try dsimp only at hSw); go_simp; try with_reducible rfl)
                      simp only [Act.put, List.getElem_toArray, List.getElem_cons_zero, List.getElem_cons_succ, List.setIfInBounds_toArray, List.set_cons_zero, List.set_cons_succ]
                      refine tkY 7 (v := ?v747) rfl (.inl ⟨by rfl, ?hy747⟩) ?hr747
                      case hy747 => (intro w hSw; (try dsimp only at hSw); go_simp; try with_reducible rfl)
                      simp only [Act.put, List.getElem_toArray, List.getElem_cons_zero, List.getElem_cons_succ, List.setIfInBounds_toArray, List.set_cons_zero, List.set_cons_succ]
                      refine tkY 8 (v := ?v748) rfl (.inl ⟨by rfl, ?hy748⟩) ?hr748
                      case hy748 => (intro w hSw; (try dsimp only at hSw); go_simp; try with_reducible rfl)
                      simp only [Act.put, List.getElem_toArray, List.getElem_cons_zero, List.getElem_cons_succ, List.setIfInBounds_toArray, List.set_cons_zero, List.set_cons_succ]
                      refine wpAnyH_ready (rs := [9]) (by kernel_rfl) (by simp) ?_
                      refine AllReadyH.cons rfl (fun K hK => ?_) AllReadyH.nil
                      go_simp
                      go_at_call 57
                      refine (begins2_any _ _ _).mono ?_
                      rintro e v9 ⟨rfl, rfl⟩
                      dsimp only
                      (try rw [hsel])
                      (try simp only [hsel])
                      refine hK.out _ _ ?_ (fun hHeld => ?_)
                      · (try dsimp only)
                        exact hHeld
                      clear hK K
                      try simp only [Act.put, List.getElem_toArray, List.getElem_cons_zero, List.getElem_cons_succ, List.setIfInBounds_toArray, List.set_cons_zero, List.set_cons_succ]
                      refine tkY 10 (v := ?v749) rfl (.inl ⟨by rfl, ?hy749⟩) ?hr749
                      case hy749 => (intro w hSw; (try dsimp only at hSw); go_simp; try with_reducible rfl)
                      simp only [Act.put, List.getElem_toArray, List.getElem_cons_zero, List.getElem_cons_succ, List.setIfInBounds_toArray, List.set_cons_zero, List.set_cons_succ]
                      refine tkY 11 (v := ?v750) rfl (.inl ⟨by rfl, ?hy750⟩) ?hr750
                      case hy750 => (intro w hSw; (try dsimp only at hSw); go_simp; try with_reducible rfl)
                      simp only [Act.put, List.getElem_toArray, List.getElem_cons_zero, List.getElem_cons_succ, List.setIfInBounds_toArray, List.set_cons_zero, List.set_cons_succ]
                      refine tkY 12 (v := ?v751) rfl (.inl ⟨by rfl, ?hy751⟩) ?hr751
                      case hy751 => (intro w hSw; (try dsimp only at hSw); go_simp; try with_reducible rfl)
                      simp only [Act.put, List.getElem_toArray, List.getElem_cons_zero, List.getElem_cons_succ, List.setIfInBounds_toArray, List.set_cons_zero, List.set_cons_succ]
                      refine tkY 13 (v := ?v752) rfl (.inl ⟨by rfl, ?hy752⟩) ?hr752
                      case hy752 => (intro w hSw; (try dsimp only at hSw); go_simp; try with_reducible rfl)
                      simp only [Act.put, List.getElem_toArray, List.getElem_cons_zero, List.getElem_cons_succ, List.setIfInBounds_toArray, List.set_cons_zero, List.set_cons_succ]
                      refine tkY 14 (v := ?v753) rfl (.inl ⟨by rfl, ?hy753⟩) ?hr753
                      case hy753 => (intro w hSw; (try dsimp only at hSw); go_simp; try with_reducible rfl)
                      simp only [Act.put, List.getElem_toArray, List.getElem_cons_zero, List.getElem_cons_succ, List.setIfInBounds_toArray, List.set_cons_zero, List.set_cons_succ]
                      refine tkY 15 (v := ?v754) rfl (.inl ⟨by rfl, ?hy754⟩) ?hr754
                      case hy754 => (intro w hSw; (try dsimp only at hSw); go_simp; try with_reducible rfl)
                      simp only [Act.put, List.getElem_toArray, List.getElem_cons_zero, List.getElem_cons_succ, List.setIfInBounds_toArray, List.set_cons_zero, List.set_cons_succ]
                      refine tkY 16 (v := ?v755) rfl (.inl ⟨by rfl, ?hy755⟩) ?hr755
                      case hy755 => (intro w hSw; (try dsimp only at hSw); go_simp; try with_reducible rfl)
                      simp only [Act.put, List.getElem_toArray, List.getElem_cons_zero, List.getElem_cons_succ, List.setIfInBounds_toArray, List.set_cons_zero, List.set_cons_succ]
                      refine tkY 17 (v := ?v756) rfl (.inl ⟨by rfl, ?hy756⟩) ?hr756
                      case hy756 => (intro w hSw; (try dsimp only at hSw); go_simp; try with_reducible rfl)
                      simp only [Act.put, List.getElem_toArray, List.getElem_cons_zero, List.getElem_cons_succ, List.setIfInBounds_toArray, List.set_cons_zero, List.set_cons_succ]
                      refine tkY 18 (v := ?v757) rfl (.inl ⟨by rfl, ?hy757⟩) ?hr757
                      case hy757 => (intro w hSw; (try dsimp only at hSw); go_simp; try with_reducible rfl)
                      simp only [Act.put, List.getElem_toArray, List.getElem_cons_zero, List.getElem_cons_succ, List.setIfInBounds_toArray, List.set_cons_zero, List.set_cons_succ]
                      refine tkY 19 (v := ?v758) rfl (.inl ⟨by rfl, ?hy758⟩) ?hr758
                      case hy758 => (intro w hSw; (try dsimp only at hSw); go_simp; try with_reducible rfl)
                      simp only [Act.put, List.getElem_toArray, List.getElem_cons_zero, List.getElem_cons_succ, List.setIfInBounds_toArray, List.set_cons_zero, List.set_cons_succ]
                      refine wpAnyH_done (by kernel_rfl) ?_ _
                      have hbw := hHeld.1
                      have hb9 := hHeld.2.1
                      repeat' ((fail_if_success at_builtin); (first | go_skip | go_guarded | go_step))
                      go_roundw
                      case rel => exact ⟨i + 1, by omega, by go_num, hb1.trans (hbw.mono hb1.size), hu.out⟩
                      case measure => simp [intOf]; omega
                · have i1 : ¬ ((i : Int) < (n : Int)) := by omega
                  rw [List.drop_of_length_le (by have := hn.out; omega), List.all_nil] at hu
                  replace hu := Lib.hid hu
                  repeat' ((fail_if_success at_builtin); (first | go_skip | go_guarded | go_step))
                  go_ret
                  exact ⟨ret_b hu.out.symm, hb⟩
            | false =>
              have hsel : Lib.hasPrefix y.key.data.toList q.data.toList = false := hp
              rw [hp, if_neg (by simp)] at hu
              replace hu := Lib.hid hu
              have hS1 : Below wr.heap.size wr wr.drew ∧ Below w.heap.size w wr.drew ∧ wr.drew.cell? ⟨w.heap.size, 3, none⟩ = some (.string y.key) ∧ wr.drew.cell? ⟨bq, oq + j, none⟩ = some (.string q) := ⟨(Below.refl _ _).drew, hb.drew, b3, ks⟩
              repeat' ((fail_if_success at_builtin); (first | go_skip | go_guarded | go_step))
              refine wp_region_held_drew (S := fun w' => Below wr.heap.size wr w' ∧ Below w.heap.size w w' ∧ w'.cell? ⟨w.heap.size, 3, none⟩ = some (.string y.key) ∧ w'.cell? ⟨bq, oq + j, none⟩ = some (.string q)) (by kernel_rfl) ?_ (fun hHeld => ?_)
              · (try dsimp only)
                exact hS1
              refine tkY 0 (v := ?v704) rfl (.inl ⟨by rfl, ?hy704⟩) ?hr704
              case hy704 => (intro w hSw; (try dsimp only at hSw); go_simp; try with_reducible rfl)
              simp only [Act.put, List.getElem_toArray, List.getElem_cons_zero, List.getElem_cons_succ, List.setIfInBounds_toArray, List.set_cons_zero, List.set_cons_succ]
              refine tkY 1 (v := ?v705) rfl (.inl ⟨by rfl, ?hy705⟩) ?hr705
              case hy705 => (intro w hSw; (try dsimp only at hSw); go_simp; try with_reducible rfl)
              simp only [Act.put, List.getElem_toArray, List.getElem_cons_zero, List.getElem_cons_succ, List.setIfInBounds_toArray, List.set_cons_zero, List.set_cons_succ]
              refine tkY 2 (v := ?v706) rfl (.inl ⟨by rfl, ?hy706⟩) ?hr706
              case hy706 => (intro w hSw; (try dsimp only at hSw); go_simp; try with_reducible rfl)
              simp only [Act.put, List.getElem_toArray, List.getElem_cons_zero, List.getElem_cons_succ, List.setIfInBounds_toArray, List.set_cons_zero, List.set_cons_succ]
              refine tkY 3 (v := ?v707) rfl (.inl ⟨by rfl, ?hy707⟩) ?hr707
              case hy707 => (intro w hSw; (try dsimp only at hSw); go_simp; try with_reducible rfl)
              simp only [Act.put, List.getElem_toArray, List.getElem_cons_zero, List.getElem_cons_succ, List.setIfInBounds_toArray, List.set_cons_zero, List.set_cons_succ]
              refine tkY 4 (v := ?v708) rfl (.inl ⟨by rfl, ?hy708⟩) ?hr708
              case hy708 => (intro w hSw; (try dsimp only at hSw); go_simp; try with_reducible rfl)
              simp only [Act.put, List.getElem_toArray, List.getElem_cons_zero, List.getElem_cons_succ, List.setIfInBounds_toArray, List.set_cons_zero, List.set_cons_succ]
              refine tkY 5 (v := ?v709) rfl (.inl ⟨by rfl, ?hy709⟩) ?hr709
              case hy709 => (intro w hSw; (try dsimp only at hSw); go_simp; try with_reducible rfl)
              simp only [Act.put, List.getElem_toArray, List.getElem_cons_zero, List.getElem_cons_succ, List.setIfInBounds_toArray, List.set_cons_zero, List.set_cons_succ]
              refine wpAnyH_ready (rs := [6]) (by kernel_rfl) (by simp) ?_
              refine AllReadyH.cons rfl (fun K hK => ?_) AllReadyH.nil
              go_simp
              go_at_call 57
              refine (begins2_any _ _ _).mono ?_
              rintro e v9 ⟨rfl, rfl⟩
              dsimp only
              (try rw [hsel])
              (try simp only [hsel])
              refine hK.out _ _ ?_ (fun hHeld => ?_)
              · (try dsimp only)
                exact hHeld
              clear hK K
              try simp only [Act.put, List.getElem_toArray, List.getElem_cons_zero, List.getElem_cons_succ, List.setIfInBounds_toArray, List.set_cons_zero, List.set_cons_succ]
              refine wpAnyH_done (by kernel_rfl) ?_ _
              have hbw := hHeld.1
              have hb9 := hHeld.2.1
              repeat' ((fail_if_success at_builtin); (first | go_skip | go_guarded | go_step))
              clear hY hsz b1 b3 b6 bz ks hS1 hHeld hsel
              have k1 : (j : Int) ≤ (c2 : Int) := by omega
              have k3 : (j : Int) + 1 ≤ (m : Int) := by omega
              have k4 : (m : Int) ≤ (c2 : Int) := by omega
              have k5 : (0 : Int) ≤ (j : Int) + 1 := by omega
              have k6 : ¬ c2 = j := by omega
              repeat' ((fail_if_success at_builtin); (first | go_skip | go_guarded | go_step))
              refine (CP.out _ hb9 bq oq j q _ hbq hcq).mono ?_
              rintro e w9 ⟨rfl, hbp⟩
              dsimp only
              have hu2 := hu.out
              clear hu k1 k3 k4 k5 k6
              have hbx := hb9.trans (hbp.mono hb9.size)
              have hby := hb1.trans ((hbw.trans (hbp.mono hbw.size)).mono hb1.size)
              generalize possS l k [q] = pv at *
              cases pv with
              | true =>
                have hf : fin = false := hu2
                replace hf := Lib.hid hf
                clear hu2
                repeat' ((fail_if_success at_builtin); (first | go_skip | go_guarded | go_step))
                go_ret
                exact ⟨ret_b hf.out.symm, hbx⟩
              | false =>
                have hu : fin = bestP l y k (ps.drop (j + 1)) := hu2
                replace hu := Lib.hid hu
                clear hu2
                repeat' ((fail_if_success at_builtin); (first | go_skip | go_guarded | go_step))
                go_roundw
                case rel => exact ⟨j + 1, by omega, by go_num, hby, hu.out⟩
                case measure => simp [intOf]; omega
        · have j1 : ¬ ((j : Int) < (m : Int)) := by omega
          rw [List.drop_of_length_le (by have := hm.out; omega)] at hu
          replace hu := Lib.hid hu
          repeat' ((fail_if_success at_builtin); (first | go_skip | go_guarded | go_step))
          go_ret
          exact ⟨ret_b hu.out.symm, hb⟩
end Go.Proofs.YtpdlapdnjmoaoaaDoor
