/- Typing: Same. -/
import Derived.Test.YtgcpffbaejodiaaDoorTyI
namespace Go.Proofs.YtgcpffbaejodiaaDoor
open Go.RowKit
set_option maxRecDepth 100000 in
set_option maxHeartbeats 6000000 in
theorem same_any (a : VT) : ∀ (b : VT) (xa : Int) (A : Option Addr) (n c : Nat) (xb : Int) (A2 : Option Addr) (n2 c2 : Nat) (w : World), a.Ok → b.Ok → RVB w w.heap.size a [.int .i64 xa, .slice A n c] → RVB w w.heap.size b [.int .i64 xb, .slice A2 n2 c2] →
  Calls Tryd.prog 15 #[.agg #[.int .i64 xa, .slice A n c], .agg #[.int .i64 xb, .slice A2 n2 c2]] w fun e w' => e = .returned (.bool (decide (a = b))) ∧ Below w.heap.size w w' := by
 induction a with
 | base k =>
  intro b xa A n c xb A2 n2 c2 w hoa hob ha hb0
  obtain ⟨rfl, rfl, _⟩ := rv_base ha
  cases b with
  | base j =>
   obtain ⟨rfl, rfl, _⟩ := rv_base hb0
   by_cases hkj : k = j
   ·
    subst hkj
    have hv : decide (VT.base k = VT.base k) = true := by simp
    replace hv := Lib.hid hv
    clear ha hb0
    have gN : ((k : Int) != (k : Int)) = false := by simp
    go_enter Tryd.func15, Tryd.ntmps15
    go_upto_region 1 with (fail)
    generalize hx_ : World.alloc (World.alloc w _) _ = wo1
    have hO1 : OwnB w wo1 [(w.heap.size + 1, [.int .i64 (k : Int), .slice A2 0 c2]), (w.heap.size, [.int .i64 (k : Int), .slice A 0 c])] := by rw [← hx_]; exact ((OwnB.refl w).new #[.int .i64 (k : Int), .slice A 0 c] _ (g := w.heap.size)).new #[.int .i64 (k : Int), .slice A2 0 c2] _ (g := w.heap.size + 1)
    clear hx_
    have c0_0 := hO1.c 0 0
    have c0_1 := hO1.c 0 1
    have cf0 := hO1.fr 0
    have c1_0 := hO1.c 1 0
    have c1_1 := hO1.c 1 1
    have cf1 := hO1.fr 1
    have hb1 := hO1.below
    repeat' ((fail_if_success at_builtin); (first | go_skip | go_guarded | go_step))
    go_loopw [5] (fun u5 wr => u5 = .int .i64 0 ∧ OwnB w wr [(w.heap.size + 1, [.int .i64 (k : Int), .slice A2 0 c2]), (w.heap.size, [.int .i64 (k : Int), .slice A 0 c])]) (fun _ _ => 0)
    case atStart => exact ⟨rfl, hO1⟩
    case round =>
     clear c0_0 c0_1 cf0 c1_0 c1_1 cf1 hO1
     obtain ⟨rfl, hO⟩ := hrel
     have hO1 : OwnB w wr [(w.heap.size + 1, [.int .i64 (k : Int), .slice A2 0 c2]), (w.heap.size, [.int .i64 (k : Int), .slice A 0 c])] := hO
     have c0_0 := hO1.c 0 0
     have c0_1 := hO1.c 0 1
     have cf0 := hO1.fr 0
     have c1_0 := hO1.c 1 0
     have c1_1 := hO1.c 1 1
     have cf1 := hO1.fr 1
     have hb2 := hO1.below
     repeat' ((fail_if_success at_builtin); (first | go_skip | go_guarded | go_step))
     go_ret
     exact ⟨retB (by first | (rw [hv.out]; done) | simp), hb2⟩
   ·
    have hv : decide (VT.base k = VT.base j) = false := by simp [hkj]
    replace hv := Lib.hid hv
    clear ha hb0
    have gN : ((k : Int) != (j : Int)) = true := by simp; omega
    go_enter Tryd.func15, Tryd.ntmps15
    go_upto_region 1 with (fail)
    generalize hx_ : World.alloc (World.alloc w _) _ = wo1
    have hO1 : OwnB w wo1 [(w.heap.size + 1, [.int .i64 (j : Int), .slice A2 0 c2]), (w.heap.size, [.int .i64 (k : Int), .slice A 0 c])] := by rw [← hx_]; exact ((OwnB.refl w).new #[.int .i64 (k : Int), .slice A 0 c] _ (g := w.heap.size)).new #[.int .i64 (j : Int), .slice A2 0 c2] _ (g := w.heap.size + 1)
    clear hx_
    have c0_0 := hO1.c 0 0
    have c0_1 := hO1.c 0 1
    have cf0 := hO1.fr 0
    have c1_0 := hO1.c 1 0
    have c1_1 := hO1.c 1 1
    have cf1 := hO1.fr 1
    have hb1 := hO1.below
    repeat' ((fail_if_success at_builtin); (first | go_skip | go_guarded | go_step))
    go_ret
    exact ⟨retB (by rw [hv.out]), hb1⟩
  | of j f =>
   obtain ⟨rfl, rfl, _⟩ := rv_of hb0
   have hv : decide (VT.base k = VT.of j f) = false := by simp
   replace hv := Lib.hid hv
   have hj := hob.1
   have hk5 := hoa.2
   clear ha hb0
   have gN : ((k : Int) != (j : Int)) = true := by simp; omega
   go_enter Tryd.func15, Tryd.ntmps15
   go_upto_region 1 with (fail)
   generalize hx_ : World.alloc (World.alloc w _) _ = wo1
   have hO1 : OwnB w wo1 [(w.heap.size + 1, [.int .i64 (j : Int), .slice A2 1 c2]), (w.heap.size, [.int .i64 (k : Int), .slice A 0 c])] := by rw [← hx_]; exact ((OwnB.refl w).new #[.int .i64 (k : Int), .slice A 0 c] _ (g := w.heap.size)).new #[.int .i64 (j : Int), .slice A2 1 c2] _ (g := w.heap.size + 1)
   clear hx_
   have c0_0 := hO1.c 0 0
   have c0_1 := hO1.c 0 1
   have cf0 := hO1.fr 0
   have c1_0 := hO1.c 1 0
   have c1_1 := hO1.c 1 1
   have cf1 := hO1.fr 1
   have hb1 := hO1.below
   repeat' ((fail_if_success at_builtin); (first | go_skip | go_guarded | go_step))
   go_ret
   exact ⟨retB (by rw [hv.out]), hb1⟩
 | of k e ih =>
  intro b xa A n c xb A2 n2 c2 w hoa hob ha hb0
  have hk := hoa.1
  cases b with
  | base j =>
   obtain ⟨rfl, rfl, _⟩ := rv_of ha
   obtain ⟨rfl, rfl, _⟩ := rv_base hb0
   have hj5 := hob.2
   have hv : decide (VT.of k e = VT.base j) = false := by simp
   replace hv := Lib.hid hv
   clear ha hb0 ih
   have gN : ((k : Int) != (j : Int)) = true := by simp; omega
   go_enter Tryd.func15, Tryd.ntmps15
   go_upto_region 1 with (fail)
   generalize hx_ : World.alloc (World.alloc w _) _ = wo1
   have hO1 : OwnB w wo1 [(w.heap.size + 1, [.int .i64 (j : Int), .slice A2 0 c2]), (w.heap.size, [.int .i64 (k : Int), .slice A 1 c])] := by rw [← hx_]; exact ((OwnB.refl w).new #[.int .i64 (k : Int), .slice A 1 c] _ (g := w.heap.size)).new #[.int .i64 (j : Int), .slice A2 0 c2] _ (g := w.heap.size + 1)
   clear hx_
   have c0_0 := hO1.c 0 0
   have c0_1 := hO1.c 0 1
   have cf0 := hO1.fr 0
   have c1_0 := hO1.c 1 0
   have c1_1 := hO1.c 1 1
   have cf1 := hO1.fr 1
   have hb1 := hO1.below
   repeat' ((fail_if_success at_builtin); (first | go_skip | go_guarded | go_step))
   go_ret
   exact ⟨retB (by rw [hv.out]), hb1⟩
  | of j f =>
   by_cases hkj : k = j
   ·
    subst hkj
    have hv : decide (VT.of k e = VT.of k f) = decide (e = f) := by simp
    replace hv := Lib.hid hv
    have hoa2 := hoa.2
    have hob2 := hob.2
    obtain ⟨rfl, rfl, hc, ba, oa, A1, n1, c1, rfl, hbSa, x0, x1, hre⟩ := rv_of ha
    obtain ⟨rfl, rfl, hc2, bb, ob, A3, n3, c3, rfl, hbSb, z0, z1, hrf⟩ := rv_of hb0
    have hc1i : (1 : Int) ≤ (c : Int) := by omega
    have hc2i : (1 : Int) ≤ (c2 : Int) := by omega
    replace ih := Lib.hid ih
    clear ha hb0
    have gN : ((k : Int) != (k : Int)) = false := by simp
    go_enter Tryd.func15, Tryd.ntmps15
    go_upto_region 1 with (fail)
    generalize hx_ : World.alloc (World.alloc w _) _ = wo1
    have hO1 : OwnB w wo1 [(w.heap.size + 1, [.int .i64 (k : Int), .slice (some ⟨bb, ob, none⟩) 1 c2]), (w.heap.size, [.int .i64 (k : Int), .slice (some ⟨ba, oa, none⟩) 1 c])] := by rw [← hx_]; exact ((OwnB.refl w).new #[.int .i64 (k : Int), .slice (some ⟨ba, oa, none⟩) 1 c] _ (g := w.heap.size)).new #[.int .i64 (k : Int), .slice (some ⟨bb, ob, none⟩) 1 c2] _ (g := w.heap.size + 1)
    clear hx_
    have c0_0 := hO1.c 0 0
    have c0_1 := hO1.c 0 1
    have cf0 := hO1.fr 0
    have c1_0 := hO1.c 1 0
    have c1_1 := hO1.c 1 1
    have cf1 := hO1.fr 1
    have hb1 := hO1.below
    repeat' ((fail_if_success at_builtin); (first | go_skip | go_guarded | go_step))
    go_loopw [5] (fun u5 wr => ∃ i : Nat, i ≤ 1 ∧ u5 = .int .i64 (i : Int) ∧ OwnB w wr [(w.heap.size + 1, [.int .i64 (k : Int), .slice (some ⟨bb, ob, none⟩) 1 c2]), (w.heap.size, [.int .i64 (k : Int), .slice (some ⟨ba, oa, none⟩) 1 c])] ∧ (i = 1 → e = f)) (fun u5 _ => 1 - (intOf u5).toNat)
    case atStart => exact ⟨0, by omega, rfl, hO1, fun h => by cases h⟩
    case round =>
     clear c0_0 c0_1 cf0 c1_0 c1_1 cf1 hO1
     obtain ⟨i, hi, rfl, hO, hef⟩ := hrel
     have hO1 : OwnB w wr [(w.heap.size + 1, [.int .i64 (k : Int), .slice (some ⟨bb, ob, none⟩) 1 c2]), (w.heap.size, [.int .i64 (k : Int), .slice (some ⟨ba, oa, none⟩) 1 c])] := hO
     have c0_0 := hO1.c 0 0
     have c0_1 := hO1.c 0 1
     have cf0 := hO1.fr 0
     have c1_0 := hO1.c 1 0
     have c1_1 := hO1.c 1 1
     have cf1 := hO1.fr 1
     have hb0 := hO1.below
     rcases (show i = 0 ∨ i = 1 by omega) with rfl | rfl
     ·
      clear hef
      replace x0 := (hb0.cell (p := ⟨ba, oa, none⟩) hbSa).trans x0
      replace x1 := (hb0.cell (p := ⟨ba, oa + 1, none⟩) hbSa).trans x1
      replace z0 := (hb0.cell (p := ⟨bb, ob, none⟩) hbSb).trans z0
      replace z1 := (hb0.cell (p := ⟨bb, ob + 1, none⟩) hbSb).trans z1
      have hre := Lib.hid (RVB.at_ hre hb0)
      have hrf := Lib.hid (RVB.at_ hrf hb0)
      have la : ba < wr.heap.size := Nat.lt_of_lt_of_le hbSa hb0.size
      have lb : bb < wr.heap.size := Nat.lt_of_lt_of_le hbSb hb0.size
      have l2 := hO1.lt 1
      have l1 := hO1.lt 0
      have hS : ∀ w', Below wr.heap.size wr w' → (Below wr.heap.size wr w' ∧ w'.cell? ⟨w.heap.size, 0, none⟩ = some (.int .i64 (k : Int)) ∧ w'.cell? ⟨w.heap.size, 1, none⟩ = some (.slice (some ⟨ba, oa, none⟩) 1 c) ∧ w'.cell? ⟨w.heap.size + 1, 0, none⟩ = some (.int .i64 (k : Int)) ∧ w'.cell? ⟨w.heap.size + 1, 1, none⟩ = some (.slice (some ⟨bb, ob, none⟩) 1 c2) ∧ w'.cell? ⟨ba, oa, none⟩ = some (.int .i64 (e.kind : Int)) ∧ w'.cell? ⟨ba, oa + 1, none⟩ = some (.slice A1 n1 c1) ∧ w'.cell? ⟨bb, ob, none⟩ = some (.int .i64 (f.kind : Int)) ∧ w'.cell? ⟨bb, ob + 1, none⟩ = some (.slice A3 n3 c3)) := fun w' h => ⟨h, (h.cell (p := ⟨w.heap.size, 0, none⟩) l2).trans c1_0, (h.cell (p := ⟨w.heap.size, 1, none⟩) l2).trans c1_1, (h.cell (p := ⟨w.heap.size + 1, 0, none⟩) l1).trans c0_0, (h.cell (p := ⟨w.heap.size + 1, 1, none⟩) l1).trans c0_1, (h.cell (p := ⟨ba, oa, none⟩) la).trans x0, (h.cell (p := ⟨ba, oa + 1, none⟩) la).trans x1, (h.cell (p := ⟨bb, ob, none⟩) lb).trans z0, (h.cell (p := ⟨bb, ob + 1, none⟩) lb).trans z1⟩
      have keepS : ∀ w' w'', (Below wr.heap.size wr w' ∧ w'.cell? ⟨w.heap.size, 0, none⟩ = some (.int .i64 (k : Int)) ∧ w'.cell? ⟨w.heap.size, 1, none⟩ = some (.slice (some ⟨ba, oa, none⟩) 1 c) ∧ w'.cell? ⟨w.heap.size + 1, 0, none⟩ = some (.int .i64 (k : Int)) ∧ w'.cell? ⟨w.heap.size + 1, 1, none⟩ = some (.slice (some ⟨bb, ob, none⟩) 1 c2) ∧ w'.cell? ⟨ba, oa, none⟩ = some (.int .i64 (e.kind : Int)) ∧ w'.cell? ⟨ba, oa + 1, none⟩ = some (.slice A1 n1 c1) ∧ w'.cell? ⟨bb, ob, none⟩ = some (.int .i64 (f.kind : Int)) ∧ w'.cell? ⟨bb, ob + 1, none⟩ = some (.slice A3 n3 c3)) → Below w'.heap.size w' w'' → (Below wr.heap.size wr w'' ∧ w''.cell? ⟨w.heap.size, 0, none⟩ = some (.int .i64 (k : Int)) ∧ w''.cell? ⟨w.heap.size, 1, none⟩ = some (.slice (some ⟨ba, oa, none⟩) 1 c) ∧ w''.cell? ⟨w.heap.size + 1, 0, none⟩ = some (.int .i64 (k : Int)) ∧ w''.cell? ⟨w.heap.size + 1, 1, none⟩ = some (.slice (some ⟨bb, ob, none⟩) 1 c2) ∧ w''.cell? ⟨ba, oa, none⟩ = some (.int .i64 (e.kind : Int)) ∧ w''.cell? ⟨ba, oa + 1, none⟩ = some (.slice A1 n1 c1) ∧ w''.cell? ⟨bb, ob, none⟩ = some (.int .i64 (f.kind : Int)) ∧ w''.cell? ⟨bb, ob + 1, none⟩ = some (.slice A3 n3 c3)) := fun w' w'' h hq => hS _ (h.1.trans (hq.mono h.1.size))
      have hS1 := hS wr.drew (Below.refl _ _).drew
      replace keepS := Lib.hid keepS
      clear hS x0 x1 z0 z1
      have i2 : IntKind.i64.wrap (((0 : Nat) : Int) + 1) = 1 := by decide
      repeat' ((fail_if_success at_builtin); (first | go_skip | go_guarded | go_step))
      refine wp_region_held_drew (S := fun w' => Below wr.heap.size wr w' ∧ w'.cell? ⟨w.heap.size, 0, none⟩ = some (.int .i64 (k : Int)) ∧ w'.cell? ⟨w.heap.size, 1, none⟩ = some (.slice (some ⟨ba, oa, none⟩) 1 c) ∧ w'.cell? ⟨w.heap.size + 1, 0, none⟩ = some (.int .i64 (k : Int)) ∧ w'.cell? ⟨w.heap.size + 1, 1, none⟩ = some (.slice (some ⟨bb, ob, none⟩) 1 c2) ∧ w'.cell? ⟨ba, oa, none⟩ = some (.int .i64 (e.kind : Int)) ∧ w'.cell? ⟨ba, oa + 1, none⟩ = some (.slice A1 n1 c1) ∧ w'.cell? ⟨bb, ob, none⟩ = some (.int .i64 (f.kind : Int)) ∧ w'.cell? ⟨bb, ob + 1, none⟩ = some (.slice A3 n3 c3)) (by kernel_rfl) ?_ (fun hHeld => ?_)
      ·
       (try dsimp only)
       exact hS1
      refine tkY 0 (v := ?v7) rfl (.inl ⟨by rfl, ?hy7⟩) ?hr7
      case hy7 => (intro w hSw; (try dsimp only at hSw); go_simp; try with_reducible rfl)
      simp only [Act.put, List.getElem_toArray, List.getElem_cons_zero, List.setIfInBounds_toArray, List.set_cons_zero, List.set_cons_succ]
      refine tkY 1 (v := ?v8) rfl (.inl ⟨by rfl, ?hy8⟩) ?hr8
      case hy8 => (intro w hSw; (try dsimp only at hSw); go_simp; try with_reducible rfl)
      simp only [Act.put, List.getElem_toArray, List.getElem_cons_zero, List.getElem_cons_succ, List.setIfInBounds_toArray, List.set_cons_zero, List.set_cons_succ]
      refine tkY 2 (v := ?v9) rfl (.inl ⟨by rfl, ?hy9⟩) ?hr9
      case hy9 => (intro w hSw; (try dsimp only at hSw); go_simp; try with_reducible rfl)
      simp only [Act.put, List.getElem_toArray, List.getElem_cons_zero, List.getElem_cons_succ, List.setIfInBounds_toArray, List.set_cons_zero, List.set_cons_succ]
      refine tkY 3 (v := ?v10) rfl (.inl ⟨by rfl, ?hy10⟩) ?hr10
      case hy10 => (intro w hSw; (try dsimp only at hSw); go_simp; try with_reducible rfl)
      simp only [Act.put, List.getElem_toArray, List.getElem_cons_zero, List.getElem_cons_succ, List.setIfInBounds_toArray, List.set_cons_zero, List.set_cons_succ]
      refine tkY 4 (v := ?v11) rfl (.inl ⟨by rfl, ?hy11⟩) ?hr11
      case hy11 => (intro w hSw; (try dsimp only at hSw); go_simp; try with_reducible rfl)
      simp only [Act.put, List.getElem_toArray, List.getElem_cons_zero, List.getElem_cons_succ, List.setIfInBounds_toArray, List.set_cons_zero, List.set_cons_succ]
      refine tkY 5 (v := ?v12) rfl (.inl ⟨by rfl, ?hy12⟩) ?hr12
      case hy12 => (intro w hSw; (try dsimp only at hSw); go_simp; try with_reducible rfl)
      simp only [Act.put, List.getElem_toArray, List.getElem_cons_zero, List.getElem_cons_succ, List.setIfInBounds_toArray, List.set_cons_zero, List.set_cons_succ]
      refine tkY 6 (v := ?v13) rfl (.inl ⟨by rfl, ?hy13⟩) ?hr13
      case hy13 => (intro w hSw; (try dsimp only at hSw); go_simp; try with_reducible rfl)
      simp only [Act.put, List.getElem_toArray, List.getElem_cons_zero, List.getElem_cons_succ, List.setIfInBounds_toArray, List.set_cons_zero, List.set_cons_succ]
      refine tkY 7 (v := ?v14) rfl (.inl ⟨by rfl, ?hy14⟩) ?hr14
      case hy14 => (intro w hSw; (try dsimp only at hSw); go_simp; try with_reducible rfl)
      simp only [Act.put, List.getElem_toArray, List.getElem_cons_zero, List.getElem_cons_succ, List.setIfInBounds_toArray, List.set_cons_zero, List.set_cons_succ]
      refine tkY 8 (v := ?v15) rfl (.inl ⟨by rfl, ?hy15⟩) ?hr15
      case hy15 => (intro w hSw; (try dsimp only at hSw); go_simp; try with_reducible rfl)
      simp only [Act.put, List.getElem_toArray, List.getElem_cons_zero, List.getElem_cons_succ, List.setIfInBounds_toArray, List.set_cons_zero, List.set_cons_succ]
      refine tkY 9 (v := ?v16) rfl (.inl ⟨by rfl, ?hy16⟩) ?hr16
      case hy16 => (intro w hSw; (try dsimp only at hSw); go_simp; try with_reducible rfl)
      simp only [Act.put, List.getElem_toArray, List.getElem_cons_zero, List.getElem_cons_succ, List.setIfInBounds_toArray, List.set_cons_zero, List.set_cons_succ]
      refine wpAnyH_ready (rs := [10]) (by kernel_rfl) (by simp) ?_
      refine AllReadyH.cons rfl (fun K hK => ?_) AllReadyH.nil
      go_simp
      go_at_call 15
      refine (ih.out f _ A1 n1 c1 _ A3 n3 c3 _ hoa2 hob2 (RVB.at_ hre.out hHeld.1) (RVB.at_ hrf.out hHeld.1)).mono ?_
      rintro e7 w7 ⟨rfl, hbq⟩
      dsimp only
      refine hK.out _ _ ?_ (fun hHeld => ?_)
      ·
       (try dsimp only)
       exact keepS.out _ _ hHeld hbq
      clear hK K
      try simp only [Act.put, List.getElem_toArray, List.getElem_cons_zero, List.getElem_cons_succ, List.setIfInBounds_toArray, List.set_cons_zero, List.set_cons_succ]
      refine tkY 11 (v := ?v17) rfl (.inl ⟨by rfl, ?hy17⟩) ?hr17
      case hy17 => (intro w hSw; (try dsimp only at hSw); go_simp; try with_reducible rfl)
      simp only [Act.put, List.getElem_toArray, List.getElem_cons_zero, List.getElem_cons_succ, List.setIfInBounds_toArray, List.set_cons_zero, List.set_cons_succ]
      refine wpAnyH_done (by kernel_rfl) ?_ _
      have hO9 := hO1.kept hHeld.1
      have hb6 := hO9.below
      by_cases hef : e = f
      ·
       have hd : decide (e = f) = true := by simp [hef]
       rw [hd]
       replace hef := Lib.hid hef
       repeat' ((fail_if_success at_builtin); (first | go_skip | go_guarded | go_step))
       go_roundw
       case rel => exact ⟨1, by omega, by go_num, hO9, fun _ => hef.out⟩
       case measure => simp [intOf]
      ·
       have hd : decide (e = f) = false := by simp [hef]
       rw [hd]
       have hv2 : decide (VT.of k e = VT.of k f) = false := by rw [hv.out, hd]
       replace hv2 := Lib.hid hv2
       clear hef hd
       repeat' ((fail_if_success at_builtin); (first | go_skip | go_guarded | go_step))
       go_ret
       exact ⟨retB (by rw [hv2.out]), hb6⟩
     ·
      have hv2 : decide (VT.of k e = VT.of k f) = true := by rw [hv.out, hef rfl]; simp
      replace hv2 := Lib.hid hv2
      clear hef
      repeat' ((fail_if_success at_builtin); (first | go_skip | go_guarded | go_step))
      go_ret
      exact ⟨retB (by rw [hv2.out]), hb0⟩
   ·
    have hv : decide (VT.of k e = VT.of j f) = false := by simp [hkj]
    replace hv := Lib.hid hv
    obtain ⟨rfl, rfl, _⟩ := rv_of ha
    obtain ⟨rfl, rfl, _⟩ := rv_of hb0
    clear ha hb0 ih
    have gN : ((k : Int) != (j : Int)) = true := by simp; omega
    go_enter Tryd.func15, Tryd.ntmps15
    go_upto_region 1 with (fail)
    generalize hx_ : World.alloc (World.alloc w _) _ = wo1
    have hO1 : OwnB w wo1 [(w.heap.size + 1, [.int .i64 (j : Int), .slice A2 1 c2]), (w.heap.size, [.int .i64 (k : Int), .slice A 1 c])] := by rw [← hx_]; exact ((OwnB.refl w).new #[.int .i64 (k : Int), .slice A 1 c] _ (g := w.heap.size)).new #[.int .i64 (j : Int), .slice A2 1 c2] _ (g := w.heap.size + 1)
    clear hx_
    have c0_0 := hO1.c 0 0
    have c0_1 := hO1.c 0 1
    have cf0 := hO1.fr 0
    have c1_0 := hO1.c 1 0
    have c1_1 := hO1.c 1 1
    have cf1 := hO1.fr 1
    have hb1 := hO1.below
    repeat' ((fail_if_success at_builtin); (first | go_skip | go_guarded | go_step))
    go_ret
    exact ⟨retB (by rw [hv.out]), hb1⟩
end Go.Proofs.YtgcpffbaejodiaaDoor
