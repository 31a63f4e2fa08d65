/- Typing: the document's contained. -/
import Derived.Test.YtgcpffbaejodiaaDoorTyI
namespace Go.Proofs.YtgcpffbaejodiaaDoor
open Go.RowKit
set_option maxRecDepth 100000 in
set_option maxHeartbeats 6000000 in
theorem contained_any (a : VT) : ∀ (b : VT) (xa : Int) (A : Option Addr) (n c : Nat) (xb : Int) (A2 : Option Addr) (n2 c2 : Nat) (w : World), a.Ok → b.Ok → RVB w w.heap.size a [.int .i64 xa, .slice A n c] → RVB w w.heap.size b [.int .i64 xb, .slice A2 n2 c2] →
  Calls Tryd.prog 39 #[.agg #[.int .i64 xa, .slice A n c], .agg #[.int .i64 xb, .slice A2 n2 c2]] w fun e w' => e = .returned (.bool (VT.sub a b)) ∧ Below w.heap.size w w' := by
 induction a with
 | base k =>
  intro b xa A n c xb A2 n2 c2 w hoa hob ha hb0
  obtain ⟨rfl, rfl, _⟩ := rv_base ha
  by_cases hk : k = 7
  ·
   have hv : VT.sub (VT.base k) b = true := by subst hk; cases b <;> simp [VT.sub]
   replace hv := Lib.hid hv
   obtain ⟨b1, b2, b3, hbf⟩ := hb0.form
   have hxb : xb = (b.kind : Int) := by injection hbf with e1 _; injection e1
   subst hxb
   subst hk
   clear ha hbf
   go_enter Tryd.func39, Tryd.ntmps39
   go_upto_region 1 with (fail)
   generalize hx_ : World.alloc (World.alloc w _) _ = wo1
   have hO1 : OwnB w wo1 [(w.heap.size + 1, [.int .i64 (b.kind : Int), .slice A2 n2 c2]), (w.heap.size, [.int .i64 7, .slice A 0 c])] := by rw [← hx_]; exact ((OwnB.refl w).new #[.int .i64 7, .slice A 0 c] _ (g := w.heap.size)).new #[.int .i64 (b.kind : Int), .slice A2 n2 c2] _ (g := w.heap.size + 1)
   clear hx_
   have c0_0 := hO1.c 0 0
   have c0_1 := hO1.c 0 1
   have cf0 := hO1.fr 0
   have c1_0 := hO1.c 1 0
   have c1_1 := hO1.c 1 1
   have cf1 := hO1.fr 1
   have hb1 := hO1.below
   repeat' ((fail_if_success at_builtin); (first | go_skip | go_guarded | go_step))
   go_ret
   exact ⟨retB (by rw [hv.out]), hb1⟩
  ·
   cases b with
   | base j =>
    obtain ⟨rfl, rfl, _⟩ := rv_base hb0
    by_cases hj : j = 0
    ·
     have hv : VT.sub (VT.base k) (VT.base j) = true := by subst hj; simp [VT.sub]
     replace hv := Lib.hid hv
     subst hj
     clear ha hb0
     have gA : ((k : Int) == 7) = false := by simp; omega
     go_enter Tryd.func39, Tryd.ntmps39
     go_upto_region 1 with (fail)
     generalize hx_ : World.alloc (World.alloc w _) _ = wo1
     have hO1 : OwnB w wo1 [(w.heap.size + 1, [.int .i64 0, .slice A2 0 c2]), (w.heap.size, [.int .i64 (k : Int), .slice A 0 c])] := by rw [← hx_]; exact ((OwnB.refl w).new #[.int .i64 (k : Int), .slice A 0 c] _ (g := w.heap.size)).new #[.int .i64 0, .slice A2 0 c2] _ (g := w.heap.size + 1)
     clear hx_
     have c0_0 := hO1.c 0 0
     have c0_1 := hO1.c 0 1
     have cf0 := hO1.fr 0
     have c1_0 := hO1.c 1 0
     have c1_1 := hO1.c 1 1
     have cf1 := hO1.fr 1
     have hb1 := hO1.below
     repeat' ((fail_if_success at_builtin); (first | go_skip | go_guarded | go_step))
     go_ret
     exact ⟨retB (by rw [hv.out]), hb1⟩
    ·
     by_cases hkj : k = j
     ·
      subst hkj
      have hv : VT.sub (VT.base k) (VT.base k) = true := by simp [VT.sub]
      replace hv := Lib.hid hv
      have hh := holds_base hoa
      replace hh := Lib.hid hh
      clear ha hb0
      have gA : ((k : Int) == 7) = false := by simp; omega
      have gB : ((k : Int) == 0) = false := by simp; omega
      have gN : ((k : Int) != (k : Int)) = false := by simp
      go_enter Tryd.func39, Tryd.ntmps39
      go_upto_region 1 with (fail)
      generalize hx_ : World.alloc (World.alloc w _) _ = wo1
      have hO1 : OwnB w wo1 [(w.heap.size + 1, [.int .i64 (k : Int), .slice A2 0 c2]), (w.heap.size, [.int .i64 (k : Int), .slice A 0 c])] := by rw [← hx_]; exact ((OwnB.refl w).new #[.int .i64 (k : Int), .slice A 0 c] _ (g := w.heap.size)).new #[.int .i64 (k : Int), .slice A2 0 c2] _ (g := w.heap.size + 1)
      clear hx_
      have c0_0 := hO1.c 0 0
      have c0_1 := hO1.c 0 1
      have cf0 := hO1.fr 0
      have c1_0 := hO1.c 1 0
      have c1_1 := hO1.c 1 1
      have cf1 := hO1.fr 1
      have hb1 := hO1.below
      have l1 := hO1.lt 1
      have hS1 : Below wo1.heap.size wo1 wo1.drew ∧ wo1.drew.cell? ⟨w.heap.size, 0, none⟩ = some (.int .i64 (k : Int)) := ⟨(Below.refl _ _).drew, c1_0⟩
      have keepS : ∀ w' w'', (Below wo1.heap.size wo1 w' ∧ w'.cell? ⟨w.heap.size, 0, none⟩ = some (.int .i64 (k : Int))) → Below w'.heap.size w' w'' → (Below wo1.heap.size wo1 w'' ∧ w''.cell? ⟨w.heap.size, 0, none⟩ = some (.int .i64 (k : Int))) := fun w' w'' h hq => ⟨h.1.trans (hq.mono h.1.size), (hq.cell (p := ⟨w.heap.size, 0, none⟩) (Nat.lt_of_lt_of_le l1 h.1.size)).trans h.2⟩
      replace keepS := Lib.hid keepS
      repeat' ((fail_if_success at_builtin); (first | go_skip | go_guarded | go_step))
      refine wp_region_held_drew (S := fun w' => Below wo1.heap.size wo1 w' ∧ w'.cell? ⟨w.heap.size, 0, none⟩ = some (.int .i64 (k : Int))) (by kernel_rfl) ?_ (fun hHeld => ?_)
      ·
       (try dsimp only)
       exact hS1
      refine tkY 0 (v := ?v16) rfl (.inl ⟨by rfl, ?hy16⟩) ?hr16
      case hy16 => (intro w hSw; (try dsimp only at hSw); go_simp; try with_reducible rfl)
      simp only [Act.put, List.getElem_toArray, List.getElem_cons_zero, List.setIfInBounds_toArray, List.set_cons_zero, List.set_cons_succ]
      refine tkY 1 (v := ?v17) rfl (.inl ⟨by rfl, ?hy17⟩) ?hr17
      case hy17 => (intro w hSw; (try dsimp only at hSw); go_simp; try with_reducible rfl)
      simp only [Act.put, List.getElem_toArray, List.getElem_cons_zero, List.getElem_cons_succ, List.setIfInBounds_toArray, List.set_cons_zero, List.set_cons_succ]
      refine wpAnyH_ready (rs := [2]) (by kernel_rfl) (by simp) ?_
      refine AllReadyH.cons rfl (fun K hK => ?_) AllReadyH.nil
      go_simp
      go_at_call 52
      refine (holds_any (k : Int) _).mono ?_
      rintro e7 w7 ⟨rfl, hbq⟩
      dsimp only
      rw [hh.out]
      refine hK.out _ _ ?_ (fun hHeld => ?_)
      ·
       (try dsimp only)
       exact keepS.out _ _ hHeld hbq
      clear hK K
      try simp only [Act.put, List.getElem_toArray, List.getElem_cons_zero, List.getElem_cons_succ, List.setIfInBounds_toArray, List.set_cons_zero, List.set_cons_succ]
      refine tkY 3 (v := ?v18) rfl (.inl ⟨by rfl, ?hy18⟩) ?hr18
      case hy18 => (intro w hSw; (try dsimp only at hSw); go_simp; try with_reducible rfl)
      simp only [Act.put, List.getElem_toArray, List.getElem_cons_zero, List.getElem_cons_succ, List.setIfInBounds_toArray, List.set_cons_zero, List.set_cons_succ]
      refine tkY 4 (v := ?v19) rfl (.inl ⟨by rfl, ?hy19⟩) ?hr19
      case hy19 => (intro w hSw; (try dsimp only at hSw); go_simp; try with_reducible rfl)
      simp only [Act.put, List.getElem_toArray, List.getElem_cons_zero, List.getElem_cons_succ, List.setIfInBounds_toArray, List.set_cons_zero, List.set_cons_succ]
      refine tkN 5 rfl ?_
      simp only [Act.put, List.getElem_toArray, List.getElem_cons_zero, List.getElem_cons_succ, List.setIfInBounds_toArray, List.set_cons_zero, List.set_cons_succ]
      refine tkN 6 rfl ?_
      simp only [Act.put, List.getElem_toArray, List.getElem_cons_zero, List.getElem_cons_succ, List.setIfInBounds_toArray, List.set_cons_zero, List.set_cons_succ]
      refine tkN 7 rfl ?_
      simp only [Act.put, List.getElem_toArray, List.getElem_cons_zero, List.getElem_cons_succ, List.setIfInBounds_toArray, List.set_cons_zero, List.set_cons_succ]
      refine tkN 8 rfl ?_
      simp only [Act.put, List.getElem_toArray, List.getElem_cons_zero, List.getElem_cons_succ, List.setIfInBounds_toArray, List.set_cons_zero, List.set_cons_succ]
      refine tkN 9 rfl ?_
      simp only [Act.put, List.getElem_toArray, List.getElem_cons_zero, List.getElem_cons_succ, List.setIfInBounds_toArray, List.set_cons_zero, List.set_cons_succ]
      refine tkN 10 rfl ?_
      simp only [Act.put, List.getElem_toArray, List.getElem_cons_zero, List.getElem_cons_succ, List.setIfInBounds_toArray, List.set_cons_zero, List.set_cons_succ]
      refine tkN 11 rfl ?_
      simp only [Act.put, List.getElem_toArray, List.getElem_cons_zero, List.getElem_cons_succ, List.setIfInBounds_toArray, List.set_cons_zero, List.set_cons_succ]
      refine tkN 12 rfl ?_
      simp only [Act.put, List.getElem_toArray, List.getElem_cons_zero, List.getElem_cons_succ, List.setIfInBounds_toArray, List.set_cons_zero, List.set_cons_succ]
      refine tkN 13 rfl ?_
      simp only [Act.put, List.getElem_toArray, List.getElem_cons_zero, List.getElem_cons_succ, List.setIfInBounds_toArray, List.set_cons_zero, List.set_cons_succ]
      refine tkY 14 (v := ?v20) rfl (.inl ⟨by rfl, ?hy20⟩) ?hr20
      case hy20 => (intro w hSw; (try dsimp only at hSw); go_simp; try with_reducible rfl)
      simp only [Act.put, List.getElem_toArray, List.getElem_cons_zero, List.getElem_cons_succ, List.setIfInBounds_toArray, List.set_cons_zero, List.set_cons_succ]
      refine tkY 15 (v := ?v21) rfl (.inl ⟨by rfl, ?hy21⟩) ?hr21
      case hy21 => (intro w hSw; (try dsimp only at hSw); go_simp; try with_reducible rfl)
      simp only [Act.put, List.getElem_toArray, List.getElem_cons_zero, List.getElem_cons_succ, List.setIfInBounds_toArray, List.set_cons_zero, List.set_cons_succ]
      refine wpAnyH_done (by kernel_rfl) ?_ _
      have hb6 := hb1.trans (hHeld.1.mono hb1.size)
      repeat' ((fail_if_success at_builtin); (first | go_skip | go_guarded | go_step))
      go_ret
      exact ⟨retB (by rw [hv.out]), hb6⟩
     ·
      have hv : VT.sub (VT.base k) (VT.base j) = false := by simp [VT.sub, hk, hj, hkj]
      replace hv := Lib.hid hv
      clear ha hb0
      have gA : ((k : Int) == 7) = false := by simp; omega
      have gB : ((j : Int) == 0) = false := by simp; omega
      have gN : ((k : Int) != (j : Int)) = true := by simp; omega
      go_enter Tryd.func39, Tryd.ntmps39
      go_upto_region 1 with (fail)
      generalize hx_ : World.alloc (World.alloc w _) _ = wo1
      have hO1 : OwnB w wo1 [(w.heap.size + 1, [.int .i64 (j : Int), .slice A2 0 c2]), (w.heap.size, [.int .i64 (k : Int), .slice A 0 c])] := by rw [← hx_]; exact ((OwnB.refl w).new #[.int .i64 (k : Int), .slice A 0 c] _ (g := w.heap.size)).new #[.int .i64 (j : Int), .slice A2 0 c2] _ (g := w.heap.size + 1)
      clear hx_
      have c0_0 := hO1.c 0 0
      have c0_1 := hO1.c 0 1
      have cf0 := hO1.fr 0
      have c1_0 := hO1.c 1 0
      have c1_1 := hO1.c 1 1
      have cf1 := hO1.fr 1
      have hb1 := hO1.below
      repeat' ((fail_if_success at_builtin); (first | go_skip | go_guarded | go_step))
      go_ret
      exact ⟨retB (by rw [hv.out]), hb1⟩
   | of j f =>
    obtain ⟨rfl, rfl, _⟩ := rv_of hb0
    have hv : VT.sub (VT.base k) (VT.of j f) = false := by simp [VT.sub, hk]
    replace hv := Lib.hid hv
    have hj := hob.1
    have hk5 := hoa.2
    clear ha hb0
    have gA : ((k : Int) == 7) = false := by simp; omega
    have gB : ((j : Int) == 0) = false := by simp; omega
    have gN : ((k : Int) != (j : Int)) = true := by simp; omega
    go_enter Tryd.func39, Tryd.ntmps39
    go_upto_region 1 with (fail)
    generalize hx_ : World.alloc (World.alloc w _) _ = wo1
    have hO1 : OwnB w wo1 [(w.heap.size + 1, [.int .i64 (j : Int), .slice A2 1 c2]), (w.heap.size, [.int .i64 (k : Int), .slice A 0 c])] := by rw [← hx_]; exact ((OwnB.refl w).new #[.int .i64 (k : Int), .slice A 0 c] _ (g := w.heap.size)).new #[.int .i64 (j : Int), .slice A2 1 c2] _ (g := w.heap.size + 1)
    clear hx_
    have c0_0 := hO1.c 0 0
    have c0_1 := hO1.c 0 1
    have cf0 := hO1.fr 0
    have c1_0 := hO1.c 1 0
    have c1_1 := hO1.c 1 1
    have cf1 := hO1.fr 1
    have hb1 := hO1.below
    repeat' ((fail_if_success at_builtin); (first | go_skip | go_guarded | go_step))
    go_ret
    exact ⟨retB (by rw [hv.out]), hb1⟩
 | of k e ih =>
  intro b xa A n c xb A2 n2 c2 w hoa hob ha hb0
  have hk := hoa.1
  cases b with
  | base j =>
   obtain ⟨rfl, rfl, _⟩ := rv_of ha
   obtain ⟨rfl, rfl, _⟩ := rv_base hb0
   have hj5 := hob.2
   clear ih
   by_cases hj : j = 0
   ·
    have hv : VT.sub (VT.of k e) (VT.base j) = true := by subst hj; simp [VT.sub]
    replace hv := Lib.hid hv
    subst hj
    clear ha hb0
    have gA : ((k : Int) == 7) = false := by simp; omega
    go_enter Tryd.func39, Tryd.ntmps39
    go_upto_region 1 with (fail)
    generalize hx_ : World.alloc (World.alloc w _) _ = wo1
    have hO1 : OwnB w wo1 [(w.heap.size + 1, [.int .i64 0, .slice A2 0 c2]), (w.heap.size, [.int .i64 (k : Int), .slice A 1 c])] := by rw [← hx_]; exact ((OwnB.refl w).new #[.int .i64 (k : Int), .slice A 1 c] _ (g := w.heap.size)).new #[.int .i64 0, .slice A2 0 c2] _ (g := w.heap.size + 1)
    clear hx_
    have c0_0 := hO1.c 0 0
    have c0_1 := hO1.c 0 1
    have cf0 := hO1.fr 0
    have c1_0 := hO1.c 1 0
    have c1_1 := hO1.c 1 1
    have cf1 := hO1.fr 1
    have hb1 := hO1.below
    repeat' ((fail_if_success at_builtin); (first | go_skip | go_guarded | go_step))
    go_ret
    exact ⟨retB (by rw [hv.out]), hb1⟩
   ·
    have hv : VT.sub (VT.of k e) (VT.base j) = false := by simp [VT.sub, hj]
    replace hv := Lib.hid hv
    clear ha hb0
    have gA : ((k : Int) == 7) = false := by simp; omega
    have gB : ((j : Int) == 0) = false := by simp; omega
    have gN : ((k : Int) != (j : Int)) = true := by simp; omega
    go_enter Tryd.func39, Tryd.ntmps39
    go_upto_region 1 with (fail)
    generalize hx_ : World.alloc (World.alloc w _) _ = wo1
    have hO1 : OwnB w wo1 [(w.heap.size + 1, [.int .i64 (j : Int), .slice A2 0 c2]), (w.heap.size, [.int .i64 (k : Int), .slice A 1 c])] := by rw [← hx_]; exact ((OwnB.refl w).new #[.int .i64 (k : Int), .slice A 1 c] _ (g := w.heap.size)).new #[.int .i64 (j : Int), .slice A2 0 c2] _ (g := w.heap.size + 1)
    clear hx_
    have c0_0 := hO1.c 0 0
    have c0_1 := hO1.c 0 1
    have cf0 := hO1.fr 0
    have c1_0 := hO1.c 1 0
    have c1_1 := hO1.c 1 1
    have cf1 := hO1.fr 1
    have hb1 := hO1.below
    repeat' ((fail_if_success at_builtin); (first | go_skip | go_guarded | go_step))
    go_ret
    exact ⟨retB (by rw [hv.out]), hb1⟩
  | of j f =>
   have hj := hob.1
   by_cases hkj : k = j
   ·
    subst hkj
    have hv : VT.sub (VT.of k e) (VT.of k f) = VT.sub e f := by simp [VT.sub]
    replace hv := Lib.hid hv
    have hh := holds_of hoa
    have hoa2 := hoa.2
    have hob2 := hob.2
    obtain ⟨rfl, rfl, hc, ba, oa, A1, n1, c1, rfl, hbSa, x0, x1, hre⟩ := rv_of ha
    obtain ⟨rfl, rfl, hc2, bb, ob, A3, n3, c3, rfl, hbSb, z0, z1, hrf⟩ := rv_of hb0
    have hc1i : (1 : Int) ≤ (c : Int) := by omega
    have hc2i : (1 : Int) ≤ (c2 : Int) := by omega
    have gB : ((k : Int) == 0) = false := by simp; omega
    have gN : ((k : Int) != (k : Int)) = false := by simp
    replace hh := Lib.hid hh
    replace ih := Lib.hid ih
    clear ha hb0
    have gA : ((k : Int) == 7) = false := by simp; omega
    go_enter Tryd.func39, Tryd.ntmps39
    go_upto_region 1 with (fail)
    generalize hx_ : World.alloc (World.alloc w _) _ = wo1
    have hO1 : OwnB w wo1 [(w.heap.size + 1, [.int .i64 (k : Int), .slice (some ⟨bb, ob, none⟩) 1 c2]), (w.heap.size, [.int .i64 (k : Int), .slice (some ⟨ba, oa, none⟩) 1 c])] := by rw [← hx_]; exact ((OwnB.refl w).new #[.int .i64 (k : Int), .slice (some ⟨ba, oa, none⟩) 1 c] _ (g := w.heap.size)).new #[.int .i64 (k : Int), .slice (some ⟨bb, ob, none⟩) 1 c2] _ (g := w.heap.size + 1)
    clear hx_
    have c0_0 := hO1.c 0 0
    have c0_1 := hO1.c 0 1
    have cf0 := hO1.fr 0
    have c1_0 := hO1.c 1 0
    have c1_1 := hO1.c 1 1
    have cf1 := hO1.fr 1
    have hb1 := hO1.below
    have hb0 := hO1.below
    replace x0 := (hb0.cell (p := ⟨ba, oa, none⟩) hbSa).trans x0
    replace x1 := (hb0.cell (p := ⟨ba, oa + 1, none⟩) hbSa).trans x1
    replace z0 := (hb0.cell (p := ⟨bb, ob, none⟩) hbSb).trans z0
    replace z1 := (hb0.cell (p := ⟨bb, ob + 1, none⟩) hbSb).trans z1
    have hre := Lib.hid (RVB.at_ hre hb0)
    have hrf := Lib.hid (RVB.at_ hrf hb0)
    have la : ba < wo1.heap.size := Nat.lt_of_lt_of_le hbSa hb0.size
    have lb : bb < wo1.heap.size := Nat.lt_of_lt_of_le hbSb hb0.size
    have l2 := hO1.lt 1
    have l1 := hO1.lt 0
    have hS : ∀ w', Below wo1.heap.size wo1 w' → (Below wo1.heap.size wo1 w' ∧ w'.cell? ⟨w.heap.size, 0, none⟩ = some (.int .i64 (k : Int)) ∧ w'.cell? ⟨w.heap.size, 1, none⟩ = some (.slice (some ⟨ba, oa, none⟩) 1 c) ∧ w'.cell? ⟨w.heap.size + 1, 0, none⟩ = some (.int .i64 (k : Int)) ∧ w'.cell? ⟨w.heap.size + 1, 1, none⟩ = some (.slice (some ⟨bb, ob, none⟩) 1 c2) ∧ w'.cell? ⟨ba, oa, none⟩ = some (.int .i64 (e.kind : Int)) ∧ w'.cell? ⟨ba, oa + 1, none⟩ = some (.slice A1 n1 c1) ∧ w'.cell? ⟨bb, ob, none⟩ = some (.int .i64 (f.kind : Int)) ∧ w'.cell? ⟨bb, ob + 1, none⟩ = some (.slice A3 n3 c3)) := fun w' h => ⟨h, (h.cell (p := ⟨w.heap.size, 0, none⟩) l2).trans c1_0, (h.cell (p := ⟨w.heap.size, 1, none⟩) l2).trans c1_1, (h.cell (p := ⟨w.heap.size + 1, 0, none⟩) l1).trans c0_0, (h.cell (p := ⟨w.heap.size + 1, 1, none⟩) l1).trans c0_1, (h.cell (p := ⟨ba, oa, none⟩) la).trans x0, (h.cell (p := ⟨ba, oa + 1, none⟩) la).trans x1, (h.cell (p := ⟨bb, ob, none⟩) lb).trans z0, (h.cell (p := ⟨bb, ob + 1, none⟩) lb).trans z1⟩
    have keepS : ∀ w' w'', (Below wo1.heap.size wo1 w' ∧ w'.cell? ⟨w.heap.size, 0, none⟩ = some (.int .i64 (k : Int)) ∧ w'.cell? ⟨w.heap.size, 1, none⟩ = some (.slice (some ⟨ba, oa, none⟩) 1 c) ∧ w'.cell? ⟨w.heap.size + 1, 0, none⟩ = some (.int .i64 (k : Int)) ∧ w'.cell? ⟨w.heap.size + 1, 1, none⟩ = some (.slice (some ⟨bb, ob, none⟩) 1 c2) ∧ w'.cell? ⟨ba, oa, none⟩ = some (.int .i64 (e.kind : Int)) ∧ w'.cell? ⟨ba, oa + 1, none⟩ = some (.slice A1 n1 c1) ∧ w'.cell? ⟨bb, ob, none⟩ = some (.int .i64 (f.kind : Int)) ∧ w'.cell? ⟨bb, ob + 1, none⟩ = some (.slice A3 n3 c3)) → Below w'.heap.size w' w'' → (Below wo1.heap.size wo1 w'' ∧ w''.cell? ⟨w.heap.size, 0, none⟩ = some (.int .i64 (k : Int)) ∧ w''.cell? ⟨w.heap.size, 1, none⟩ = some (.slice (some ⟨ba, oa, none⟩) 1 c) ∧ w''.cell? ⟨w.heap.size + 1, 0, none⟩ = some (.int .i64 (k : Int)) ∧ w''.cell? ⟨w.heap.size + 1, 1, none⟩ = some (.slice (some ⟨bb, ob, none⟩) 1 c2) ∧ w''.cell? ⟨ba, oa, none⟩ = some (.int .i64 (e.kind : Int)) ∧ w''.cell? ⟨ba, oa + 1, none⟩ = some (.slice A1 n1 c1) ∧ w''.cell? ⟨bb, ob, none⟩ = some (.int .i64 (f.kind : Int)) ∧ w''.cell? ⟨bb, ob + 1, none⟩ = some (.slice A3 n3 c3)) := fun w' w'' h hq => hS _ (h.1.trans (hq.mono h.1.size))
    have hS1 := hS wo1.drew (Below.refl _ _).drew
    replace keepS := Lib.hid keepS
    clear hS x0 x1 z0 z1
    repeat' ((fail_if_success at_builtin); (first | go_skip | go_guarded | go_step))
    refine wp_region_held_drew (S := fun w' => Below wo1.heap.size wo1 w' ∧ w'.cell? ⟨w.heap.size, 0, none⟩ = some (.int .i64 (k : Int)) ∧ w'.cell? ⟨w.heap.size, 1, none⟩ = some (.slice (some ⟨ba, oa, none⟩) 1 c) ∧ w'.cell? ⟨w.heap.size + 1, 0, none⟩ = some (.int .i64 (k : Int)) ∧ w'.cell? ⟨w.heap.size + 1, 1, none⟩ = some (.slice (some ⟨bb, ob, none⟩) 1 c2) ∧ w'.cell? ⟨ba, oa, none⟩ = some (.int .i64 (e.kind : Int)) ∧ w'.cell? ⟨ba, oa + 1, none⟩ = some (.slice A1 n1 c1) ∧ w'.cell? ⟨bb, ob, none⟩ = some (.int .i64 (f.kind : Int)) ∧ w'.cell? ⟨bb, ob + 1, none⟩ = some (.slice A3 n3 c3)) (by kernel_rfl) ?_ (fun hHeld => ?_)
    ·
     (try dsimp only)
     exact hS1
    refine tkY 0 (v := ?v22) rfl (.inl ⟨by rfl, ?hy22⟩) ?hr22
    case hy22 => (intro w hSw; (try dsimp only at hSw); go_simp; try with_reducible rfl)
    simp only [Act.put, List.getElem_toArray, List.getElem_cons_zero, List.setIfInBounds_toArray, List.set_cons_zero, List.set_cons_succ]
    refine tkY 1 (v := ?v23) rfl (.inl ⟨by rfl, ?hy23⟩) ?hr23
    case hy23 => (intro w hSw; (try dsimp only at hSw); go_simp; try with_reducible rfl)
    simp only [Act.put, List.getElem_toArray, List.getElem_cons_zero, List.getElem_cons_succ, List.setIfInBounds_toArray, List.set_cons_zero, List.set_cons_succ]
    refine wpAnyH_ready (rs := [2]) (by kernel_rfl) (by simp) ?_
    refine AllReadyH.cons rfl (fun K hK => ?_) AllReadyH.nil
    go_simp
    go_at_call 52
    refine (holds_any (k : Int) _).mono ?_
    rintro e7 w7 ⟨rfl, hbq⟩
    dsimp only
    rw [hh.out]
    refine hK.out _ _ ?_ (fun hHeld => ?_)
    ·
     (try dsimp only)
     exact keepS.out _ _ hHeld hbq
    clear hK K
    try simp only [Act.put, List.getElem_toArray, List.getElem_cons_zero, List.getElem_cons_succ, List.setIfInBounds_toArray, List.set_cons_zero, List.set_cons_succ]
    refine tkY 3 (v := ?v24) rfl (.inl ⟨by rfl, ?hy24⟩) ?hr24
    case hy24 => (intro w hSw; (try dsimp only at hSw); go_simp; try with_reducible rfl)
    simp only [Act.put, List.getElem_toArray, List.getElem_cons_zero, List.getElem_cons_succ, List.setIfInBounds_toArray, List.set_cons_zero, List.set_cons_succ]
    refine tkY 4 (v := ?v25) rfl (.inl ⟨by rfl, ?hy25⟩) ?hr25
    case hy25 => (intro w hSw; (try dsimp only at hSw); go_simp; try with_reducible rfl)
    simp only [Act.put, List.getElem_toArray, List.getElem_cons_zero, List.getElem_cons_succ, List.setIfInBounds_toArray, List.set_cons_zero, List.set_cons_succ]
    refine tkY 5 (v := ?v26) rfl (.inl ⟨by rfl, ?hy26⟩) ?hr26
    case hy26 => (intro w hSw; (try dsimp only at hSw); go_simp; try with_reducible rfl)
    simp only [Act.put, List.getElem_toArray, List.getElem_cons_zero, List.getElem_cons_succ, List.setIfInBounds_toArray, List.set_cons_zero, List.set_cons_succ]
    refine tkY 6 (v := ?v27) rfl (.inl ⟨by rfl, ?hy27⟩) ?hr27
    case hy27 => (intro w hSw; (try dsimp only at hSw); go_simp; try with_reducible rfl)
    simp only [Act.put, List.getElem_toArray, List.getElem_cons_zero, List.getElem_cons_succ, List.setIfInBounds_toArray, List.set_cons_zero, List.set_cons_succ]
    refine tkY 7 (v := ?v28) rfl (.inl ⟨by rfl, ?hy28⟩) ?hr28
    case hy28 => (intro w hSw; (try dsimp only at hSw); go_simp; try with_reducible rfl)
    simp only [Act.put, List.getElem_toArray, List.getElem_cons_zero, List.getElem_cons_succ, List.setIfInBounds_toArray, List.set_cons_zero, List.set_cons_succ]
    refine tkY 8 (v := ?v29) rfl (.inl ⟨by rfl, ?hy29⟩) ?hr29
    case hy29 => (intro w hSw; (try dsimp only at hSw); go_simp; try with_reducible rfl)
    simp only [Act.put, List.getElem_toArray, List.getElem_cons_zero, List.getElem_cons_succ, List.setIfInBounds_toArray, List.set_cons_zero, List.set_cons_succ]
    refine tkY 9 (v := ?v30) rfl (.inl ⟨by rfl, ?hy30⟩) ?hr30
    case hy30 => (intro w hSw; (try dsimp only at hSw); go_simp; try with_reducible rfl)
    simp only [Act.put, List.getElem_toArray, List.getElem_cons_zero, List.getElem_cons_succ, List.setIfInBounds_toArray, List.set_cons_zero, List.set_cons_succ]
    refine tkY 10 (v := ?v31) rfl (.inl ⟨by rfl, ?hy31⟩) ?hr31
    case hy31 => (intro w hSw; (try dsimp only at hSw); go_simp; try with_reducible rfl)
    simp only [Act.put, List.getElem_toArray, List.getElem_cons_zero, List.getElem_cons_succ, List.setIfInBounds_toArray, List.set_cons_zero, List.set_cons_succ]
    refine tkY 11 (v := ?v32) rfl (.inl ⟨by rfl, ?hy32⟩) ?hr32
    case hy32 => (intro w hSw; (try dsimp only at hSw); go_simp; try with_reducible rfl)
    simp only [Act.put, List.getElem_toArray, List.getElem_cons_zero, List.getElem_cons_succ, List.setIfInBounds_toArray, List.set_cons_zero, List.set_cons_succ]
    refine tkY 12 (v := ?v33) rfl (.inl ⟨by rfl, ?hy33⟩) ?hr33
    case hy33 => (intro w hSw; (try dsimp only at hSw); go_simp; try with_reducible rfl)
    simp only [Act.put, List.getElem_toArray, List.getElem_cons_zero, List.getElem_cons_succ, List.setIfInBounds_toArray, List.set_cons_zero, List.set_cons_succ]
    refine wpAnyH_ready (rs := [13]) (by kernel_rfl) (by simp) ?_
    refine AllReadyH.cons rfl (fun K hK => ?_) AllReadyH.nil
    go_simp
    go_at_call 39
    refine (ih.out f _ A1 n1 c1 _ A3 n3 c3 _ hoa2 hob2 (RVB.at_ hre.out hHeld.1) (RVB.at_ hrf.out hHeld.1)).mono ?_
    rintro e7 w7 ⟨rfl, hbq⟩
    dsimp only
    refine hK.out _ _ ?_ (fun hHeld => ?_)
    ·
     (try dsimp only)
     exact keepS.out _ _ hHeld hbq
    clear hK K
    try simp only [Act.put, List.getElem_toArray, List.getElem_cons_zero, List.getElem_cons_succ, List.setIfInBounds_toArray, List.set_cons_zero, List.set_cons_succ]
    refine tkY 14 (v := ?v34) rfl (.inl ⟨by rfl, ?hy34⟩) ?hr34
    case hy34 => (intro w hSw; (try dsimp only at hSw); go_simp; try with_reducible rfl)
    simp only [Act.put, List.getElem_toArray, List.getElem_cons_zero, List.getElem_cons_succ, List.setIfInBounds_toArray, List.set_cons_zero, List.set_cons_succ]
    refine tkY 15 (v := ?v35) rfl (.inl ⟨by rfl, ?hy35⟩) ?hr35
    case hy35 => (intro w hSw; (try dsimp only at hSw); go_simp; try with_reducible rfl)
    simp only [Act.put, List.getElem_toArray, List.getElem_cons_zero, List.getElem_cons_succ, List.setIfInBounds_toArray, List.set_cons_zero, List.set_cons_succ]
    refine wpAnyH_done (by kernel_rfl) ?_ _
    have hb6 := hb0.trans (hHeld.1.mono hb0.size)
    repeat' ((fail_if_success at_builtin); (first | go_skip | go_guarded | go_step))
    go_ret
    exact ⟨retB (by rw [hv.out]), hb6⟩
   ·
    have hv : VT.sub (VT.of k e) (VT.of j f) = false := by simp [VT.sub, hkj]
    replace hv := Lib.hid hv
    obtain ⟨rfl, rfl, _⟩ := rv_of ha
    obtain ⟨rfl, rfl, _⟩ := rv_of hb0
    clear ha hb0 ih
    have gA : ((k : Int) == 7) = false := by simp; omega
    have gB : ((j : Int) == 0) = false := by simp; omega
    have gN : ((k : Int) != (j : Int)) = true := by simp; omega
    go_enter Tryd.func39, Tryd.ntmps39
    go_upto_region 1 with (fail)
    generalize hx_ : World.alloc (World.alloc w _) _ = wo1
    have hO1 : OwnB w wo1 [(w.heap.size + 1, [.int .i64 (j : Int), .slice A2 1 c2]), (w.heap.size, [.int .i64 (k : Int), .slice A 1 c])] := by rw [← hx_]; exact ((OwnB.refl w).new #[.int .i64 (k : Int), .slice A 1 c] _ (g := w.heap.size)).new #[.int .i64 (j : Int), .slice A2 1 c2] _ (g := w.heap.size + 1)
    clear hx_
    have c0_0 := hO1.c 0 0
    have c0_1 := hO1.c 0 1
    have cf0 := hO1.fr 0
    have c1_0 := hO1.c 1 0
    have c1_1 := hO1.c 1 1
    have cf1 := hO1.fr 1
    have hb1 := hO1.below
    repeat' ((fail_if_success at_builtin); (first | go_skip | go_guarded | go_step))
    go_ret
    exact ⟨retB (by rw [hv.out]), hb1⟩
end Go.Proofs.YtgcpffbaejodiaaDoor
