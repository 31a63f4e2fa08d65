/- Typing: the law about Valid. -/
import Derived.Test.YtgcpffbaejodiaaDoorTyAw
namespace Go.Proofs.YtgcpffbaejodiaaDoor
open Go.RowKit
theorem bound_ok {f : VT → VT → VT} {k : Nat} {t u : Ty} (hf : ∀ {a b : VT}, a.Ok → b.Ok → (f a b).Ok) (hk : (VT.base k).Ok) : (boundS f k t u).Ok := by
  unfold boundS
  cases ha : okV t with
  | none => exact hk
  | some a =>
    cases hb : okV u with
    | none => exact hk
    | some b => exact hf (okV_some ha).2.1 (okV_some hb).2.1
theorem never_ok7 : (VT.base 7).Ok := ⟨by decide, by decide, by decide⟩
theorem ofS_ok (v : Vl) : (ofS v).Ok := by
  unfold ofS
  split
  · exact findV_ok 16 v
  · exact any_ok
theorem ofS_depth (v : Vl) : (ofS v).depth ≤ 16 := by
  unfold ofS
  split
  · rename_i h; exact findV_depth 16 v h
  · decide
theorem ofS_valid (v : Vl) : validT (ofV (ofS v)) = 0 := by rw [valid_of (ofS_ok v), if_pos (ofS_depth v)]
theorem new_to {w' : World} {v : VT} {cs : List Value} {B : Nat} (h : RV w' (fun b => False ∨ (B ≤ b ∧ b < w'.heap.size)) v cs) : RVB w' w'.heap.size v cs := h.imp (fun b h => h.elim False.elim (fun h => h.2))
theorem old_to {w' : World} {v : VT} {cs : List Value} {B C : Nat} (h : RV w' (fun b => b < B ∨ (C ≤ b ∧ b < w'.heap.size)) v cs) (hB : B ≤ w'.heap.size) : RVB w' w'.heap.size v cs := h.imp (fun b h => h.elim (fun h => Nat.lt_of_lt_of_le h hB) (fun h => h.2))
set_option maxRecDepth 100000 in
set_option maxHeartbeats 6000000 in
theorem valid_law (g : Nat) (t : Ty) (k : Int) (A : Option Addr) (n c : Nat) (w : World) (h : RTf g w (fun b => b < w.heap.size) t [.int .i64 k, .slice A n c]) :
    Calls Tryd.prog 3 #[.agg #[.int .i64 k, .slice A n c]] w fun e w' => e = .returned (.bool true) ∧ Below w.heap.size w w' := by
  go_enter Tryd.func3, Tryd.ntmps3
  go_upto_region 1 with (fail)
  generalize hx_ : World.alloc w _ = wo1
  have hO1 : OwnB w wo1 [(w.heap.size, [.int .i64 k, .slice A n c])] := by rw [← hx_]; exact (OwnB.refl w).new #[.int .i64 k, .slice A n c] _ (g := w.heap.size)
  clear hx_
  have c0_0 : wo1.cell? ⟨w.heap.size, 0, none⟩ = some (.int .i64 k) := hO1.c 0 0
  have c0_1 : wo1.cell? ⟨w.heap.size, 1, none⟩ = some (.slice A n c) := hO1.c 0 1
  have cf0 := hO1.fr 0
  have h1 := Lib.hid (RTf.at_ h hO1.below)
  clear h
  go_upto_region 1 with (fail)
  have hS0 : (Below wo1.heap.size wo1 wo1 ∧ wo1.cell? ⟨w.heap.size, 0, none⟩ = some (.int .i64 k) ∧ wo1.cell? ⟨w.heap.size, 1, none⟩ = some (.slice A n c)) := ⟨Below.refl _ _, hO1.c 0 0, hO1.c 0 1⟩
  have keepS : ∀ v1 v2 : World, (Below wo1.heap.size wo1 v1 ∧ v1.cell? ⟨w.heap.size, 0, none⟩ = some (.int .i64 k) ∧ v1.cell? ⟨w.heap.size, 1, none⟩ = some (.slice A n c)) → Below v1.heap.size v1 v2 → (Below wo1.heap.size wo1 v2 ∧ v2.cell? ⟨w.heap.size, 0, none⟩ = some (.int .i64 k) ∧ v2.cell? ⟨w.heap.size, 1, none⟩ = some (.slice A n c)) := fun v1 v2 h hb => ⟨h.1.trans (hb.mono h.1.size), (hO1.kept (h.1.trans (hb.mono h.1.size))).c 0 0, (hO1.kept (h.1.trans (hb.mono h.1.size))).c 0 1⟩
  have hS1 : (Below wo1.heap.size wo1 wo1.drew ∧ wo1.drew.cell? ⟨w.heap.size, 0, none⟩ = some (.int .i64 k) ∧ wo1.drew.cell? ⟨w.heap.size, 1, none⟩ = some (.slice A n c)) := keepS _ _ hS0 ((Below.refl _ _).drew)
  replace keepS := Lib.hid keepS
  clear hS0
  refine wp_region_held_drew (S := fun w' => Below wo1.heap.size wo1 w' ∧ w'.cell? ⟨w.heap.size, 0, none⟩ = some (.int .i64 k) ∧ w'.cell? ⟨w.heap.size, 1, none⟩ = some (.slice A n c)) (by kernel_rfl) ?_ (fun hHeld => ?_)
  · (try dsimp only)
    exact hS1
  refine wpAnyH_take (i := 0) (v := ?v45) rfl (by kernel_rfl) (by kernel_rfl) (by kernel_rfl) (fun _ _ _ h => h) (Or.inl ⟨by rfl, ?hy45⟩) (by assumption) ?rest45
  case hy45 => (intro w hSw; (try dsimp only at hSw); go_simp; try with_reducible rfl)
  simp only [Act.put, List.getElem_toArray, List.getElem_cons_zero, List.setIfInBounds_toArray, List.set_cons_zero, List.set_cons_succ]
  refine wpAnyH_take (i := 2) (v := ?v46) rfl (by kernel_rfl) (by kernel_rfl) (by kernel_rfl) (fun _ _ _ h => h) (Or.inl ⟨by rfl, ?hy46⟩) (by assumption) ?rest46
  case hy46 => (intro w hSw; (try dsimp only at hSw); go_simp; try with_reducible rfl)
  simp only [Act.put, List.getElem_toArray, List.getElem_cons_zero, List.getElem_cons_succ, List.setIfInBounds_toArray, List.set_cons_zero, List.set_cons_succ]
  refine wpAnyH_ready (rs := [1]) (by kernel_rfl) (by simp) ?_
  refine AllReadyH.cons rfl (fun K hK => ?_) AllReadyH.nil
  go_simp
  go_at_call 11
  refine (tvalid_any g t k A n c _ (RTf.at_ h1.out hHeld.1)).mono ?_
  rintro e r1_1 ⟨rfl, hb1_1⟩
  dsimp only
  have hbq := hb1_1
  refine hK.out _ _ ?_ (fun hHeld => ?_)
  · (try dsimp only)
    exact keepS.out _ _ hHeld hbq
  clear hK K
  try simp only [Act.put, List.getElem_toArray, List.getElem_cons_zero, List.getElem_cons_succ, List.setIfInBounds_toArray, List.set_cons_zero, List.set_cons_succ]
  refine wpAnyH_ready (rs := [3]) (by kernel_rfl) (by simp) ?_
  refine AllReadyH.cons rfl (fun K hK => ?_) AllReadyH.nil
  go_simp
  go_at_call 12
  refine (rvalid_any g t k A n c _ (RTf.at_ h1.out hHeld.1)).mono ?_
  rintro e r1_3 ⟨rfl, hb1_3⟩
  dsimp only
  have hbq := hb1_3
  refine hK.out _ _ ?_ (fun hHeld => ?_)
  · (try dsimp only)
    exact keepS.out _ _ hHeld hbq
  clear hK K
  try simp only [Act.put, List.getElem_toArray, List.getElem_cons_zero, List.getElem_cons_succ, List.setIfInBounds_toArray, List.set_cons_zero, List.set_cons_succ]
  refine wpAnyH_take (i := 4) (v := ?v47) rfl (by kernel_rfl) (by kernel_rfl) (by kernel_rfl) (fun _ _ _ h => h) (Or.inl ⟨by rfl, ?hy47⟩) (by assumption) ?rest47
  case hy47 => (intro w hSw; (try dsimp only at hSw); go_simp; try with_reducible rfl)
  simp only [Act.put, List.getElem_toArray, List.getElem_cons_zero, List.getElem_cons_succ, List.setIfInBounds_toArray, List.set_cons_zero, List.set_cons_succ]
  refine wpAnyH_take (i := 5) (v := ?v48) rfl (by kernel_rfl) (by kernel_rfl) (by kernel_rfl) (fun _ _ _ h => h) (Or.inl ⟨by rfl, ?hy48⟩) (by assumption) ?rest48
  case hy48 => (intro w hSw; (try dsimp only at hSw); go_simp; try with_reducible rfl)
  simp only [Act.put, List.getElem_toArray, List.getElem_cons_zero, List.getElem_cons_succ, List.setIfInBounds_toArray, List.set_cons_zero, List.set_cons_succ]
  refine wpAnyH_ready (rs := [6]) (by kernel_rfl) (by simp) ?_
  refine AllReadyH.cons rfl (fun K hK => ?_) AllReadyH.nil
  go_simp
  go_at_call 13
  refine (awake_any _).mono ?_
  rintro e r1_6 ⟨rfl, hb1_6⟩
  dsimp only
  have hbq := hb1_6
  refine hK.out _ _ ?_ (fun hHeld => ?_)
  · (try dsimp only)
    exact keepS.out _ _ hHeld hbq
  clear hK K
  try simp only [Act.put, List.getElem_toArray, List.getElem_cons_zero, List.getElem_cons_succ, List.setIfInBounds_toArray, List.set_cons_zero, List.set_cons_succ]
  refine wpAnyH_take (i := 7) (v := ?v49) rfl (by kernel_rfl) (by kernel_rfl) (by kernel_rfl) (fun _ _ _ h => h) (Or.inl ⟨by rfl, ?hy49⟩) (by assumption) ?rest49
  case hy49 => (intro w hSw; (try dsimp only at hSw); go_simp; try with_reducible rfl)
  simp only [Act.put, List.getElem_toArray, List.getElem_cons_zero, List.getElem_cons_succ, List.setIfInBounds_toArray, List.set_cons_zero, List.set_cons_succ]
  refine wpAnyH_take (i := 8) (v := ?v50) rfl (by kernel_rfl) (by kernel_rfl) (by kernel_rfl) (fun _ _ _ h => h) (Or.inl ⟨by rfl, ?hy50⟩) (by assumption) ?rest50
  case hy50 => (intro w hSw; (try dsimp only at hSw); go_simp; try with_reducible rfl)
  simp only [Act.put, List.getElem_toArray, List.getElem_cons_zero, List.getElem_cons_succ, List.setIfInBounds_toArray, List.set_cons_zero, List.set_cons_succ]
  refine wpAnyH_done (by kernel_rfl) ?_ _
  have hb := hO1.below.trans (hHeld.1.mono hO1.below.size)
  repeat' ((fail_if_success at_builtin); (first | go_skip | go_guarded | go_step))
  go_ret
  exact ⟨rfl, hb⟩
end Go.Proofs.YtgcpffbaejodiaaDoor
