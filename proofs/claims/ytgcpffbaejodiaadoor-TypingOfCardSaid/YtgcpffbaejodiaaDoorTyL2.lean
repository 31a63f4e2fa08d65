/- Typing: the law about Of. -/
import Derived.Test.YtgcpffbaejodiaaDoorTyL1
namespace Go.Proofs.YtgcpffbaejodiaaDoor
open Go.RowKit
set_option maxRecDepth 100000 in
set_option maxHeartbeats 6000000 in
theorem of_law (gv : Nat) (v : Vl) (k : Int) (b : Bool) (i : Int) (s : ByteArray) (A : Option Addr) (n c : Nat) (A2 : Option Addr) (n2 c2 : Nat) (g : Nat) (t : Ty) (xb : Int) (A3 : Option Addr) (n3 c3 : Nat) (w : World) (hv : RVl gv w (fun b => b < w.heap.size) v [.int .i64 k, .bool b, .int .i64 i, .string s, .slice A n c, .slice A2 n2 c2]) (h : RTf g w (fun b => b < w.heap.size) t [.int .i64 xb, .slice A3 n3 c3]) :
    Calls Tryd.prog 4 #[.agg #[.int .i64 k, .bool b, .int .i64 i, .string s, .slice A n c, .slice A2 n2 c2], .agg #[.int .i64 xb, .slice A3 n3 c3]] w fun e w' => e = .returned (.bool true) ∧ Below w.heap.size w w' := by
  go_enter Tryd.func4, Tryd.ntmps4
  go_upto_region 1 with (fail)
  generalize hx_ : World.alloc (World.alloc w _) _ = wo1
  have hO1 : OwnB w wo1 [(w.heap.size + 1, [.int .i64 xb, .slice A3 n3 c3]), (w.heap.size, [.int .i64 k, .bool b, .int .i64 i, .string s, .slice A n c, .slice A2 n2 c2])] := by rw [← hx_]; exact ((OwnB.refl w).new #[.int .i64 k, .bool b, .int .i64 i, .string s, .slice A n c, .slice A2 n2 c2] _ (g := w.heap.size)).new #[.int .i64 xb, .slice A3 n3 c3] _ (g := w.heap.size + 1)
  clear hx_
  have c0_0 : wo1.cell? ⟨w.heap.size + 1, 0, none⟩ = some (.int .i64 xb) := hO1.c 0 0
  have c0_1 : wo1.cell? ⟨w.heap.size + 1, 1, none⟩ = some (.slice A3 n3 c3) := hO1.c 0 1
  have cf0 := hO1.fr 0
  have c1_0 : wo1.cell? ⟨w.heap.size, 0, none⟩ = some (.int .i64 k) := hO1.c 1 0
  have c1_1 : wo1.cell? ⟨w.heap.size, 1, none⟩ = some (.bool b) := hO1.c 1 1
  have c1_2 : wo1.cell? ⟨w.heap.size, 2, none⟩ = some (.int .i64 i) := hO1.c 1 2
  have c1_3 : wo1.cell? ⟨w.heap.size, 3, none⟩ = some (.string s) := hO1.c 1 3
  have c1_4 : wo1.cell? ⟨w.heap.size, 4, none⟩ = some (.slice A n c) := hO1.c 1 4
  have c1_5 : wo1.cell? ⟨w.heap.size, 5, none⟩ = some (.slice A2 n2 c2) := hO1.c 1 5
  have cf1 := hO1.fr 1
  have hv1 := Lib.hid (RVl.at_ hv hO1.below)
  repeat' ((fail_if_success at_builtin); (first | go_skip | go_guarded | go_step))
  refine (tof_any gv v k b i s A n c A2 n2 c2 _ hv1.out).mono ?_
  rintro e w2 ⟨A5, n5, c5, rfl, hX, hb2⟩
  dsimp only
  have hO2 : OwnB w w2 [(w.heap.size + 1, [.int .i64 xb, .slice A3 n3 c3]), (w.heap.size, [.int .i64 k, .bool b, .int .i64 i, .string s, .slice A n c, .slice A2 n2 c2])] := hO1.kept hb2
  clear c0_0 c0_1 cf0 c1_0 c1_1 c1_2 c1_3 c1_4 c1_5 cf1 hO1
  have c0_0 : w2.cell? ⟨w.heap.size + 1, 0, none⟩ = some (.int .i64 xb) := hO2.c 0 0
  have c0_1 : w2.cell? ⟨w.heap.size + 1, 1, none⟩ = some (.slice A3 n3 c3) := hO2.c 0 1
  have cf0 := hO2.fr 0
  have c1_0 : w2.cell? ⟨w.heap.size, 0, none⟩ = some (.int .i64 k) := hO2.c 1 0
  have c1_1 : w2.cell? ⟨w.heap.size, 1, none⟩ = some (.bool b) := hO2.c 1 1
  have c1_2 : w2.cell? ⟨w.heap.size, 2, none⟩ = some (.int .i64 i) := hO2.c 1 2
  have c1_3 : w2.cell? ⟨w.heap.size, 3, none⟩ = some (.string s) := hO2.c 1 3
  have c1_4 : w2.cell? ⟨w.heap.size, 4, none⟩ = some (.slice A n c) := hO2.c 1 4
  have c1_5 : w2.cell? ⟨w.heap.size, 5, none⟩ = some (.slice A2 n2 c2) := hO2.c 1 5
  have cf1 := hO2.fr 1
  go_upto_region 2 with (fail)
  generalize hx_ : World.alloc w2 _ = wo3
  have hO3 : OwnB w wo3 [(w2.heap.size, [.int .i64 ((ofS v).kind : Int), .slice A5 n5 c5]), (w.heap.size + 1, [.int .i64 xb, .slice A3 n3 c3]), (w.heap.size, [.int .i64 k, .bool b, .int .i64 i, .string s, .slice A n c, .slice A2 n2 c2])] := by rw [← hx_]; exact hO2.new #[.int .i64 ((ofS v).kind : Int), .slice A5 n5 c5] _ (g := w2.heap.size)
  have hbn : Below w2.heap.size w2 wo3 := by rw [← hx_]; exact (Below.refl _ _).alloc (Nat.le_refl _) _
  clear hx_ c0_0 c0_1 cf0 c1_0 c1_1 c1_2 c1_3 c1_4 c1_5 cf1 hO2
  have c0_0 : wo3.cell? ⟨w2.heap.size, 0, none⟩ = some (.int .i64 ((ofS v).kind : Int)) := hO3.c 0 0
  have c0_1 : wo3.cell? ⟨w2.heap.size, 1, none⟩ = some (.slice A5 n5 c5) := hO3.c 0 1
  have cf0 := hO3.fr 0
  have c1_0 : wo3.cell? ⟨w.heap.size + 1, 0, none⟩ = some (.int .i64 xb) := hO3.c 1 0
  have c1_1 : wo3.cell? ⟨w.heap.size + 1, 1, none⟩ = some (.slice A3 n3 c3) := hO3.c 1 1
  have cf1 := hO3.fr 1
  have c2_0 : wo3.cell? ⟨w.heap.size, 0, none⟩ = some (.int .i64 k) := hO3.c 2 0
  have c2_1 : wo3.cell? ⟨w.heap.size, 1, none⟩ = some (.bool b) := hO3.c 2 1
  have c2_2 : wo3.cell? ⟨w.heap.size, 2, none⟩ = some (.int .i64 i) := hO3.c 2 2
  have c2_3 : wo3.cell? ⟨w.heap.size, 3, none⟩ = some (.string s) := hO3.c 2 3
  have c2_4 : wo3.cell? ⟨w.heap.size, 4, none⟩ = some (.slice A n c) := hO3.c 2 4
  have c2_5 : wo3.cell? ⟨w.heap.size, 5, none⟩ = some (.slice A2 n2 c2) := hO3.c 2 5
  have cf2 := hO3.fr 2
  have hX3 := Lib.hid (RVB.at_ (new_to hX) hbn)
  have hv3 := Lib.hid (RVl.at_ hv hO3.below)
  have ht3 := Lib.hid (RTf.at_ h hO3.below)
  clear hX hv1 hv h
  go_upto_region 2 with (fail)
  have hS0 : (Below wo3.heap.size wo3 wo3 ∧ wo3.cell? ⟨w2.heap.size, 0, none⟩ = some (.int .i64 ((ofS v).kind : Int)) ∧ wo3.cell? ⟨w2.heap.size, 1, none⟩ = some (.slice A5 n5 c5) ∧ wo3.cell? ⟨w.heap.size + 1, 0, none⟩ = some (.int .i64 xb) ∧ wo3.cell? ⟨w.heap.size + 1, 1, none⟩ = some (.slice A3 n3 c3) ∧ wo3.cell? ⟨w.heap.size, 0, none⟩ = some (.int .i64 k) ∧ wo3.cell? ⟨w.heap.size, 1, none⟩ = some (.bool b) ∧ wo3.cell? ⟨w.heap.size, 2, none⟩ = some (.int .i64 i) ∧ wo3.cell? ⟨w.heap.size, 3, none⟩ = some (.string s) ∧ wo3.cell? ⟨w.heap.size, 4, none⟩ = some (.slice A n c) ∧ wo3.cell? ⟨w.heap.size, 5, none⟩ = some (.slice A2 n2 c2)) := ⟨Below.refl _ _, hO3.c 0 0, hO3.c 0 1, hO3.c 1 0, hO3.c 1 1, hO3.c 2 0, hO3.c 2 1, hO3.c 2 2, hO3.c 2 3, hO3.c 2 4, hO3.c 2 5⟩
  have keepS : ∀ v1 v2 : World, (Below wo3.heap.size wo3 v1 ∧ v1.cell? ⟨w2.heap.size, 0, none⟩ = some (.int .i64 ((ofS v).kind : Int)) ∧ v1.cell? ⟨w2.heap.size, 1, none⟩ = some (.slice A5 n5 c5) ∧ v1.cell? ⟨w.heap.size + 1, 0, none⟩ = some (.int .i64 xb) ∧ v1.cell? ⟨w.heap.size + 1, 1, none⟩ = some (.slice A3 n3 c3) ∧ v1.cell? ⟨w.heap.size, 0, none⟩ = some (.int .i64 k) ∧ v1.cell? ⟨w.heap.size, 1, none⟩ = some (.bool b) ∧ v1.cell? ⟨w.heap.size, 2, none⟩ = some (.int .i64 i) ∧ v1.cell? ⟨w.heap.size, 3, none⟩ = some (.string s) ∧ v1.cell? ⟨w.heap.size, 4, none⟩ = some (.slice A n c) ∧ v1.cell? ⟨w.heap.size, 5, none⟩ = some (.slice A2 n2 c2)) → Below v1.heap.size v1 v2 → (Below wo3.heap.size wo3 v2 ∧ v2.cell? ⟨w2.heap.size, 0, none⟩ = some (.int .i64 ((ofS v).kind : Int)) ∧ v2.cell? ⟨w2.heap.size, 1, none⟩ = some (.slice A5 n5 c5) ∧ v2.cell? ⟨w.heap.size + 1, 0, none⟩ = some (.int .i64 xb) ∧ v2.cell? ⟨w.heap.size + 1, 1, none⟩ = some (.slice A3 n3 c3) ∧ v2.cell? ⟨w.heap.size, 0, none⟩ = some (.int .i64 k) ∧ v2.cell? ⟨w.heap.size, 1, none⟩ = some (.bool b) ∧ v2.cell? ⟨w.heap.size, 2, none⟩ = some (.int .i64 i) ∧ v2.cell? ⟨w.heap.size, 3, none⟩ = some (.string s) ∧ v2.cell? ⟨w.heap.size, 4, none⟩ = some (.slice A n c) ∧ v2.cell? ⟨w.heap.size, 5, none⟩ = some (.slice A2 n2 c2)) := fun v1 v2 h hb => ⟨h.1.trans (hb.mono h.1.size), (hO3.kept (h.1.trans (hb.mono h.1.size))).c 0 0, (hO3.kept (h.1.trans (hb.mono h.1.size))).c 0 1, (hO3.kept (h.1.trans (hb.mono h.1.size))).c 1 0, (hO3.kept (h.1.trans (hb.mono h.1.size))).c 1 1, (hO3.kept (h.1.trans (hb.mono h.1.size))).c 2 0, (hO3.kept (h.1.trans (hb.mono h.1.size))).c 2 1, (hO3.kept (h.1.trans (hb.mono h.1.size))).c 2 2, (hO3.kept (h.1.trans (hb.mono h.1.size))).c 2 3, (hO3.kept (h.1.trans (hb.mono h.1.size))).c 2 4, (hO3.kept (h.1.trans (hb.mono h.1.size))).c 2 5⟩
  have hS1 : (Below wo3.heap.size wo3 wo3.drew ∧ wo3.drew.cell? ⟨w2.heap.size, 0, none⟩ = some (.int .i64 ((ofS v).kind : Int)) ∧ wo3.drew.cell? ⟨w2.heap.size, 1, none⟩ = some (.slice A5 n5 c5) ∧ wo3.drew.cell? ⟨w.heap.size + 1, 0, none⟩ = some (.int .i64 xb) ∧ wo3.drew.cell? ⟨w.heap.size + 1, 1, none⟩ = some (.slice A3 n3 c3) ∧ wo3.drew.cell? ⟨w.heap.size, 0, none⟩ = some (.int .i64 k) ∧ wo3.drew.cell? ⟨w.heap.size, 1, none⟩ = some (.bool b) ∧ wo3.drew.cell? ⟨w.heap.size, 2, none⟩ = some (.int .i64 i) ∧ wo3.drew.cell? ⟨w.heap.size, 3, none⟩ = some (.string s) ∧ wo3.drew.cell? ⟨w.heap.size, 4, none⟩ = some (.slice A n c) ∧ wo3.drew.cell? ⟨w.heap.size, 5, none⟩ = some (.slice A2 n2 c2)) := keepS _ _ hS0 ((Below.refl _ _).drew)
  replace keepS := Lib.hid keepS
  clear hS0
  refine wp_region_held_drew (S := fun w' => Below wo3.heap.size wo3 w' ∧ w'.cell? ⟨w2.heap.size, 0, none⟩ = some (.int .i64 ((ofS v).kind : Int)) ∧ w'.cell? ⟨w2.heap.size, 1, none⟩ = some (.slice A5 n5 c5) ∧ w'.cell? ⟨w.heap.size + 1, 0, none⟩ = some (.int .i64 xb) ∧ w'.cell? ⟨w.heap.size + 1, 1, none⟩ = some (.slice A3 n3 c3) ∧ w'.cell? ⟨w.heap.size, 0, none⟩ = some (.int .i64 k) ∧ w'.cell? ⟨w.heap.size, 1, none⟩ = some (.bool b) ∧ w'.cell? ⟨w.heap.size, 2, none⟩ = some (.int .i64 i) ∧ w'.cell? ⟨w.heap.size, 3, none⟩ = some (.string s) ∧ w'.cell? ⟨w.heap.size, 4, none⟩ = some (.slice A n c) ∧ w'.cell? ⟨w.heap.size, 5, none⟩ = some (.slice A2 n2 c2)) (by kernel_rfl) ?_ (fun hHeld => ?_)
  · (try dsimp only)
    exact hS1
  refine wpAnyH_take (i := 0) (v := ?v51) rfl (by kernel_rfl) (by kernel_rfl) (by kernel_rfl) (fun _ _ _ h => h) (Or.inl ⟨by rfl, ?hy51⟩) (by assumption) ?rest51
  case hy51 => (intro w hSw; (try dsimp only at hSw); go_simp; try with_reducible rfl)
  simp only [Act.put, List.getElem_toArray, List.getElem_cons_zero, List.setIfInBounds_toArray, List.set_cons_zero, List.set_cons_succ]
  refine wpAnyH_take (i := 1) (v := ?v52) rfl (by kernel_rfl) (by kernel_rfl) (by kernel_rfl) (fun _ _ _ h => h) (Or.inl ⟨by rfl, ?hy52⟩) (by assumption) ?rest52
  case hy52 => (intro w hSw; (try dsimp only at hSw); go_simp; try with_reducible rfl)
  simp only [Act.put, List.getElem_toArray, List.getElem_cons_zero, List.getElem_cons_succ, List.setIfInBounds_toArray, List.set_cons_zero, List.set_cons_succ]
  refine wpAnyH_ready (rs := [2]) (by kernel_rfl) (by simp) ?_
  refine AllReadyH.cons rfl (fun K hK => ?_) AllReadyH.nil
  go_simp
  go_at_call 16
  refine (rofS_any gv v k b i s A n c A2 n2 c2 _ (RVl.at_ hv3.out hHeld.1)).mono ?_
  rintro e r2_2 ⟨A6, n6, c6, rfl, hY, hb2_2⟩
  dsimp only
  have hbq := hb2_2
  refine hK.out _ _ ?_ (fun hHeld => ?_)
  · (try dsimp only)
    exact keepS.out _ _ hHeld hbq
  clear hK K
  try simp only [Act.put, List.getElem_toArray, List.getElem_cons_zero, List.getElem_cons_succ, List.setIfInBounds_toArray, List.set_cons_zero, List.set_cons_succ]
  refine wpAnyH_ready (rs := [3]) (by kernel_rfl) (by simp) ?_
  refine AllReadyH.cons rfl (fun K hK => ?_) AllReadyH.nil
  go_simp
  go_at_call 15
  have CJ := same_any (ofS v) (ofS v) _ A5 n5 c5 _ A6 n6 c6 _ (ofS_ok v) (ofS_ok v) (RVB.at_ hX3.out hHeld.1) (new_to hY)
  rw [decide_eq_true rfl] at CJ
  refine CJ.mono ?_
  clear CJ
  rintro e r2_3 ⟨rfl, hb2_3⟩
  dsimp only
  have hbq := hb2_3
  refine hK.out _ _ ?_ (fun hHeld => ?_)
  · (try dsimp only)
    exact keepS.out _ _ hHeld hbq
  clear hK K
  try simp only [Act.put, List.getElem_toArray, List.getElem_cons_zero, List.getElem_cons_succ, List.setIfInBounds_toArray, List.set_cons_zero, List.set_cons_succ]
  refine wpAnyH_take (i := 4) (v := ?v53) rfl (by kernel_rfl) (by kernel_rfl) (by kernel_rfl) (fun _ _ _ h => h) (Or.inl ⟨by rfl, ?hy53⟩) (by assumption) ?rest53
  case hy53 => (intro w hSw; (try dsimp only at hSw); go_simp; try with_reducible rfl)
  simp only [Act.put, List.getElem_toArray, List.getElem_cons_zero, List.getElem_cons_succ, List.setIfInBounds_toArray, List.set_cons_zero, List.set_cons_succ]
  refine wpAnyH_take (i := 5) (v := ?v54) rfl (by kernel_rfl) (by kernel_rfl) (by kernel_rfl) (fun _ _ _ h => h) (Or.inl ⟨by rfl, ?hy54⟩) (by assumption) ?rest54
  case hy54 => (intro w hSw; (try dsimp only at hSw); go_simp; try with_reducible rfl)
  simp only [Act.put, List.getElem_toArray, List.getElem_cons_zero, List.getElem_cons_succ, List.setIfInBounds_toArray, List.set_cons_zero, List.set_cons_succ]
  refine wpAnyH_ready (rs := [6]) (by kernel_rfl) (by simp) ?_
  refine AllReadyH.cons rfl (fun K hK => ?_) AllReadyH.nil
  go_simp
  go_at_call 11
  have CJ := tvalid_any _ (ofV (ofS v)) _ A5 n5 c5 _ (RV.ty (RVB.at_ hX3.out hHeld.1))
  rw [ofS_valid] at CJ
  refine CJ.mono ?_
  clear CJ
  rintro e r2_6 ⟨rfl, hb2_6⟩
  dsimp only
  have hbq := hb2_6
  refine hK.out _ _ ?_ (fun hHeld => ?_)
  · (try dsimp only)
    exact keepS.out _ _ hHeld hbq
  clear hK K
  try simp only [Act.put, List.getElem_toArray, List.getElem_cons_zero, List.getElem_cons_succ, List.setIfInBounds_toArray, List.set_cons_zero, List.set_cons_succ]
  refine wpAnyH_take (i := 7) (v := ?v55) rfl (by kernel_rfl) (by kernel_rfl) (by kernel_rfl) (fun _ _ _ h => h) (Or.inl ⟨by rfl, ?hy55⟩) (by assumption) ?rest55
  case hy55 => (intro w hSw; (try dsimp only at hSw); go_simp; try with_reducible rfl)
  simp only [Act.put, List.getElem_toArray, List.getElem_cons_zero, List.getElem_cons_succ, List.setIfInBounds_toArray, List.set_cons_zero, List.set_cons_succ]
  refine wpAnyH_take (i := 8) (v := ?v56) rfl (by kernel_rfl) (by kernel_rfl) (by kernel_rfl) (fun _ _ _ h => h) (Or.inl ⟨by rfl, ?hy56⟩) (by assumption) ?rest56
  case hy56 => (intro w hSw; (try dsimp only at hSw); go_simp; try with_reducible rfl)
  simp only [Act.put, List.getElem_toArray, List.getElem_cons_zero, List.getElem_cons_succ, List.setIfInBounds_toArray, List.set_cons_zero, List.set_cons_succ]
  refine wpAnyH_take (i := 9) (v := ?v57) rfl (by kernel_rfl) (by kernel_rfl) (by kernel_rfl) (fun _ _ _ h => h) (Or.inl ⟨by rfl, ?hy57⟩) (by assumption) ?rest57
  case hy57 => (intro w hSw; (try dsimp only at hSw); go_simp; try with_reducible rfl)
  simp only [Act.put, List.getElem_toArray, List.getElem_cons_zero, List.getElem_cons_succ, List.setIfInBounds_toArray, List.set_cons_zero, List.set_cons_succ]
  refine wpAnyH_take (i := 10) (v := ?v58) rfl (by kernel_rfl) (by kernel_rfl) (by kernel_rfl) (fun _ _ _ h => h) (Or.inl ⟨by rfl, ?hy58⟩) (by assumption) ?rest58
  case hy58 => (intro w hSw; (try dsimp only at hSw); go_simp; try with_reducible rfl)
  simp only [Act.put, List.getElem_toArray, List.getElem_cons_zero, List.getElem_cons_succ, List.setIfInBounds_toArray, List.set_cons_zero, List.set_cons_succ]
  refine wpAnyH_take (i := 11) (v := ?v59) rfl (by kernel_rfl) (by kernel_rfl) (by kernel_rfl) (fun _ _ _ h => h) (Or.inl ⟨by rfl, ?hy59⟩) (by assumption) ?rest59
  case hy59 => (intro w hSw; (try dsimp only at hSw); go_simp; try with_reducible rfl)
  simp only [Act.put, List.getElem_toArray, List.getElem_cons_zero, List.getElem_cons_succ, List.setIfInBounds_toArray, List.set_cons_zero, List.set_cons_succ]
  refine wpAnyH_take (i := 13) (v := ?v60) rfl (by kernel_rfl) (by kernel_rfl) (by kernel_rfl) (fun _ _ _ h => h) (Or.inl ⟨by rfl, ?hy60⟩) (by assumption) ?rest60
  case hy60 => (intro w hSw; (try dsimp only at hSw); go_simp; try with_reducible rfl)
  simp only [Act.put, List.getElem_toArray, List.getElem_cons_zero, List.getElem_cons_succ, List.setIfInBounds_toArray, List.set_cons_zero, List.set_cons_succ]
  refine wpAnyH_take (i := 14) (v := ?v61) rfl (by kernel_rfl) (by kernel_rfl) (by kernel_rfl) (fun _ _ _ h => h) (Or.inl ⟨by rfl, ?hy61⟩) (by assumption) ?rest61
  case hy61 => (intro w hSw; (try dsimp only at hSw); go_simp; try with_reducible rfl)
  simp only [Act.put, List.getElem_toArray, List.getElem_cons_zero, List.getElem_cons_succ, List.setIfInBounds_toArray, List.set_cons_zero, List.set_cons_succ]
  refine wpAnyH_ready (rs := [12]) (by kernel_rfl) (by simp) ?_
  refine AllReadyH.cons rfl (fun K hK => ?_) AllReadyH.nil
  go_simp
  go_at_call 17
  refine (tfits_any gv v k b i s A n c A2 n2 c2 g t xb A3 n3 c3 _ (RVl.at_ hv3.out hHeld.1) (RTf.at_ ht3.out hHeld.1)).mono ?_
  rintro e r2_12 ⟨rfl, hb2_12⟩
  dsimp only
  have hbq := hb2_12
  refine hK.out _ _ ?_ (fun hHeld => ?_)
  · (try dsimp only)
    exact keepS.out _ _ hHeld hbq
  clear hK K
  try simp only [Act.put, List.getElem_toArray, List.getElem_cons_zero, List.getElem_cons_succ, List.setIfInBounds_toArray, List.set_cons_zero, List.set_cons_succ]
  refine wpAnyH_ready (rs := [15]) (by kernel_rfl) (by simp) ?_
  refine AllReadyH.cons rfl (fun K hK => ?_) AllReadyH.nil
  go_simp
  go_at_call 18
  refine (rfits_any gv v k b i s A n c A2 n2 c2 g t xb A3 n3 c3 _ (RVl.at_ hv3.out hHeld.1) (RTf.at_ ht3.out hHeld.1)).mono ?_
  rintro e r2_15 ⟨rfl, hb2_15⟩
  dsimp only
  have hbq := hb2_15
  refine hK.out _ _ ?_ (fun hHeld => ?_)
  · (try dsimp only)
    exact keepS.out _ _ hHeld hbq
  clear hK K
  try simp only [Act.put, List.getElem_toArray, List.getElem_cons_zero, List.getElem_cons_succ, List.setIfInBounds_toArray, List.set_cons_zero, List.set_cons_succ]
  refine wpAnyH_take (i := 16) (v := ?v62) rfl (by kernel_rfl) (by kernel_rfl) (by kernel_rfl) (fun _ _ _ h => h) (Or.inl ⟨by rfl, ?hy62⟩) (by assumption) ?rest62
  case hy62 => (intro w hSw; (try dsimp only at hSw); go_simp; try with_reducible rfl)
  simp only [Act.put, List.getElem_toArray, List.getElem_cons_zero, List.getElem_cons_succ, List.setIfInBounds_toArray, List.set_cons_zero, List.set_cons_succ]
  refine wpAnyH_take (i := 17) (v := ?v63) rfl (by kernel_rfl) (by kernel_rfl) (by kernel_rfl) (fun _ _ _ h => h) (Or.inl ⟨by rfl, ?hy63⟩) (by assumption) ?rest63
  case hy63 => (intro w hSw; (try dsimp only at hSw); go_simp; try with_reducible rfl)
  simp only [Act.put, List.getElem_toArray, List.getElem_cons_zero, List.getElem_cons_succ, List.setIfInBounds_toArray, List.set_cons_zero, List.set_cons_succ]
  refine wpAnyH_take (i := 18) (v := ?v64) rfl (by kernel_rfl) (by kernel_rfl) (by kernel_rfl) (fun _ _ _ h => h) (Or.inl ⟨by rfl, ?hy64⟩) (by assumption) ?rest64
  case hy64 => (intro w hSw; (try dsimp only at hSw); go_simp; try with_reducible rfl)
  simp only [Act.put, List.getElem_toArray, List.getElem_cons_zero, List.getElem_cons_succ, List.setIfInBounds_toArray, List.set_cons_zero, List.set_cons_succ]
  refine wpAnyH_ready (rs := [19]) (by kernel_rfl) (by simp) ?_
  refine AllReadyH.cons rfl (fun K hK => ?_) AllReadyH.nil
  go_simp
  go_at_call 13
  refine (awake_any _).mono ?_
  rintro e r2_19 ⟨rfl, hb2_19⟩
  dsimp only
  have hbq := hb2_19
  refine hK.out _ _ ?_ (fun hHeld => ?_)
  · (try dsimp only)
    exact keepS.out _ _ hHeld hbq
  clear hK K
  try simp only [Act.put, List.getElem_toArray, List.getElem_cons_zero, List.getElem_cons_succ, List.setIfInBounds_toArray, List.set_cons_zero, List.set_cons_succ]
  refine wpAnyH_take (i := 20) (v := ?v65) rfl (by kernel_rfl) (by kernel_rfl) (by kernel_rfl) (fun _ _ _ h => h) (Or.inl ⟨by rfl, ?hy65⟩) (by assumption) ?rest65
  case hy65 => (intro w hSw; (try dsimp only at hSw); go_simp; try with_reducible rfl)
  simp only [Act.put, List.getElem_toArray, List.getElem_cons_zero, List.getElem_cons_succ, List.setIfInBounds_toArray, List.set_cons_zero, List.set_cons_succ]
  refine wpAnyH_take (i := 21) (v := ?v66) rfl (by kernel_rfl) (by kernel_rfl) (by kernel_rfl) (fun _ _ _ h => h) (Or.inl ⟨by rfl, ?hy66⟩) (by assumption) ?rest66
  case hy66 => (intro w hSw; (try dsimp only at hSw); go_simp; try with_reducible rfl)
  simp only [Act.put, List.getElem_toArray, List.getElem_cons_zero, List.getElem_cons_succ, List.setIfInBounds_toArray, List.set_cons_zero, List.set_cons_succ]
  refine wpAnyH_done (by kernel_rfl) ?_ _
  have hb := hO3.below.trans (hHeld.1.mono hO3.below.size)
  repeat' ((fail_if_success at_builtin); (first | go_skip | go_guarded | go_step))
  go_ret
  exact ⟨rfl, hb⟩
end Go.Proofs.YtgcpffbaejodiaaDoor
