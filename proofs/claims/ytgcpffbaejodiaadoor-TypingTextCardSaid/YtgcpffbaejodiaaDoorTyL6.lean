/- Typing: the law about texts. -/
import Derived.Test.YtgcpffbaejodiaaDoorTyL1
namespace Go.Proofs.YtgcpffbaejodiaaDoor
open Go.RowKit
set_option maxRecDepth 100000 in
set_option maxHeartbeats 6000000 in
theorem text_law (g : Nat) (t : Ty) (k : Int) (A : Option Addr) (n c : Nat) (s : ByteArray) (w : World) (h : RTf g w (fun b => b < w.heap.size) t [.int .i64 k, .slice A n c]) :
    Calls Tryd.prog 8 #[.agg #[.int .i64 k, .slice A n c], .string s] w fun e w' => e = .returned (.bool true) ∧ Below w.heap.size w w' := by
  go_enter Tryd.func8, Tryd.ntmps8
  go_upto_region 1 with (fail)
  generalize hx_ : World.alloc w _ = wo1
  have hO1 : OwnB w wo1 [(w.heap.size, [.int .i64 k, .slice A n c])] := by rw [← hx_]; exact (OwnB.refl w).new #[.int .i64 k, .slice A n c] _ (g := w.heap.size)
  clear hx_
  have c0_0 : wo1.cell? ⟨w.heap.size, 0, none⟩ = some (.int .i64 k) := hO1.c 0 0
  have c0_1 : wo1.cell? ⟨w.heap.size, 1, none⟩ = some (.slice A n c) := hO1.c 0 1
  have cf0 := hO1.fr 0
  repeat' ((fail_if_success at_builtin); (first | go_skip | go_guarded | go_step))
  refine (tparse_any s _).mono ?_
  rintro e w2 ⟨A5, n5, c5, rfl, hX, hb2⟩
  dsimp only
  have hO2 : OwnB w w2 [(w.heap.size, [.int .i64 k, .slice A n c])] := hO1.kept hb2
  clear c0_0 c0_1 cf0 hO1
  have c0_0 : w2.cell? ⟨w.heap.size, 0, none⟩ = some (.int .i64 k) := hO2.c 0 0
  have c0_1 : w2.cell? ⟨w.heap.size, 1, none⟩ = some (.slice A n c) := hO2.c 0 1
  have cf0 := hO2.fr 0
  go_upto_region 2 with (fail)
  generalize hx_ : World.alloc w2 _ = wo3
  have hO3 : OwnB w wo3 [(w2.heap.size, [.int .i64 ((parseV s.data.toList).kind : Int), .slice A5 n5 c5]), (w.heap.size, [.int .i64 k, .slice A n c])] := by rw [← hx_]; exact hO2.new #[.int .i64 ((parseV s.data.toList).kind : Int), .slice A5 n5 c5] _ (g := w2.heap.size)
  have hbn : Below w2.heap.size w2 wo3 := by rw [← hx_]; exact (Below.refl _ _).alloc (Nat.le_refl _) _
  clear hx_ c0_0 c0_1 cf0 hO2
  have c0_0 : wo3.cell? ⟨w2.heap.size, 0, none⟩ = some (.int .i64 ((parseV s.data.toList).kind : Int)) := hO3.c 0 0
  have c0_1 : wo3.cell? ⟨w2.heap.size, 1, none⟩ = some (.slice A5 n5 c5) := hO3.c 0 1
  have cf0 := hO3.fr 0
  have c1_0 : wo3.cell? ⟨w.heap.size, 0, none⟩ = some (.int .i64 k) := hO3.c 1 0
  have c1_1 : wo3.cell? ⟨w.heap.size, 1, none⟩ = some (.slice A n c) := hO3.c 1 1
  have cf1 := hO3.fr 1
  replace hX : RVB w2 w2.heap.size _ _ := hX.imp (fun b h => h.2)
  replace hX := RVB.at_ hX hbn
  clear hbn
  repeat' ((fail_if_success at_builtin); (first | go_skip | go_guarded | go_step))
  refine (rparse_any s _).mono ?_
  rintro e w4 ⟨A6, n6, c6, rfl, hY, hb4⟩
  dsimp only
  have hO4 : OwnB w w4 [(w2.heap.size, [.int .i64 ((parseV s.data.toList).kind : Int), .slice A5 n5 c5]), (w.heap.size, [.int .i64 k, .slice A n c])] := hO3.kept hb4
  clear c0_0 c0_1 cf0 c1_0 c1_1 cf1 hO3
  have c0_0 : w4.cell? ⟨w2.heap.size, 0, none⟩ = some (.int .i64 ((parseV s.data.toList).kind : Int)) := hO4.c 0 0
  have c0_1 : w4.cell? ⟨w2.heap.size, 1, none⟩ = some (.slice A5 n5 c5) := hO4.c 0 1
  have cf0 := hO4.fr 0
  have c1_0 : w4.cell? ⟨w.heap.size, 0, none⟩ = some (.int .i64 k) := hO4.c 1 0
  have c1_1 : w4.cell? ⟨w.heap.size, 1, none⟩ = some (.slice A n c) := hO4.c 1 1
  have cf1 := hO4.fr 1
  go_upto_region 3 with (fail)
  generalize hx_ : World.alloc w4 _ = wo5
  have hO5 : OwnB w wo5 [(w4.heap.size, [.int .i64 ((parseV s.data.toList).kind : Int), .slice A6 n6 c6]), (w2.heap.size, [.int .i64 ((parseV s.data.toList).kind : Int), .slice A5 n5 c5]), (w.heap.size, [.int .i64 k, .slice A n c])] := by rw [← hx_]; exact hO4.new #[.int .i64 ((parseV s.data.toList).kind : Int), .slice A6 n6 c6] _ (g := w4.heap.size)
  have hbn : Below w4.heap.size w4 wo5 := by rw [← hx_]; exact (Below.refl _ _).alloc (Nat.le_refl _) _
  clear hx_ c0_0 c0_1 cf0 c1_0 c1_1 cf1 hO4
  have c0_0 : wo5.cell? ⟨w4.heap.size, 0, none⟩ = some (.int .i64 ((parseV s.data.toList).kind : Int)) := hO5.c 0 0
  have c0_1 : wo5.cell? ⟨w4.heap.size, 1, none⟩ = some (.slice A6 n6 c6) := hO5.c 0 1
  have cf0 := hO5.fr 0
  have c1_0 : wo5.cell? ⟨w2.heap.size, 0, none⟩ = some (.int .i64 ((parseV s.data.toList).kind : Int)) := hO5.c 1 0
  have c1_1 : wo5.cell? ⟨w2.heap.size, 1, none⟩ = some (.slice A5 n5 c5) := hO5.c 1 1
  have cf1 := hO5.fr 1
  have c2_0 : wo5.cell? ⟨w.heap.size, 0, none⟩ = some (.int .i64 k) := hO5.c 2 0
  have c2_1 : wo5.cell? ⟨w.heap.size, 1, none⟩ = some (.slice A n c) := hO5.c 2 1
  have cf2 := hO5.fr 2
  replace hY : RVB w4 w4.heap.size _ _ := hY.imp (fun b h => h.2)
  replace hX := Lib.hid (RVB.at_ (RVB.at_ hX hb4) hbn)
  replace hY := Lib.hid (RVB.at_ hY hbn)
  have h5 := Lib.hid (RTf.at_ h hO5.below)
  clear hbn h
  go_upto_region 3 with (fail)
  have hS0 : (Below wo5.heap.size wo5 wo5 ∧ wo5.cell? ⟨w4.heap.size, 0, none⟩ = some (.int .i64 ((parseV s.data.toList).kind : Int)) ∧ wo5.cell? ⟨w4.heap.size, 1, none⟩ = some (.slice A6 n6 c6) ∧ wo5.cell? ⟨w2.heap.size, 0, none⟩ = some (.int .i64 ((parseV s.data.toList).kind : Int)) ∧ wo5.cell? ⟨w2.heap.size, 1, none⟩ = some (.slice A5 n5 c5) ∧ wo5.cell? ⟨w.heap.size, 0, none⟩ = some (.int .i64 k) ∧ wo5.cell? ⟨w.heap.size, 1, none⟩ = some (.slice A n c)) := ⟨Below.refl _ _, hO5.c 0 0, hO5.c 0 1, hO5.c 1 0, hO5.c 1 1, hO5.c 2 0, hO5.c 2 1⟩
  have keepS : ∀ v1 v2 : World, (Below wo5.heap.size wo5 v1 ∧ v1.cell? ⟨w4.heap.size, 0, none⟩ = some (.int .i64 ((parseV s.data.toList).kind : Int)) ∧ v1.cell? ⟨w4.heap.size, 1, none⟩ = some (.slice A6 n6 c6) ∧ v1.cell? ⟨w2.heap.size, 0, none⟩ = some (.int .i64 ((parseV s.data.toList).kind : Int)) ∧ v1.cell? ⟨w2.heap.size, 1, none⟩ = some (.slice A5 n5 c5) ∧ v1.cell? ⟨w.heap.size, 0, none⟩ = some (.int .i64 k) ∧ v1.cell? ⟨w.heap.size, 1, none⟩ = some (.slice A n c)) → Below v1.heap.size v1 v2 → (Below wo5.heap.size wo5 v2 ∧ v2.cell? ⟨w4.heap.size, 0, none⟩ = some (.int .i64 ((parseV s.data.toList).kind : Int)) ∧ v2.cell? ⟨w4.heap.size, 1, none⟩ = some (.slice A6 n6 c6) ∧ v2.cell? ⟨w2.heap.size, 0, none⟩ = some (.int .i64 ((parseV s.data.toList).kind : Int)) ∧ v2.cell? ⟨w2.heap.size, 1, none⟩ = some (.slice A5 n5 c5) ∧ v2.cell? ⟨w.heap.size, 0, none⟩ = some (.int .i64 k) ∧ v2.cell? ⟨w.heap.size, 1, none⟩ = some (.slice A n c)) := fun v1 v2 h hb => ⟨h.1.trans (hb.mono h.1.size), (hO5.kept (h.1.trans (hb.mono h.1.size))).c 0 0, (hO5.kept (h.1.trans (hb.mono h.1.size))).c 0 1, (hO5.kept (h.1.trans (hb.mono h.1.size))).c 1 0, (hO5.kept (h.1.trans (hb.mono h.1.size))).c 1 1, (hO5.kept (h.1.trans (hb.mono h.1.size))).c 2 0, (hO5.kept (h.1.trans (hb.mono h.1.size))).c 2 1⟩
  have hS1 : (Below wo5.heap.size wo5 wo5.drew ∧ wo5.drew.cell? ⟨w4.heap.size, 0, none⟩ = some (.int .i64 ((parseV s.data.toList).kind : Int)) ∧ wo5.drew.cell? ⟨w4.heap.size, 1, none⟩ = some (.slice A6 n6 c6) ∧ wo5.drew.cell? ⟨w2.heap.size, 0, none⟩ = some (.int .i64 ((parseV s.data.toList).kind : Int)) ∧ wo5.drew.cell? ⟨w2.heap.size, 1, none⟩ = some (.slice A5 n5 c5) ∧ wo5.drew.cell? ⟨w.heap.size, 0, none⟩ = some (.int .i64 k) ∧ wo5.drew.cell? ⟨w.heap.size, 1, none⟩ = some (.slice A n c)) := keepS _ _ hS0 ((Below.refl _ _).drew)
  replace keepS := Lib.hid keepS
  clear hS0
  refine wp_region_held_drew (S := fun w' => Below wo5.heap.size wo5 w' ∧ w'.cell? ⟨w4.heap.size, 0, none⟩ = some (.int .i64 ((parseV s.data.toList).kind : Int)) ∧ w'.cell? ⟨w4.heap.size, 1, none⟩ = some (.slice A6 n6 c6) ∧ w'.cell? ⟨w2.heap.size, 0, none⟩ = some (.int .i64 ((parseV s.data.toList).kind : Int)) ∧ w'.cell? ⟨w2.heap.size, 1, none⟩ = some (.slice A5 n5 c5) ∧ w'.cell? ⟨w.heap.size, 0, none⟩ = some (.int .i64 k) ∧ w'.cell? ⟨w.heap.size, 1, none⟩ = some (.slice A n c)) (by kernel_rfl) ?_ (fun hHeld => ?_)
  · (try dsimp only)
    exact hS1
  refine wpAnyH_take (i := 0) (v := ?v87) rfl (by kernel_rfl) (by kernel_rfl) (by kernel_rfl) (fun _ _ _ h => h) (Or.inl ⟨by rfl, ?hy87⟩) (by assumption) ?rest87
  case hy87 => (intro w hSw; (try dsimp only at hSw); go_simp; try with_reducible rfl)
  simp only [Act.put, List.getElem_toArray, List.getElem_cons_zero, List.setIfInBounds_toArray, List.set_cons_zero, List.set_cons_succ]
  refine wpAnyH_take (i := 2) (v := ?v88) rfl (by kernel_rfl) (by kernel_rfl) (by kernel_rfl) (fun _ _ _ h => h) (Or.inl ⟨by rfl, ?hy88⟩) (by assumption) ?rest88
  case hy88 => (intro w hSw; (try dsimp only at hSw); go_simp; try with_reducible rfl)
  simp only [Act.put, List.getElem_toArray, List.getElem_cons_zero, List.getElem_cons_succ, List.setIfInBounds_toArray, List.set_cons_zero, List.set_cons_succ]
  refine wpAnyH_ready (rs := [1]) (by kernel_rfl) (by simp) ?_
  refine AllReadyH.cons rfl (fun K hK => ?_) AllReadyH.nil
  go_simp
  go_at_call 28
  refine (tshow_any g t k A n c _ (RTf.at_ h5.out hHeld.1)).mono ?_
  rintro e r3_1 ⟨rfl, hb3_1⟩
  dsimp only
  have hbq := hb3_1
  refine hK.out _ _ ?_ (fun hHeld => ?_)
  · (try dsimp only)
    exact keepS.out _ _ hHeld hbq
  clear hK K
  try simp only [Act.put, List.getElem_toArray, List.getElem_cons_zero, List.getElem_cons_succ, List.setIfInBounds_toArray, List.set_cons_zero, List.set_cons_succ]
  refine wpAnyH_ready (rs := [3]) (by kernel_rfl) (by simp) ?_
  refine AllReadyH.cons rfl (fun K hK => ?_) AllReadyH.nil
  go_simp
  go_at_call 29
  refine (rshow_any g t k A n c _ (RTf.at_ h5.out hHeld.1)).mono ?_
  rintro e r3_3 ⟨rfl, hb3_3⟩
  dsimp only
  have hbq := hb3_3
  refine hK.out _ _ ?_ (fun hHeld => ?_)
  · (try dsimp only)
    exact keepS.out _ _ hHeld hbq
  clear hK K
  try simp only [Act.put, List.getElem_toArray, List.getElem_cons_zero, List.getElem_cons_succ, List.setIfInBounds_toArray, List.set_cons_zero, List.set_cons_succ]
  refine wpAnyH_take (i := 4) (v := ?v89) rfl (by kernel_rfl) (by kernel_rfl) (by kernel_rfl) (fun _ _ _ h => h) (Or.inl ⟨by rfl, ?hy89⟩) (by assumption) ?rest89
  case hy89 => (intro w hSw; (try dsimp only at hSw); go_simp; try with_reducible rfl)
  simp only [Act.put, List.getElem_toArray, List.getElem_cons_zero, List.getElem_cons_succ, List.setIfInBounds_toArray, List.set_cons_zero, List.set_cons_succ]
  refine wpAnyH_take (i := 5) (v := ?v90) rfl (by kernel_rfl) (by kernel_rfl) (by kernel_rfl) (fun _ _ _ h => h) (Or.inl ⟨by rfl, ?hy90⟩) (by assumption) ?rest90
  case hy90 => (intro w hSw; (try dsimp only at hSw); go_simp; try with_reducible rfl)
  simp only [Act.put, List.getElem_toArray, List.getElem_cons_zero, List.getElem_cons_succ, List.setIfInBounds_toArray, List.set_cons_zero, List.set_cons_succ]
  refine wpAnyH_take (i := 6) (v := ?v91) rfl (by kernel_rfl) (by kernel_rfl) (by kernel_rfl) (fun _ _ _ h => h) (Or.inl ⟨by rfl, ?hy91⟩) (by assumption) ?rest91
  case hy91 => (intro w hSw; (try dsimp only at hSw); go_simp; try with_reducible rfl)
  simp only [Act.put, List.getElem_toArray, List.getElem_cons_zero, List.getElem_cons_succ, List.setIfInBounds_toArray, List.set_cons_zero, List.set_cons_succ]
  refine wpAnyH_take (i := 7) (v := ?v92) rfl (by kernel_rfl) (by kernel_rfl) (by kernel_rfl) (fun _ _ _ h => h) (Or.inl ⟨by rfl, ?hy92⟩) (by assumption) ?rest92
  case hy92 => (intro w hSw; (try dsimp only at hSw); go_simp; try with_reducible rfl)
  simp only [Act.put, List.getElem_toArray, List.getElem_cons_zero, List.getElem_cons_succ, List.setIfInBounds_toArray, List.set_cons_zero, List.set_cons_succ]
  refine wpAnyH_take (i := 8) (v := ?v93) rfl (by kernel_rfl) (by kernel_rfl) (by kernel_rfl) (fun _ _ _ h => h) (Or.inl ⟨by rfl, ?hy93⟩) (by assumption) ?rest93
  case hy93 => (intro w hSw; (try dsimp only at hSw); go_simp; try with_reducible rfl)
  simp only [Act.put, List.getElem_toArray, List.getElem_cons_zero, List.getElem_cons_succ, List.setIfInBounds_toArray, List.set_cons_zero, List.set_cons_succ]
  refine wpAnyH_take (i := 9) (v := ?v94) rfl (by kernel_rfl) (by kernel_rfl) (by kernel_rfl) (fun _ _ _ h => h) (Or.inl ⟨by rfl, ?hy94⟩) (by assumption) ?rest94
  case hy94 => (intro w hSw; (try dsimp only at hSw); go_simp; try with_reducible rfl)
  simp only [Act.put, List.getElem_toArray, List.getElem_cons_zero, List.getElem_cons_succ, List.setIfInBounds_toArray, List.set_cons_zero, List.set_cons_succ]
  refine wpAnyH_take (i := 10) (v := ?v95) rfl (by kernel_rfl) (by kernel_rfl) (by kernel_rfl) (fun _ _ _ h => h) (Or.inl ⟨by rfl, ?hy95⟩) (by assumption) ?rest95
  case hy95 => (intro w hSw; (try dsimp only at hSw); go_simp; try with_reducible rfl)
  simp only [Act.put, List.getElem_toArray, List.getElem_cons_zero, List.getElem_cons_succ, List.setIfInBounds_toArray, List.set_cons_zero, List.set_cons_succ]
  refine wpAnyH_take (i := 11) (v := ?v96) rfl (by kernel_rfl) (by kernel_rfl) (by kernel_rfl) (fun _ _ _ h => h) (Or.inl ⟨by rfl, ?hy96⟩) (by assumption) ?rest96
  case hy96 => (intro w hSw; (try dsimp only at hSw); go_simp; try with_reducible rfl)
  simp only [Act.put, List.getElem_toArray, List.getElem_cons_zero, List.getElem_cons_succ, List.setIfInBounds_toArray, List.set_cons_zero, List.set_cons_succ]
  refine wpAnyH_take (i := 12) (v := ?v97) rfl (by kernel_rfl) (by kernel_rfl) (by kernel_rfl) (fun _ _ _ h => h) (Or.inl ⟨by rfl, ?hy97⟩) (by assumption) ?rest97
  case hy97 => (intro w hSw; (try dsimp only at hSw); go_simp; try with_reducible rfl)
  simp only [Act.put, List.getElem_toArray, List.getElem_cons_zero, List.getElem_cons_succ, List.setIfInBounds_toArray, List.set_cons_zero, List.set_cons_succ]
  refine wpAnyH_ready (rs := [13]) (by kernel_rfl) (by simp) ?_
  refine AllReadyH.cons rfl (fun K hK => ?_) AllReadyH.nil
  go_simp
  go_at_call 15
  have CJ := same_any (parseV s.data.toList) (parseV s.data.toList) _ A5 n5 c5 _ A6 n6 c6 _ (parseV_ok _) (parseV_ok _) (RVB.at_ hX.out hHeld.1) (RVB.at_ hY.out hHeld.1)
  rw [decide_eq_true rfl] at CJ
  refine CJ.mono ?_
  clear CJ
  rintro e r3_13 ⟨rfl, hb3_13⟩
  dsimp only
  have hbq := hb3_13
  refine hK.out _ _ ?_ (fun hHeld => ?_)
  · (try dsimp only)
    exact keepS.out _ _ hHeld hbq
  clear hK K
  try simp only [Act.put, List.getElem_toArray, List.getElem_cons_zero, List.getElem_cons_succ, List.setIfInBounds_toArray, List.set_cons_zero, List.set_cons_succ]
  refine wpAnyH_take (i := 14) (v := ?v98) rfl (by kernel_rfl) (by kernel_rfl) (by kernel_rfl) (fun _ _ _ h => h) (Or.inl ⟨by rfl, ?hy98⟩) (by assumption) ?rest98
  case hy98 => (intro w hSw; (try dsimp only at hSw); go_simp; try with_reducible rfl)
  simp only [Act.put, List.getElem_toArray, List.getElem_cons_zero, List.getElem_cons_succ, List.setIfInBounds_toArray, List.set_cons_zero, List.set_cons_succ]
  refine wpAnyH_take (i := 15) (v := ?v99) rfl (by kernel_rfl) (by kernel_rfl) (by kernel_rfl) (fun _ _ _ h => h) (Or.inl ⟨by rfl, ?hy99⟩) (by assumption) ?rest99
  case hy99 => (intro w hSw; (try dsimp only at hSw); go_simp; try with_reducible rfl)
  simp only [Act.put, List.getElem_toArray, List.getElem_cons_zero, List.getElem_cons_succ, List.setIfInBounds_toArray, List.set_cons_zero, List.set_cons_succ]
  refine wpAnyH_ready (rs := [16]) (by kernel_rfl) (by simp) ?_
  refine AllReadyH.cons rfl (fun K hK => ?_) AllReadyH.nil
  go_simp
  go_at_call 13
  refine (awake_any _).mono ?_
  rintro e r3_16 ⟨rfl, hb3_16⟩
  dsimp only
  have hbq := hb3_16
  refine hK.out _ _ ?_ (fun hHeld => ?_)
  · (try dsimp only)
    exact keepS.out _ _ hHeld hbq
  clear hK K
  try simp only [Act.put, List.getElem_toArray, List.getElem_cons_zero, List.getElem_cons_succ, List.setIfInBounds_toArray, List.set_cons_zero, List.set_cons_succ]
  refine wpAnyH_take (i := 17) (v := ?v100) rfl (by kernel_rfl) (by kernel_rfl) (by kernel_rfl) (fun _ _ _ h => h) (Or.inl ⟨by rfl, ?hy100⟩) (by assumption) ?rest100
  case hy100 => (intro w hSw; (try dsimp only at hSw); go_simp; try with_reducible rfl)
  simp only [Act.put, List.getElem_toArray, List.getElem_cons_zero, List.getElem_cons_succ, List.setIfInBounds_toArray, List.set_cons_zero, List.set_cons_succ]
  refine wpAnyH_take (i := 18) (v := ?v101) rfl (by kernel_rfl) (by kernel_rfl) (by kernel_rfl) (fun _ _ _ h => h) (Or.inl ⟨by rfl, ?hy101⟩) (by assumption) ?rest101
  case hy101 => (intro w hSw; (try dsimp only at hSw); go_simp; try with_reducible rfl)
  simp only [Act.put, List.getElem_toArray, List.getElem_cons_zero, List.getElem_cons_succ, List.setIfInBounds_toArray, List.set_cons_zero, List.set_cons_succ]
  refine wpAnyH_done (by kernel_rfl) ?_ _
  have hb := hO5.below.trans (hHeld.1.mono hO5.below.size)
  repeat' ((fail_if_success at_builtin); (first | go_skip | go_guarded | go_step))
  go_ret
  exact ⟨rfl, hb⟩
end Go.Proofs.YtgcpffbaejodiaaDoor
