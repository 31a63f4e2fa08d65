/- Typing: the law about bounds. -/
import Derived.Test.YtgcpffbaejodiaaDoorTyL1
namespace Go.Proofs.YtgcpffbaejodiaaDoor
open Go.RowKit
set_option maxRecDepth 100000 in
set_option maxHeartbeats 6000000 in
theorem bounds_law (ga gb : Nat) (t u : Ty) (xa : Int) (A : Option Addr) (n c : Nat) (xb : Int) (A2 : Option Addr) (n2 c2 : Nat) (w : World) (ha : RTf ga w (fun b => b < w.heap.size) t [.int .i64 xa, .slice A n c]) (hu : RTf gb w (fun b => b < w.heap.size) u [.int .i64 xb, .slice A2 n2 c2]) :
    Calls Tryd.prog 5 #[.agg #[.int .i64 xa, .slice A n c], .agg #[.int .i64 xb, .slice A2 n2 c2]] w fun e w' => e = .returned (.bool true) ∧ Below w.heap.size w w' := by
  go_enter Tryd.func5, Tryd.ntmps5
  go_upto_region 1 with (fail)
  generalize hx_ : World.alloc (World.alloc w _) _ = wo1
  have hO1 : OwnB w wo1 [(w.heap.size + 1, [.int .i64 xb, .slice A2 n2 c2]), (w.heap.size, [.int .i64 xa, .slice A n c])] := by rw [← hx_]; exact ((OwnB.refl w).new #[.int .i64 xa, .slice A n c] _ (g := w.heap.size)).new #[.int .i64 xb, .slice A2 n2 c2] _ (g := w.heap.size + 1)
  clear hx_
  have c0_0 : wo1.cell? ⟨w.heap.size + 1, 0, none⟩ = some (.int .i64 xb) := hO1.c 0 0
  have c0_1 : wo1.cell? ⟨w.heap.size + 1, 1, none⟩ = some (.slice A2 n2 c2) := hO1.c 0 1
  have cf0 := hO1.fr 0
  have c1_0 : wo1.cell? ⟨w.heap.size, 0, none⟩ = some (.int .i64 xa) := hO1.c 1 0
  have c1_1 : wo1.cell? ⟨w.heap.size, 1, none⟩ = some (.slice A n c) := hO1.c 1 1
  have cf1 := hO1.fr 1
  have h1 := Lib.hid (RTf.at_ ha hO1.below)
  have h2 := Lib.hid (RTf.at_ hu hO1.below)
  clear ha hu
  go_upto_region 1 with (fail)
  have hS0 : (Below wo1.heap.size wo1 wo1 ∧ wo1.cell? ⟨w.heap.size + 1, 0, none⟩ = some (.int .i64 xb) ∧ wo1.cell? ⟨w.heap.size + 1, 1, none⟩ = some (.slice A2 n2 c2) ∧ wo1.cell? ⟨w.heap.size, 0, none⟩ = some (.int .i64 xa) ∧ wo1.cell? ⟨w.heap.size, 1, none⟩ = some (.slice A n c)) := ⟨Below.refl _ _, hO1.c 0 0, hO1.c 0 1, hO1.c 1 0, hO1.c 1 1⟩
  have keepS : ∀ v1 v2 : World, (Below wo1.heap.size wo1 v1 ∧ v1.cell? ⟨w.heap.size + 1, 0, none⟩ = some (.int .i64 xb) ∧ v1.cell? ⟨w.heap.size + 1, 1, none⟩ = some (.slice A2 n2 c2) ∧ v1.cell? ⟨w.heap.size, 0, none⟩ = some (.int .i64 xa) ∧ v1.cell? ⟨w.heap.size, 1, none⟩ = some (.slice A n c)) → Below v1.heap.size v1 v2 → (Below wo1.heap.size wo1 v2 ∧ v2.cell? ⟨w.heap.size + 1, 0, none⟩ = some (.int .i64 xb) ∧ v2.cell? ⟨w.heap.size + 1, 1, none⟩ = some (.slice A2 n2 c2) ∧ v2.cell? ⟨w.heap.size, 0, none⟩ = some (.int .i64 xa) ∧ v2.cell? ⟨w.heap.size, 1, none⟩ = some (.slice A n c)) := fun v1 v2 h hb => ⟨h.1.trans (hb.mono h.1.size), (hO1.kept (h.1.trans (hb.mono h.1.size))).c 0 0, (hO1.kept (h.1.trans (hb.mono h.1.size))).c 0 1, (hO1.kept (h.1.trans (hb.mono h.1.size))).c 1 0, (hO1.kept (h.1.trans (hb.mono h.1.size))).c 1 1⟩
  have hS1 : (Below wo1.heap.size wo1 wo1.drew ∧ wo1.drew.cell? ⟨w.heap.size + 1, 0, none⟩ = some (.int .i64 xb) ∧ wo1.drew.cell? ⟨w.heap.size + 1, 1, none⟩ = some (.slice A2 n2 c2) ∧ wo1.drew.cell? ⟨w.heap.size, 0, none⟩ = some (.int .i64 xa) ∧ wo1.drew.cell? ⟨w.heap.size, 1, none⟩ = some (.slice A n c)) := keepS _ _ hS0 ((Below.refl _ _).drew)
  replace keepS := Lib.hid keepS
  clear hS0
  refine wp_region_held_drew (S := fun w' => Below wo1.heap.size wo1 w' ∧ w'.cell? ⟨w.heap.size + 1, 0, none⟩ = some (.int .i64 xb) ∧ w'.cell? ⟨w.heap.size + 1, 1, none⟩ = some (.slice A2 n2 c2) ∧ w'.cell? ⟨w.heap.size, 0, none⟩ = some (.int .i64 xa) ∧ w'.cell? ⟨w.heap.size, 1, none⟩ = some (.slice A n c)) (by kernel_rfl) ?_ (fun hHeld => ?_)
  · (try dsimp only)
    exact hS1
  refine wpAnyH_take (i := 0) (v := ?v67) rfl (by kernel_rfl) (by kernel_rfl) (by kernel_rfl) (fun _ _ _ h => h) (Or.inl ⟨by rfl, ?hy67⟩) (by assumption) ?rest67
  case hy67 => (intro w hSw; (try dsimp only at hSw); go_simp; try with_reducible rfl)
  simp only [Act.put, List.getElem_toArray, List.getElem_cons_zero, List.setIfInBounds_toArray, List.set_cons_zero, List.set_cons_succ]
  refine wpAnyH_take (i := 1) (v := ?v68) rfl (by kernel_rfl) (by kernel_rfl) (by kernel_rfl) (fun _ _ _ h => h) (Or.inl ⟨by rfl, ?hy68⟩) (by assumption) ?rest68
  case hy68 => (intro w hSw; (try dsimp only at hSw); go_simp; try with_reducible rfl)
  simp only [Act.put, List.getElem_toArray, List.getElem_cons_zero, List.getElem_cons_succ, List.setIfInBounds_toArray, List.set_cons_zero, List.set_cons_succ]
  refine wpAnyH_take (i := 3) (v := ?v69) rfl (by kernel_rfl) (by kernel_rfl) (by kernel_rfl) (fun _ _ _ h => h) (Or.inl ⟨by rfl, ?hy69⟩) (by assumption) ?rest69
  case hy69 => (intro w hSw; (try dsimp only at hSw); go_simp; try with_reducible rfl)
  simp only [Act.put, List.getElem_toArray, List.getElem_cons_zero, List.getElem_cons_succ, List.setIfInBounds_toArray, List.set_cons_zero, List.set_cons_succ]
  refine wpAnyH_take (i := 4) (v := ?v70) rfl (by kernel_rfl) (by kernel_rfl) (by kernel_rfl) (fun _ _ _ h => h) (Or.inl ⟨by rfl, ?hy70⟩) (by assumption) ?rest70
  case hy70 => (intro w hSw; (try dsimp only at hSw); go_simp; try with_reducible rfl)
  simp only [Act.put, List.getElem_toArray, List.getElem_cons_zero, List.getElem_cons_succ, List.setIfInBounds_toArray, List.set_cons_zero, List.set_cons_succ]
  refine wpAnyH_ready (rs := [2]) (by kernel_rfl) (by simp) ?_
  refine AllReadyH.cons rfl (fun K hK => ?_) AllReadyH.nil
  go_simp
  go_at_call 19
  refine (sub_any ga gb t u xa A n c xb A2 n2 c2 _ (RTf.at_ h1.out hHeld.1) (RTf.at_ h2.out hHeld.1)).mono ?_
  rintro e r1_2 ⟨rfl, hb1_2⟩
  dsimp only
  have hbq := hb1_2
  refine hK.out _ _ ?_ (fun hHeld => ?_)
  · (try dsimp only)
    exact keepS.out _ _ hHeld hbq
  clear hK K
  try simp only [Act.put, List.getElem_toArray, List.getElem_cons_zero, List.getElem_cons_succ, List.setIfInBounds_toArray, List.set_cons_zero, List.set_cons_succ]
  refine wpAnyH_ready (rs := [5]) (by kernel_rfl) (by simp) ?_
  refine AllReadyH.cons rfl (fun K hK => ?_) AllReadyH.nil
  go_simp
  go_at_call 20
  refine (rsub_any ga gb t u xa A n c xb A2 n2 c2 _ (RTf.at_ h1.out hHeld.1) (RTf.at_ h2.out hHeld.1)).mono ?_
  rintro e r1_5 ⟨rfl, hb1_5⟩
  dsimp only
  have hbq := hb1_5
  refine hK.out _ _ ?_ (fun hHeld => ?_)
  · (try dsimp only)
    exact keepS.out _ _ hHeld hbq
  clear hK K
  try simp only [Act.put, List.getElem_toArray, List.getElem_cons_zero, List.getElem_cons_succ, List.setIfInBounds_toArray, List.set_cons_zero, List.set_cons_succ]
  refine wpAnyH_take (i := 6) (v := ?v71) rfl (by kernel_rfl) (by kernel_rfl) (by kernel_rfl) (fun _ _ _ h => h) (Or.inl ⟨by rfl, ?hy71⟩) (by assumption) ?rest71
  case hy71 => (intro w hSw; (try dsimp only at hSw); go_simp; try with_reducible rfl)
  simp only [Act.put, List.getElem_toArray, List.getElem_cons_zero, List.getElem_cons_succ, List.setIfInBounds_toArray, List.set_cons_zero, List.set_cons_succ]
  refine wpAnyH_take (i := 7) (v := ?v72) rfl (by kernel_rfl) (by kernel_rfl) (by kernel_rfl) (fun _ _ _ h => h) (Or.inl ⟨by rfl, ?hy72⟩) (by assumption) ?rest72
  case hy72 => (intro w hSw; (try dsimp only at hSw); go_simp; try with_reducible rfl)
  simp only [Act.put, List.getElem_toArray, List.getElem_cons_zero, List.getElem_cons_succ, List.setIfInBounds_toArray, List.set_cons_zero, List.set_cons_succ]
  refine wpAnyH_take (i := 8) (v := ?v73) rfl (by kernel_rfl) (by kernel_rfl) (by kernel_rfl) (fun _ _ _ h => h) (Or.inl ⟨by rfl, ?hy73⟩) (by assumption) ?rest73
  case hy73 => (intro w hSw; (try dsimp only at hSw); go_simp; try with_reducible rfl)
  simp only [Act.put, List.getElem_toArray, List.getElem_cons_zero, List.getElem_cons_succ, List.setIfInBounds_toArray, List.set_cons_zero, List.set_cons_succ]
  refine wpAnyH_take (i := 9) (v := ?v74) rfl (by kernel_rfl) (by kernel_rfl) (by kernel_rfl) (fun _ _ _ h => h) (Or.inl ⟨by rfl, ?hy74⟩) (by assumption) ?rest74
  case hy74 => (intro w hSw; (try dsimp only at hSw); go_simp; try with_reducible rfl)
  simp only [Act.put, List.getElem_toArray, List.getElem_cons_zero, List.getElem_cons_succ, List.setIfInBounds_toArray, List.set_cons_zero, List.set_cons_succ]
  refine wpAnyH_take (i := 11) (v := ?v75) rfl (by kernel_rfl) (by kernel_rfl) (by kernel_rfl) (fun _ _ _ h => h) (Or.inl ⟨by rfl, ?hy75⟩) (by assumption) ?rest75
  case hy75 => (intro w hSw; (try dsimp only at hSw); go_simp; try with_reducible rfl)
  simp only [Act.put, List.getElem_toArray, List.getElem_cons_zero, List.getElem_cons_succ, List.setIfInBounds_toArray, List.set_cons_zero, List.set_cons_succ]
  refine wpAnyH_take (i := 12) (v := ?v76) rfl (by kernel_rfl) (by kernel_rfl) (by kernel_rfl) (fun _ _ _ h => h) (Or.inl ⟨by rfl, ?hy76⟩) (by assumption) ?rest76
  case hy76 => (intro w hSw; (try dsimp only at hSw); go_simp; try with_reducible rfl)
  simp only [Act.put, List.getElem_toArray, List.getElem_cons_zero, List.getElem_cons_succ, List.setIfInBounds_toArray, List.set_cons_zero, List.set_cons_succ]
  refine wpAnyH_ready (rs := [10]) (by kernel_rfl) (by simp) ?_
  refine AllReadyH.cons rfl (fun K hK => ?_) AllReadyH.nil
  go_simp
  go_at_call 21
  refine (tjoin_any ga gb t u xa A n c xb A2 n2 c2 _ (RTf.at_ h1.out hHeld.1) (RTf.at_ h2.out hHeld.1)).mono ?_
  rintro e r1_10 ⟨Aj1, nj1, cj1, rfl, hj1, hb1_10⟩
  dsimp only
  have hbq := hb1_10
  refine hK.out _ _ ?_ (fun hHeld => ?_)
  · (try dsimp only)
    exact keepS.out _ _ hHeld hbq
  clear hK K
  try simp only [Act.put, List.getElem_toArray, List.getElem_cons_zero, List.getElem_cons_succ, List.setIfInBounds_toArray, List.set_cons_zero, List.set_cons_succ]
  refine wpAnyH_ready (rs := [13]) (by kernel_rfl) (by simp) ?_
  refine AllReadyH.cons rfl (fun K hK => ?_) AllReadyH.nil
  go_simp
  go_at_call 22
  refine (rjoinS_any ga gb t u xa A n c xb A2 n2 c2 _ (RTf.at_ h1.out hHeld.1) (RTf.at_ h2.out hHeld.1)).mono ?_
  rintro e r1_13 ⟨Aj2, nj2, cj2, rfl, hj2, hb1_13⟩
  dsimp only
  have hbq := hb1_13
  refine hK.out _ _ ?_ (fun hHeld => ?_)
  · (try dsimp only)
    exact keepS.out _ _ hHeld hbq
  clear hK K
  try simp only [Act.put, List.getElem_toArray, List.getElem_cons_zero, List.getElem_cons_succ, List.setIfInBounds_toArray, List.set_cons_zero, List.set_cons_succ]
  refine wpAnyH_ready (rs := [14]) (by kernel_rfl) (by simp) ?_
  refine AllReadyH.cons rfl (fun K hK => ?_) AllReadyH.nil
  go_simp
  go_at_call 15
  have CJ := same_any (boundS VT.join 0 t u) (boundS VT.join 0 t u) _ Aj1 nj1 cj1 _ Aj2 nj2 cj2 _ (bound_ok VT.join_ok any_ok) (bound_ok VT.join_ok any_ok) (RVB.at_ (old_to hj1 hb1_10.size) hb1_13) (old_to hj2 hb1_13.size)
  rw [decide_eq_true rfl] at CJ
  refine CJ.mono ?_
  clear CJ
  rintro e r1_14 ⟨rfl, hb1_14⟩
  dsimp only
  have hbq := hb1_14
  refine hK.out _ _ ?_ (fun hHeld => ?_)
  · (try dsimp only)
    exact keepS.out _ _ hHeld hbq
  clear hK K
  try simp only [Act.put, List.getElem_toArray, List.getElem_cons_zero, List.getElem_cons_succ, List.setIfInBounds_toArray, List.set_cons_zero, List.set_cons_succ]
  refine wpAnyH_take (i := 15) (v := ?v77) rfl (by kernel_rfl) (by kernel_rfl) (by kernel_rfl) (fun _ _ _ h => h) (Or.inl ⟨by rfl, ?hy77⟩) (by assumption) ?rest77
  case hy77 => (intro w hSw; (try dsimp only at hSw); go_simp; try with_reducible rfl)
  simp only [Act.put, List.getElem_toArray, List.getElem_cons_zero, List.getElem_cons_succ, List.setIfInBounds_toArray, List.set_cons_zero, List.set_cons_succ]
  refine wpAnyH_take (i := 16) (v := ?v78) rfl (by kernel_rfl) (by kernel_rfl) (by kernel_rfl) (fun _ _ _ h => h) (Or.inl ⟨by rfl, ?hy78⟩) (by assumption) ?rest78
  case hy78 => (intro w hSw; (try dsimp only at hSw); go_simp; try with_reducible rfl)
  simp only [Act.put, List.getElem_toArray, List.getElem_cons_zero, List.getElem_cons_succ, List.setIfInBounds_toArray, List.set_cons_zero, List.set_cons_succ]
  refine wpAnyH_take (i := 17) (v := ?v79) rfl (by kernel_rfl) (by kernel_rfl) (by kernel_rfl) (fun _ _ _ h => h) (Or.inl ⟨by rfl, ?hy79⟩) (by assumption) ?rest79
  case hy79 => (intro w hSw; (try dsimp only at hSw); go_simp; try with_reducible rfl)
  simp only [Act.put, List.getElem_toArray, List.getElem_cons_zero, List.getElem_cons_succ, List.setIfInBounds_toArray, List.set_cons_zero, List.set_cons_succ]
  refine wpAnyH_take (i := 18) (v := ?v80) rfl (by kernel_rfl) (by kernel_rfl) (by kernel_rfl) (fun _ _ _ h => h) (Or.inl ⟨by rfl, ?hy80⟩) (by assumption) ?rest80
  case hy80 => (intro w hSw; (try dsimp only at hSw); go_simp; try with_reducible rfl)
  simp only [Act.put, List.getElem_toArray, List.getElem_cons_zero, List.getElem_cons_succ, List.setIfInBounds_toArray, List.set_cons_zero, List.set_cons_succ]
  refine wpAnyH_take (i := 20) (v := ?v81) rfl (by kernel_rfl) (by kernel_rfl) (by kernel_rfl) (fun _ _ _ h => h) (Or.inl ⟨by rfl, ?hy81⟩) (by assumption) ?rest81
  case hy81 => (intro w hSw; (try dsimp only at hSw); go_simp; try with_reducible rfl)
  simp only [Act.put, List.getElem_toArray, List.getElem_cons_zero, List.getElem_cons_succ, List.setIfInBounds_toArray, List.set_cons_zero, List.set_cons_succ]
  refine wpAnyH_take (i := 21) (v := ?v82) rfl (by kernel_rfl) (by kernel_rfl) (by kernel_rfl) (fun _ _ _ h => h) (Or.inl ⟨by rfl, ?hy82⟩) (by assumption) ?rest82
  case hy82 => (intro w hSw; (try dsimp only at hSw); go_simp; try with_reducible rfl)
  simp only [Act.put, List.getElem_toArray, List.getElem_cons_zero, List.getElem_cons_succ, List.setIfInBounds_toArray, List.set_cons_zero, List.set_cons_succ]
  refine wpAnyH_ready (rs := [19]) (by kernel_rfl) (by simp) ?_
  refine AllReadyH.cons rfl (fun K hK => ?_) AllReadyH.nil
  go_simp
  go_at_call 23
  refine (tmeet_any ga gb t u xa A n c xb A2 n2 c2 _ (RTf.at_ h1.out hHeld.1) (RTf.at_ h2.out hHeld.1)).mono ?_
  rintro e r1_19 ⟨Am1, nm1, cm1, rfl, hm1, hb1_19⟩
  dsimp only
  have hbq := hb1_19
  refine hK.out _ _ ?_ (fun hHeld => ?_)
  · (try dsimp only)
    exact keepS.out _ _ hHeld hbq
  clear hK K
  try simp only [Act.put, List.getElem_toArray, List.getElem_cons_zero, List.getElem_cons_succ, List.setIfInBounds_toArray, List.set_cons_zero, List.set_cons_succ]
  refine wpAnyH_ready (rs := [22]) (by kernel_rfl) (by simp) ?_
  refine AllReadyH.cons rfl (fun K hK => ?_) AllReadyH.nil
  go_simp
  go_at_call 24
  refine (rmeetS_any ga gb t u xa A n c xb A2 n2 c2 _ (RTf.at_ h1.out hHeld.1) (RTf.at_ h2.out hHeld.1)).mono ?_
  rintro e r1_22 ⟨Am2, nm2, cm2, rfl, hm2, hb1_22⟩
  dsimp only
  have hbq := hb1_22
  refine hK.out _ _ ?_ (fun hHeld => ?_)
  · (try dsimp only)
    exact keepS.out _ _ hHeld hbq
  clear hK K
  try simp only [Act.put, List.getElem_toArray, List.getElem_cons_zero, List.getElem_cons_succ, List.setIfInBounds_toArray, List.set_cons_zero, List.set_cons_succ]
  refine wpAnyH_ready (rs := [23]) (by kernel_rfl) (by simp) ?_
  refine AllReadyH.cons rfl (fun K hK => ?_) AllReadyH.nil
  go_simp
  go_at_call 15
  have CJ := same_any (boundS VT.meet 7 t u) (boundS VT.meet 7 t u) _ Am1 nm1 cm1 _ Am2 nm2 cm2 _ (bound_ok VT.meet_ok never_ok7) (bound_ok VT.meet_ok never_ok7) (RVB.at_ (old_to hm1 hb1_19.size) hb1_22) (old_to hm2 hb1_22.size)
  rw [decide_eq_true rfl] at CJ
  refine CJ.mono ?_
  clear CJ
  rintro e r1_23 ⟨rfl, hb1_23⟩
  dsimp only
  have hbq := hb1_23
  refine hK.out _ _ ?_ (fun hHeld => ?_)
  · (try dsimp only)
    exact keepS.out _ _ hHeld hbq
  clear hK K
  try simp only [Act.put, List.getElem_toArray, List.getElem_cons_zero, List.getElem_cons_succ, List.setIfInBounds_toArray, List.set_cons_zero, List.set_cons_succ]
  refine wpAnyH_take (i := 24) (v := ?v83) rfl (by kernel_rfl) (by kernel_rfl) (by kernel_rfl) (fun _ _ _ h => h) (Or.inl ⟨by rfl, ?hy83⟩) (by assumption) ?rest83
  case hy83 => (intro w hSw; (try dsimp only at hSw); go_simp; try with_reducible rfl)
  simp only [Act.put, List.getElem_toArray, List.getElem_cons_zero, List.getElem_cons_succ, List.setIfInBounds_toArray, List.set_cons_zero, List.set_cons_succ]
  refine wpAnyH_take (i := 25) (v := ?v84) rfl (by kernel_rfl) (by kernel_rfl) (by kernel_rfl) (fun _ _ _ h => h) (Or.inl ⟨by rfl, ?hy84⟩) (by assumption) ?rest84
  case hy84 => (intro w hSw; (try dsimp only at hSw); go_simp; try with_reducible rfl)
  simp only [Act.put, List.getElem_toArray, List.getElem_cons_zero, List.getElem_cons_succ, List.setIfInBounds_toArray, List.set_cons_zero, List.set_cons_succ]
  refine wpAnyH_ready (rs := [26]) (by kernel_rfl) (by simp) ?_
  refine AllReadyH.cons rfl (fun K hK => ?_) AllReadyH.nil
  go_simp
  go_at_call 13
  refine (awake_any _).mono ?_
  rintro e r1_26 ⟨rfl, hb1_26⟩
  dsimp only
  have hbq := hb1_26
  refine hK.out _ _ ?_ (fun hHeld => ?_)
  · (try dsimp only)
    exact keepS.out _ _ hHeld hbq
  clear hK K
  try simp only [Act.put, List.getElem_toArray, List.getElem_cons_zero, List.getElem_cons_succ, List.setIfInBounds_toArray, List.set_cons_zero, List.set_cons_succ]
  refine wpAnyH_take (i := 27) (v := ?v85) rfl (by kernel_rfl) (by kernel_rfl) (by kernel_rfl) (fun _ _ _ h => h) (Or.inl ⟨by rfl, ?hy85⟩) (by assumption) ?rest85
  case hy85 => (intro w hSw; (try dsimp only at hSw); go_simp; try with_reducible rfl)
  simp only [Act.put, List.getElem_toArray, List.getElem_cons_zero, List.getElem_cons_succ, List.setIfInBounds_toArray, List.set_cons_zero, List.set_cons_succ]
  refine wpAnyH_take (i := 28) (v := ?v86) rfl (by kernel_rfl) (by kernel_rfl) (by kernel_rfl) (fun _ _ _ h => h) (Or.inl ⟨by rfl, ?hy86⟩) (by assumption) ?rest86
  case hy86 => (intro w hSw; (try dsimp only at hSw); go_simp; try with_reducible rfl)
  simp only [Act.put, List.getElem_toArray, List.getElem_cons_zero, List.getElem_cons_succ, List.setIfInBounds_toArray, List.set_cons_zero, List.set_cons_succ]
  refine wpAnyH_done (by kernel_rfl) ?_ _
  have hb := hO1.below.trans (hHeld.1.mono hO1.below.size)
  repeat' ((fail_if_success at_builtin); (first | go_skip | go_guarded | go_step))
  go_ret
  exact ⟨rfl, hb⟩
end Go.Proofs.YtgcpffbaejodiaaDoor
