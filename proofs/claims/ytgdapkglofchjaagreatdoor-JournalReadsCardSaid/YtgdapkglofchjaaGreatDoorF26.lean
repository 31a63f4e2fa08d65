/- Joined: JnBu JnBv JnBw. -/
import Derived.Test.YtgdapkglofchjaaGreatDoorF25
set_option maxRecDepth 100000
set_option maxHeartbeats 4000000
set_option linter.unusedVariables false
namespace Go.Proofs.YtgdapkglofchjaaGreatDoor
open Go.RowKit
theorem origin_b : BackS 1000000000 42 (.recd [.str, .str, .flag]) (fitR [fitS, fitS, fitB]) := by
 intro w g b f A c h hf hcl hN
 go_enter Tryz.func42, Tryz.ntmps42
 go_upto_region 1 with (fail)
 generalize hx_ : World.alloc (World.alloc w _) _ = w1
 have hH : HD w w1 g b f A c [.string ⟨#[]⟩, .string ⟨#[]⟩, .bool false] := by rw [← hx_]; exact HD.of h hf _ _
 clear hx_
 obtain ⟨c0, c1, c2, c3⟩ := hH.cells
 have hlt := hH.lt
 repeat' (first | go_skip | go_guarded | go_step)
 refine (bparts_any w.heap.size w1 g b f A c 3 hH.bk hH.hb.size hH.rf hcl (by omega) (by omega) hN).mono ?_
 rintro e w2 ⟨l, A2, k2, rfl, b2, hl, hFl, hcln, hB2, hG2, hsm, q1, q2⟩
 dsimp only
 obtain ⟨p0, p1, p2, rfl⟩ := list3 hl
 obtain ⟨bq, oq, rfl, hq⟩ := fsl_head hFl (by simp)
 obtain ⟨a0, k0_, hr0, hA0, hc0, hz0⟩ := part_b hH.ne hFl hcln hsm hN (i := 0) (y := p0) (o := oq) rfl rfl
 obtain ⟨a1, k1_, hr1, hA1, hc1, hz1⟩ := part_b hH.ne hFl hcln hsm hN (i := 1) (y := p1) (o := oq + 4) rfl rfl
 obtain ⟨a2, k2_, hr2, hA2, hc2, hz2⟩ := part_b hH.ne hFl hcln hsm hN (i := 2) (y := p2) (o := oq + 8) rfl rfl
 have hq1 := hq.2.1
 have hq2 := hq.2.2
 have hqB : bq ≠ w.heap.size + 1 := by have := hq.1; have := hH.tg.lt; omega
 replace q1 := Lib.hid q1
 replace q2 := Lib.hid q2
 clear hFl hcln hl hsm hlt c0 c1 c2 c3
 have hP0 := hH.start hB2 hG2
 clear hB2
 go_upto_region 2 with (fail)
 refine wp_region_held_drew (S := fun w' => F2 w2 w' g (w.heap.size + 1) ∧ True) (by kernel_rfl) ?_ (fun hHeld => ?_)
 ·(try dsimp only)
  exact ⟨(F2.refl _ _ _).drew, trivial⟩
 refine tkQ 0 ?_
 refine tkQ 1 ?_
 refine tkQ 2 ?_
 refine tkV 3 (v := .agg (fC p0 a0 k0_).toArray) rfl (yieldsF (b := bq) (o := oq) (fun v h => F2.range hA0 h.1 hq1 hq2 hqB)) ?_
 refine tkQ 5 ?_
 refine tkQ 6 ?_
 refine tkQ 7 ?_
 refine tkV 8 (v := .agg (fC p1 a1 k1_).toArray) rfl (yieldsF (b := bq) (o := oq + 4) (fun v h => F2.range hA1 h.1 hq1 hq2 hqB)) ?_
 refine tkQ 10 ?_
 refine tkQ 11 ?_
 refine tkQ 12 ?_
 refine tkV 13 (v := .agg (fC p2 a2 k2_).toArray) rfl (yieldsF (b := bq) (o := oq + 8) (fun v h => F2.range hA2 h.1 hq1 hq2 hqB)) ?_
 refine rdO 4 fun K hK => ?_
 go_simp
 go_at_call 41
 refine (str_b.pb Cod.str_ok hP0 hr0 hc0 hz0).mono ?_
 rintro e z0 ⟨v0, y0, b0_, rfl, ⟨s0, -, hv⟩, hP1⟩
 dsimp only
 injection hv with hv
 subst hv
 have hcq := hP1.f2 (gB := w.heap.size + 1)
 clear hP0
 refine hkO hK ⟨hcq, trivial⟩ fun hHeld => ?_
 clear hK K
 refine rdO 9 fun K hK => ?_
 go_simp
 go_at_call 41
 refine (str_b.pb Cod.str_ok hP1 hr1 hc1 hz1).mono ?_
 rintro e z1 ⟨v1, y1, b1_, rfl, ⟨s1, -, hv⟩, hP2⟩
 dsimp only
 injection hv with hv
 subst hv
 have hcq := hP2.f2 (gB := w.heap.size + 1)
 clear hP1
 refine hkO hK ⟨hcq, trivial⟩ fun hHeld => ?_
 clear hK K
 refine rdO 14 fun K hK => ?_
 go_simp
 go_at_call 91
 refine (flag_b.pb Cod.flag_ok hP2 hr2 hc2 hz2).mono ?_
 rintro e z2 ⟨v2, y2, b2_, rfl, ⟨o2, -, hv⟩, hP3⟩
 dsimp only
 injection hv with hv
 subst hv
 have hcq := hP3.f2 (gB := w.heap.size + 1)
 clear hP2
 refine hkO hK ⟨hcq, trivial⟩ fun hHeld => ?_
 clear hK K
 refine tkQ 15 ?_
 refine rdO 16 fun K hK => ?_
 have hth := Tgt.there hP3.inv (n := (#[.string s0, .string s1, .bool o2] : Array Value).size) (Nat.le_refl _)
 have hfin := World.rangeAt_setCells_same z2 (w.heap.size + 1) 0 [.string s0, .string s1, .bool o2] hth
 refine step_store_mid 23 _ _ rfl rfl (w.heap.size + 1) 0 #[.string s0, .string s1, .bool o2] rfl rfl hth (by kernel_rfl) (by simp [Value.oneCell']) ?_
 have hcq := hHeld.1.set 0 (#[.string s0, .string s1, .bool o2] : Array Value).toList
 refine hkO hK ⟨hcq, trivial⟩ fun hHeld => ?_
 clear hK K
 refine wpAnyH_done (by kernel_rfl) ?_ _
 clear hHeld
 repeat' (first | go_skip | go_guarded | go_step)
 refine bodyPost_ret (v := .agg #[.string s0, .string s1, .bool o2]) (run_res_cell 4 23 (w.heap.size + 1) 0 [.string s0, .string s1, .bool o2] _ rfl rfl hfin Tryz.underlying23 rfl (by kernel_rfl)) rfl ?_
 exact ⟨_, rfl, hP3.res hH hcl hG2 q1.out q2.out⟩
theorem secret_b : BackS 1000000000 47 (.recd [.str, .str, .int, .strs, .strs]) (fitR [fitS, fitS, fitI, (fitL fitS), (fitL fitS)]) := by
 intro w g b f A c h hf hcl hN
 go_enter Tryz.func47, Tryz.ntmps47
 go_upto_region 1 with (fail)
 generalize hx_ : World.alloc (World.alloc w _) _ = w1
 have hH : HD w w1 g b f A c [.string ⟨#[]⟩, .string ⟨#[]⟩, .int .i64 0, .slice none 0 0, .slice none 0 0] := by rw [← hx_]; exact HD.of h hf _ _
 clear hx_
 obtain ⟨c0, c1, c2, c3⟩ := hH.cells
 have hlt := hH.lt
 repeat' (first | go_skip | go_guarded | go_step)
 refine (bparts_any w.heap.size w1 g b f A c 5 hH.bk hH.hb.size hH.rf hcl (by omega) (by omega) hN).mono ?_
 rintro e w2 ⟨l, A2, k2, rfl, b2, hl, hFl, hcln, hB2, hG2, hsm, q1, q2⟩
 dsimp only
 obtain ⟨p0, p1, p2, p3, p4, rfl⟩ := list5 hl
 obtain ⟨bq, oq, rfl, hq⟩ := fsl_head hFl (by simp)
 obtain ⟨a0, k0_, hr0, hA0, hc0, hz0⟩ := part_b hH.ne hFl hcln hsm hN (i := 0) (y := p0) (o := oq) rfl rfl
 obtain ⟨a1, k1_, hr1, hA1, hc1, hz1⟩ := part_b hH.ne hFl hcln hsm hN (i := 1) (y := p1) (o := oq + 4) rfl rfl
 obtain ⟨a2, k2_, hr2, hA2, hc2, hz2⟩ := part_b hH.ne hFl hcln hsm hN (i := 2) (y := p2) (o := oq + 8) rfl rfl
 obtain ⟨a3, k3_, hr3, hA3, hc3, hz3⟩ := part_b hH.ne hFl hcln hsm hN (i := 3) (y := p3) (o := oq + 12) rfl rfl
 obtain ⟨a4, k4_, hr4, hA4, hc4, hz4⟩ := part_b hH.ne hFl hcln hsm hN (i := 4) (y := p4) (o := oq + 16) rfl rfl
 have hq1 := hq.2.1
 have hq2 := hq.2.2
 have hqB : bq ≠ w.heap.size + 1 := by have := hq.1; have := hH.tg.lt; omega
 replace q1 := Lib.hid q1
 replace q2 := Lib.hid q2
 clear hFl hcln hl hsm hlt c0 c1 c2 c3
 have hP0 := hH.start hB2 hG2
 clear hB2
 go_upto_region 2 with (fail)
 refine wp_region_held_drew (S := fun w' => F2 w2 w' g (w.heap.size + 1) ∧ True) (by kernel_rfl) ?_ (fun hHeld => ?_)
 ·(try dsimp only)
  exact ⟨(F2.refl _ _ _).drew, trivial⟩
 refine tkQ 0 ?_
 refine tkQ 1 ?_
 refine tkQ 2 ?_
 refine tkV 3 (v := .agg (fC p0 a0 k0_).toArray) rfl (yieldsF (b := bq) (o := oq) (fun v h => F2.range hA0 h.1 hq1 hq2 hqB)) ?_
 refine tkQ 5 ?_
 refine tkQ 6 ?_
 refine tkQ 7 ?_
 refine tkV 8 (v := .agg (fC p1 a1 k1_).toArray) rfl (yieldsF (b := bq) (o := oq + 4) (fun v h => F2.range hA1 h.1 hq1 hq2 hqB)) ?_
 refine tkQ 10 ?_
 refine tkQ 11 ?_
 refine tkQ 12 ?_
 refine tkV 13 (v := .agg (fC p2 a2 k2_).toArray) rfl (yieldsF (b := bq) (o := oq + 8) (fun v h => F2.range hA2 h.1 hq1 hq2 hqB)) ?_
 refine tkQ 15 ?_
 refine tkQ 16 ?_
 refine tkQ 17 ?_
 refine tkV 18 (v := .agg (fC p3 a3 k3_).toArray) rfl (yieldsF (b := bq) (o := oq + 12) (fun v h => F2.range hA3 h.1 hq1 hq2 hqB)) ?_
 refine tkQ 20 ?_
 refine tkQ 21 ?_
 refine tkQ 22 ?_
 refine tkV 23 (v := .agg (fC p4 a4 k4_).toArray) rfl (yieldsF (b := bq) (o := oq + 16) (fun v h => F2.range hA4 h.1 hq1 hq2 hqB)) ?_
 refine rdO 4 fun K hK => ?_
 go_simp
 go_at_call 41
 refine (str_b.pb Cod.str_ok hP0 hr0 hc0 hz0).mono ?_
 rintro e z0 ⟨v0, y0, b0_, rfl, ⟨s0, -, hv⟩, hP1⟩
 dsimp only
 injection hv with hv
 subst hv
 have hcq := hP1.f2 (gB := w.heap.size + 1)
 clear hP0
 refine hkO hK ⟨hcq, trivial⟩ fun hHeld => ?_
 clear hK K
 refine rdO 9 fun K hK => ?_
 go_simp
 go_at_call 41
 refine (str_b.pb Cod.str_ok hP1 hr1 hc1 hz1).mono ?_
 rintro e z1 ⟨v1, y1, b1_, rfl, ⟨s1, -, hv⟩, hP2⟩
 dsimp only
 injection hv with hv
 subst hv
 have hcq := hP2.f2 (gB := w.heap.size + 1)
 clear hP1
 refine hkO hK ⟨hcq, trivial⟩ fun hHeld => ?_
 clear hK K
 refine rdO 14 fun K hK => ?_
 go_simp
 go_at_call 40
 refine (num_b.pb Cod.int_ok hP2 hr2 hc2 hz2).mono ?_
 rintro e z2 ⟨v2, y2, b2_, rfl, ⟨x2, -, -, hv⟩, hP3⟩
 dsimp only
 injection hv with hv
 subst hv
 have hcq := hP3.f2 (gB := w.heap.size + 1)
 clear hP2
 refine hkO hK ⟨hcq, trivial⟩ fun hHeld => ?_
 clear hK K
 refine rdO 19 fun K hK => ?_
 go_simp
 go_at_call 95
 refine (strs_b.pb Cod.strs_ok hP3 hr3 hc3 hz3).mono ?_
 rintro e z3 ⟨v3, y3, b3_, rfl, ⟨L3, B3, e3, -, hv, -⟩, hP4⟩
 dsimp only
 injection hv with hv
 subst hv
 have hcq := hP4.f2 (gB := w.heap.size + 1)
 clear hP3
 refine hkO hK ⟨hcq, trivial⟩ fun hHeld => ?_
 clear hK K
 refine rdO 24 fun K hK => ?_
 go_simp
 go_at_call 95
 refine (strs_b.pb Cod.strs_ok hP4 hr4 hc4 hz4).mono ?_
 rintro e z4 ⟨v4, y4, b4_, rfl, ⟨L4, B4, e4, -, hv, -⟩, hP5⟩
 dsimp only
 injection hv with hv
 subst hv
 have hcq := hP5.f2 (gB := w.heap.size + 1)
 clear hP4
 refine hkO hK ⟨hcq, trivial⟩ fun hHeld => ?_
 clear hK K
 refine tkQ 25 ?_
 refine rdO 26 fun K hK => ?_
 have hth := Tgt.there hP5.inv (n := (#[.string s0, .string s1, .int .i64 x2, .slice B3 L3.length e3, .slice B4 L4.length e4] : Array Value).size) (Nat.le_refl _)
 have hfin := World.rangeAt_setCells_same z4 (w.heap.size + 1) 0 [.string s0, .string s1, .int .i64 x2, .slice B3 L3.length e3, .slice B4 L4.length e4] hth
 refine step_store_mid 35 _ _ rfl rfl (w.heap.size + 1) 0 #[.string s0, .string s1, .int .i64 x2, .slice B3 L3.length e3, .slice B4 L4.length e4] rfl rfl hth (by kernel_rfl) (by simp [Value.oneCell']) ?_
 have hcq := hHeld.1.set 0 (#[.string s0, .string s1, .int .i64 x2, .slice B3 L3.length e3, .slice B4 L4.length e4] : Array Value).toList
 refine hkO hK ⟨hcq, trivial⟩ fun hHeld => ?_
 clear hK K
 refine wpAnyH_done (by kernel_rfl) ?_ _
 clear hHeld
 repeat' (first | go_skip | go_guarded | go_step)
 refine bodyPost_ret (v := .agg #[.string s0, .string s1, .int .i64 x2, .slice B3 L3.length e3, .slice B4 L4.length e4]) (run_res_cell 4 35 (w.heap.size + 1) 0 [.string s0, .string s1, .int .i64 x2, .slice B3 L3.length e3, .slice B4 L4.length e4] _ rfl rfl hfin Tryz.underlying35 rfl (by kernel_rfl)) rfl ?_
 exact ⟨_, rfl, hP5.res hH hcl hG2 q1.out q2.out⟩
theorem worker_b : BackS 1000000000 46 (.recd [.str, .strs, .int, .int, .flag, .int, .int, .int, .ints]) (fitR [fitS, (fitL fitS), fitI, fitI, fitB, fitI, fitI, fitI, (fitL fitI)]) := by
 intro w g b f A c h hf hcl hN
 go_enter Tryz.func46, Tryz.ntmps46
 go_upto_region 1 with (fail)
 generalize hx_ : World.alloc (World.alloc w _) _ = w1
 have hH : HD w w1 g b f A c [.string ⟨#[]⟩, .slice none 0 0, .int .i64 0, .int .i64 0, .bool false, .int .i64 0, .int .i64 0, .int .i64 0, .slice none 0 0] := by rw [← hx_]; exact HD.of h hf _ _
 clear hx_
 obtain ⟨c0, c1, c2, c3⟩ := hH.cells
 have hlt := hH.lt
 repeat' (first | go_skip | go_guarded | go_step)
 refine (bparts_any w.heap.size w1 g b f A c 9 hH.bk hH.hb.size hH.rf hcl (by omega) (by omega) hN).mono ?_
 rintro e w2 ⟨l, A2, k2, rfl, b2, hl, hFl, hcln, hB2, hG2, hsm, q1, q2⟩
 dsimp only
 obtain ⟨p0, p1, p2, p3, p4, p5, p6, p7, p8, rfl⟩ := list9 hl
 obtain ⟨bq, oq, rfl, hq⟩ := fsl_head hFl (by simp)
 obtain ⟨a0, k0_, hr0, hA0, hc0, hz0⟩ := part_b hH.ne hFl hcln hsm hN (i := 0) (y := p0) (o := oq) rfl rfl
 obtain ⟨a1, k1_, hr1, hA1, hc1, hz1⟩ := part_b hH.ne hFl hcln hsm hN (i := 1) (y := p1) (o := oq + 4) rfl rfl
 obtain ⟨a2, k2_, hr2, hA2, hc2, hz2⟩ := part_b hH.ne hFl hcln hsm hN (i := 2) (y := p2) (o := oq + 8) rfl rfl
 obtain ⟨a3, k3_, hr3, hA3, hc3, hz3⟩ := part_b hH.ne hFl hcln hsm hN (i := 3) (y := p3) (o := oq + 12) rfl rfl
 obtain ⟨a4, k4_, hr4, hA4, hc4, hz4⟩ := part_b hH.ne hFl hcln hsm hN (i := 4) (y := p4) (o := oq + 16) rfl rfl
 obtain ⟨a5, k5_, hr5, hA5, hc5, hz5⟩ := part_b hH.ne hFl hcln hsm hN (i := 5) (y := p5) (o := oq + 20) rfl rfl
 obtain ⟨a6, k6_, hr6, hA6, hc6, hz6⟩ := part_b hH.ne hFl hcln hsm hN (i := 6) (y := p6) (o := oq + 24) rfl rfl
 obtain ⟨a7, k7_, hr7, hA7, hc7, hz7⟩ := part_b hH.ne hFl hcln hsm hN (i := 7) (y := p7) (o := oq + 28) rfl rfl
 obtain ⟨a8, k8_, hr8, hA8, hc8, hz8⟩ := part_b hH.ne hFl hcln hsm hN (i := 8) (y := p8) (o := oq + 32) rfl rfl
 have hq1 := hq.2.1
 have hq2 := hq.2.2
 have hqB : bq ≠ w.heap.size + 1 := by have := hq.1; have := hH.tg.lt; omega
 replace q1 := Lib.hid q1
 replace q2 := Lib.hid q2
 clear hFl hcln hl hsm hlt c0 c1 c2 c3
 have hP0 := hH.start hB2 hG2
 clear hB2
 go_upto_region 2 with (fail)
 refine wp_region_held_drew (S := fun w' => F2 w2 w' g (w.heap.size + 1) ∧ True) (by kernel_rfl) ?_ (fun hHeld => ?_)
 ·(try dsimp only)
  exact ⟨(F2.refl _ _ _).drew, trivial⟩
 refine tkQ 0 ?_
 refine tkQ 1 ?_
 refine tkQ 2 ?_
 refine tkV 3 (v := .agg (fC p0 a0 k0_).toArray) rfl (yieldsF (b := bq) (o := oq) (fun v h => F2.range hA0 h.1 hq1 hq2 hqB)) ?_
 refine tkQ 5 ?_
 refine tkQ 6 ?_
 refine tkQ 7 ?_
 refine tkV 8 (v := .agg (fC p1 a1 k1_).toArray) rfl (yieldsF (b := bq) (o := oq + 4) (fun v h => F2.range hA1 h.1 hq1 hq2 hqB)) ?_
 refine tkQ 10 ?_
 refine tkQ 11 ?_
 refine tkQ 12 ?_
 refine tkV 13 (v := .agg (fC p2 a2 k2_).toArray) rfl (yieldsF (b := bq) (o := oq + 8) (fun v h => F2.range hA2 h.1 hq1 hq2 hqB)) ?_
 refine tkQ 15 ?_
 refine tkQ 16 ?_
 refine tkQ 17 ?_
 refine tkV 18 (v := .agg (fC p3 a3 k3_).toArray) rfl (yieldsF (b := bq) (o := oq + 12) (fun v h => F2.range hA3 h.1 hq1 hq2 hqB)) ?_
 refine tkQ 20 ?_
 refine tkQ 21 ?_
 refine tkQ 22 ?_
 refine tkV 23 (v := .agg (fC p4 a4 k4_).toArray) rfl (yieldsF (b := bq) (o := oq + 16) (fun v h => F2.range hA4 h.1 hq1 hq2 hqB)) ?_
 refine tkQ 25 ?_
 refine tkQ 26 ?_
 refine tkQ 27 ?_
 refine tkV 28 (v := .agg (fC p5 a5 k5_).toArray) rfl (yieldsF (b := bq) (o := oq + 20) (fun v h => F2.range hA5 h.1 hq1 hq2 hqB)) ?_
 refine tkQ 30 ?_
 refine tkQ 31 ?_
 refine tkQ 32 ?_
 refine tkV 33 (v := .agg (fC p6 a6 k6_).toArray) rfl (yieldsF (b := bq) (o := oq + 24) (fun v h => F2.range hA6 h.1 hq1 hq2 hqB)) ?_
 refine tkQ 35 ?_
 refine tkQ 36 ?_
 refine tkQ 37 ?_
 refine tkV 38 (v := .agg (fC p7 a7 k7_).toArray) rfl (yieldsF (b := bq) (o := oq + 28) (fun v h => F2.range hA7 h.1 hq1 hq2 hqB)) ?_
 refine tkQ 40 ?_
 refine tkQ 41 ?_
 refine tkQ 42 ?_
 refine tkV 43 (v := .agg (fC p8 a8 k8_).toArray) rfl (yieldsF (b := bq) (o := oq + 32) (fun v h => F2.range hA8 h.1 hq1 hq2 hqB)) ?_
 refine rdO 4 fun K hK => ?_
 go_simp
 go_at_call 41
 refine (str_b.pb Cod.str_ok hP0 hr0 hc0 hz0).mono ?_
 rintro e z0 ⟨v0, y0, b0_, rfl, ⟨s0, -, hv⟩, hP1⟩
 dsimp only
 injection hv with hv
 subst hv
 have hcq := hP1.f2 (gB := w.heap.size + 1)
 clear hP0
 refine hkO hK ⟨hcq, trivial⟩ fun hHeld => ?_
 clear hK K
 refine rdO 9 fun K hK => ?_
 go_simp
 go_at_call 95
 refine (strs_b.pb Cod.strs_ok hP1 hr1 hc1 hz1).mono ?_
 rintro e z1 ⟨v1, y1, b1_, rfl, ⟨L1, B1, e1, -, hv, -⟩, hP2⟩
 dsimp only
 injection hv with hv
 subst hv
 have hcq := hP2.f2 (gB := w.heap.size + 1)
 clear hP1
 refine hkO hK ⟨hcq, trivial⟩ fun hHeld => ?_
 clear hK K
 refine rdO 14 fun K hK => ?_
 go_simp
 go_at_call 40
 refine (num_b.pb Cod.int_ok hP2 hr2 hc2 hz2).mono ?_
 rintro e z2 ⟨v2, y2, b2_, rfl, ⟨x2, -, -, hv⟩, hP3⟩
 dsimp only
 injection hv with hv
 subst hv
 have hcq := hP3.f2 (gB := w.heap.size + 1)
 clear hP2
 refine hkO hK ⟨hcq, trivial⟩ fun hHeld => ?_
 clear hK K
 refine rdO 19 fun K hK => ?_
 go_simp
 go_at_call 40
 refine (num_b.pb Cod.int_ok hP3 hr3 hc3 hz3).mono ?_
 rintro e z3 ⟨v3, y3, b3_, rfl, ⟨x3, -, -, hv⟩, hP4⟩
 dsimp only
 injection hv with hv
 subst hv
 have hcq := hP4.f2 (gB := w.heap.size + 1)
 clear hP3
 refine hkO hK ⟨hcq, trivial⟩ fun hHeld => ?_
 clear hK K
 refine rdO 24 fun K hK => ?_
 go_simp
 go_at_call 91
 refine (flag_b.pb Cod.flag_ok hP4 hr4 hc4 hz4).mono ?_
 rintro e z4 ⟨v4, y4, b4_, rfl, ⟨o4, -, hv⟩, hP5⟩
 dsimp only
 injection hv with hv
 subst hv
 have hcq := hP5.f2 (gB := w.heap.size + 1)
 clear hP4
 refine hkO hK ⟨hcq, trivial⟩ fun hHeld => ?_
 clear hK K
 refine rdO 29 fun K hK => ?_
 go_simp
 go_at_call 40
 refine (num_b.pb Cod.int_ok hP5 hr5 hc5 hz5).mono ?_
 rintro e z5 ⟨v5, y5, b5_, rfl, ⟨x5, -, -, hv⟩, hP6⟩
 dsimp only
 injection hv with hv
 subst hv
 have hcq := hP6.f2 (gB := w.heap.size + 1)
 clear hP5
 refine hkO hK ⟨hcq, trivial⟩ fun hHeld => ?_
 clear hK K
 refine rdO 34 fun K hK => ?_
 go_simp
 go_at_call 40
 refine (num_b.pb Cod.int_ok hP6 hr6 hc6 hz6).mono ?_
 rintro e z6 ⟨v6, y6, b6_, rfl, ⟨x6, -, -, hv⟩, hP7⟩
 dsimp only
 injection hv with hv
 subst hv
 have hcq := hP7.f2 (gB := w.heap.size + 1)
 clear hP6
 refine hkO hK ⟨hcq, trivial⟩ fun hHeld => ?_
 clear hK K
 refine rdO 39 fun K hK => ?_
 go_simp
 go_at_call 40
 refine (num_b.pb Cod.int_ok hP7 hr7 hc7 hz7).mono ?_
 rintro e z7 ⟨v7, y7, b7_, rfl, ⟨x7, -, -, hv⟩, hP8⟩
 dsimp only
 injection hv with hv
 subst hv
 have hcq := hP8.f2 (gB := w.heap.size + 1)
 clear hP7
 refine hkO hK ⟨hcq, trivial⟩ fun hHeld => ?_
 clear hK K
 refine rdO 44 fun K hK => ?_
 go_simp
 go_at_call 96
 refine (ints_b.pb Cod.ints_ok hP8 hr8 hc8 hz8).mono ?_
 rintro e z8 ⟨v8, y8, b8_, rfl, ⟨L8, B8, e8, -, hv, -⟩, hP9⟩
 dsimp only
 injection hv with hv
 subst hv
 have hcq := hP9.f2 (gB := w.heap.size + 1)
 clear hP8
 refine hkO hK ⟨hcq, trivial⟩ fun hHeld => ?_
 clear hK K
 refine tkQ 45 ?_
 refine rdO 46 fun K hK => ?_
 have hth := Tgt.there hP9.inv (n := (#[.string s0, .slice B1 L1.length e1, .int .i64 x2, .int .i64 x3, .bool o4, .int .i64 x5, .int .i64 x6, .int .i64 x7, .slice B8 L8.length e8] : Array Value).size) (Nat.le_refl _)
 have hfin := World.rangeAt_setCells_same z8 (w.heap.size + 1) 0 [.string s0, .slice B1 L1.length e1, .int .i64 x2, .int .i64 x3, .bool o4, .int .i64 x5, .int .i64 x6, .int .i64 x7, .slice B8 L8.length e8] hth
 refine step_store_mid 33 _ _ rfl rfl (w.heap.size + 1) 0 #[.string s0, .slice B1 L1.length e1, .int .i64 x2, .int .i64 x3, .bool o4, .int .i64 x5, .int .i64 x6, .int .i64 x7, .slice B8 L8.length e8] rfl rfl hth (by kernel_rfl) (by simp [Value.oneCell']) ?_
 have hcq := hHeld.1.set 0 (#[.string s0, .slice B1 L1.length e1, .int .i64 x2, .int .i64 x3, .bool o4, .int .i64 x5, .int .i64 x6, .int .i64 x7, .slice B8 L8.length e8] : Array Value).toList
 refine hkO hK ⟨hcq, trivial⟩ fun hHeld => ?_
 clear hK K
 refine wpAnyH_done (by kernel_rfl) ?_ _
 clear hHeld
 repeat' (first | go_skip | go_guarded | go_step)
 refine bodyPost_ret (v := .agg #[.string s0, .slice B1 L1.length e1, .int .i64 x2, .int .i64 x3, .bool o4, .int .i64 x5, .int .i64 x6, .int .i64 x7, .slice B8 L8.length e8]) (run_res_cell 4 33 (w.heap.size + 1) 0 [.string s0, .slice B1 L1.length e1, .int .i64 x2, .int .i64 x3, .bool o4, .int .i64 x5, .int .i64 x6, .int .i64 x7, .slice B8 L8.length e8] _ rfl rfl hfin Tryz.underlying33 rfl (by kernel_rfl)) rfl ?_
 exact ⟨_, rfl, hP9.res hH hcl hG2 q1.out q2.out⟩
theorem step_app1 {P : Program} {ops : Array Oper} {o : Oper} {a : Act} {K : Act → World → Prop} {Q : Exit → Act → World → Prop} {E : Prop} {w W0 : World} {e : TypeId} {size n : Nat} {v : Value} {xs : List Value} (H : Own W0 w e size v n xs) {t : TypeId} {z : Value} {bytes : Nat} (ht : P.underlying t = some (.slice e)) (hi : Info P e z size bytes)
  (hbytes : (n + 1) * bytes ≤ 140737488355328) {cs : Array Value}
  (h : ∀ v' w', Own W0 w' e size v' (n + 1) (xs ++ cs.toList) → Grew (w.alloc (.cells cs e)) w' v v' → K (a.put o.dst v') w')
  {s x : Operand} {g : Nat} (hgd : o.guard = none := by rfl) (ho : o.op = .call { callee := .builtin .append, args := #[s, x], argTypes := #[t, t] } := by rfl)
  (hs : a.eval s = v := by rfl) (hx : a.eval x = .slice (some ⟨g, 0, none⟩) 1 1 := by rfl) (hgs : g = w.heap.size := by first | rfl | simp) (hzs : z.cells.size = size := by rfl) (hsz : 0 < size := by decide) (hby : 0 < bytes := by decide)
  (hcs : cs.size = size := by rfl) (h1 : cs.toList.all Value.oneCell' = true := by rfl) :
  if Region.wanted o (yielded ops a.tmps) = true then Oper.wp P o a (w.alloc (.cells cs e)) K Q else E := by
 subst hgs
 obtain ⟨hown, hB⟩ := H
 have hn := Nat.le_trans (Nat.le_mul_of_pos_right (n + 1) hby) hbytes
 obtain ⟨i, hi1, hi2, hi3, hi4⟩ := info_parts hi
 rw [if_pos (by simp [Region.wanted, hgd])]
 obtain ⟨v', w', hr, h2, h3, h4, h5⟩ := run_append_own_at (P := P) (w.alloc (.cells cs e)) W0.heap.size t o.type e i z size bytes ht hi1 hi2 hi3 hi4 hzs hsz v n xs (hown.alloc _) ⟨w.heap.size, 0, none⟩ 1 1 cs.toList (by simpa using hcs)
  (by
   intro j u hu
   rw [Addr.add_lit, Nat.zero_add]
   have := cell_of_row (w.alloc (.cells cs e)) w.heap.size j cs e (0, 0) (heap_alloc_new w _)
   rw [this]
   simpa using hu) (List.all_eq_true.1 h1) (by unfold maxLen; omega) hbytes (by have := hB.size; simp; omega)
 unfold Oper.wp execOp
 simp only [ho, resolve, invoke, builtin, Sem.run_bind, Sem.run_pure, Result.andThen_ok, List.map_toArray, List.map_cons, List.map_nil, hs, hx, hr]
 refine h v' w' ⟨h2, ?_⟩ ⟨h3, h5⟩
 exact (hB.alloc hB.size _).grown h3 (by have := hB.size; simp; omega) (fun k hk => (hown.lt k hk).1)
section
variable {C : Cod} {B g : Nat} {w w' wb : World} {e : TypeId} {v : Value} {l : List FV}
theorem OL.step {P : Program} {ops : Array Oper} {o : Oper} {a : Act} {K : Act → World → Prop} {Q : Exit → Act → World → Prop} {E : Prop} (hC : C.Ok) (h : OL C B w e v l) (hb : Below w.heap.size w wb) {x : FV} {cs : Array Value} (hx : C.rp wb (fun b => B ≤ b ∧ b < wb.heap.size ∧ some b ≠ v.ownBlock) x cs.toList) {t : TypeId} {z : Value} {bytes : Nat} (ht : P.underlying t = some (.slice e)) (hi : Info P e z C.sz bytes)
  (hbytes : (l.length + 1) * bytes ≤ 140737488355328)
  (h' : ∀ v' w', OL C B w' e v' (l ++ [x]) → Below B wb w' → wb.heap.size ≤ w'.heap.size → (∀ k, k < wb.heap.size → some k ≠ v.ownBlock → w'.heap[k]? = wb.heap[k]?) → K (a.put o.dst v') w')
  {s y : Operand} {gg : Nat} (hgd : o.guard = none := by rfl) (ho : o.op = .call { callee := .builtin .append, args := #[s, y], argTypes := #[t, t] } := by rfl)
  (hs : a.eval s = v := by rfl) (hy : a.eval y = .slice (some ⟨gg, 0, none⟩) 1 1 := by rfl) (hgs : gg = wb.heap.size := by first | rfl | simp) (hzs : z.cells.size = C.sz := by rfl) (hsz : 0 < C.sz := by decide) (hby : 0 < bytes := by decide)
  (hcs : cs.size = C.sz := by rfl) (h1 : cs.toList.all Value.oneCell' = true := by rfl) :
  if Region.wanted o (yielded ops a.tmps) = true then Oper.wp P o a (wb.alloc (.cells cs e)) K Q else E := by
 have hlo := h.lo
 have h0 := trunc_size h.1
 have hBb : B ≤ wb.heap.size := Nat.le_trans h.1 hb.size
 obtain ⟨ds, H1, H2⟩ := h.to.below (rCB_ok hC B) hb
 have hba := (Below.refl wb.heap.size wb).alloc (Nat.le_refl _) (.cells cs e)
 have hlt : ∀ b, Beh wb v b → Beh (wb.alloc (.cells cs e)) v b := fun b hb => ⟨Nat.lt_of_lt_of_le hb.1 hba.size, hb.2⟩
 refine step_app1 H1 ht hi hbytes (fun v' w' hO hg => ?_) hgd ho hs hy hgs hzs hsz hby hcs h1
 refine h' v' w' (OL.of h0 (OwnR.grew (rCB_ok hC B) (wa := wb.alloc (.cells cs e)) (by rw [List.length_append]; exact hO) hg (RList.map (fun x c hc => rCB_ok hC B _ _ _ _ x c (fun p hp => hba.cell hp.1) hlt hc) H2) (RList.one (rCB_ok hC B _ _ _ _ x _ (fun p hp => hba.cell hp.1) hlt hx) (by simpa using hcs)))) ?_ (Nat.le_trans hba.size hg.by_.size) ?_
 ·exact (hba.mono hBb).grown hg.by_ (Nat.le_trans hBb hba.size) (fun k hk => (hlo k hk).1)
 ·exact fun k hk hne => (hg.by_.block k (Nat.lt_of_lt_of_le hk hba.size) hne).trans (hba.block k hk)
end
theorem fsl_keep {w w' : World} {g c : Nat} {A : Option Addr} {l : List FV} (h : FSl w (NG w g) A c l) (hb : GB w w' g) : FSl w' (fun x => x < w.heap.size ∧ x ≠ g) A c l := by
 obtain ⟨h1, cs, h2, h3⟩ := h
 exact ⟨h1, cs, h2.map (fun p hp => hb.cell hp.1 hp.2) (fun _ hp => hp), RList.map (fun x c hc => rF_ok _ _ _ _ x c (fun p hp => hb.cell hp.1 hp.2) (fun _ hp => hp) hc) h3⟩
theorem elem_res {w1 z : World} {g : Nat} {b b2 bn : Bool} {Cs : List Cod} {Ps : List (FV → Prop)} {f : FV} {l fs : List FV} {cs : List Value} {many : Nat} (hlen : Ps.length = many) (hcl : Cl1 f) (hS : PS w1 z g b2 Cs Ps l fs cs bn)
  (q1 : b2 = false → b = false ∧ f.1 = 2 ∧ l = toL f.2.2.2) (q2 : b = false → f.1 = 2 → f.2.2.2.length = many → b2 = false) : (bn = false → b = false ∧ fitR Ps f ∧ fL fs = f) ∧ (b = false → fitR Ps f → bn = false) := by
 refine ⟨fun hb => ?_, fun hb hf => ?_⟩
 ·obtain ⟨k1, k2, rfl⟩ := hS.h1 hb
  obtain ⟨k3, k4, rfl⟩ := q1 k1
  exact ⟨k3, ⟨k4, k2⟩, list_of hcl k4⟩
 ·have hl := hf.2.len
  rw [toL_length, hlen] at hl
  have hb2 := q2 hb hf.1 hl
  obtain ⟨_, _, rfl⟩ := q1 hb2
  exact hS.h2 hb2 hf.2
def kbOf (v : Value) (g : Nat) : Nat := (v.ownBlock).getD g
theorem F2.app {w wb w' : World} {g B : Nat} {v : Value} (h : F2 w wb g (kbOf v g)) (hb : Below B wb w') (hs : wb.heap.size ≤ w'.heap.size) (hk : ∀ k, k < wb.heap.size → some k ≠ v.ownBlock → w'.heap[k]? = wb.heap[k]?) : F2 w w' g (kbOf v g) :=
 ⟨hb.os.trans h.os, hb.tape.trans h.tape, hb.output.trans h.output, Nat.le_trans h.size hs, fun k h1 h2 h3 => (hk k (Nat.lt_of_lt_of_le h1 h.size) (fun e => h3 (by unfold kbOf; rw [← e]; rfl))).trans (h.block k h1 h2 h3)⟩
theorem kb_ne {C : Cod} {B q g : Nat} {w : World} {e : TypeId} {v : Value} {l : List FV} (h : OL C B w e v l) (h1 : q ≠ g) (h2 : q < B ∨ w.heap.size ≤ q) : q ≠ kbOf v g := by
 unfold kbOf
 cases hv : v.ownBlock with
 | none => exact h1
 | some k => have := h.lo k hv; show q ≠ k; omega
theorem dig_of {z : World} {S : Nat → Prop} {x : Int} {y : FV} (hx : IsInt x) (he : y = fI x) : Cod.dig.rp z S y [.int .u64 (IntKind.u64.wrap x)] := by
 obtain ⟨h1, h2⟩ := hx
 have hw : 0 ≤ IntKind.u64.wrap x ∧ IntKind.u64.wrap x < 18446744073709551616 := by rw [IntKind.wrap_u64]; exact ⟨Int.emod_nonneg _ (by decide), Int.emod_lt_of_pos _ (by decide)⟩
 obtain ⟨n, hn⟩ := Int.eq_ofNat_of_zero_le hw.1
 refine ⟨n, by omega, ?_, by rw [hn]⟩
 rw [he]
 congr 1
 have : wrap64 (n : Int) = x := by
  have e : (n : Int) = x % 18446744073709551616 := by rw [← IntKind.wrap_u64]; exact hn.symm
  unfold wrap64
  omega
 rw [this]
theorem numd_pb {w1 w2 z : World} {g gB : Nat} {I : World → Prop} {b2 bi : Bool} {Cs : List Cod} {Ps : List (FV → Prop)} {ps fs : List FV} {cs : List Value} {p : FV} {a : Option Addr} {k : Nat} (h : PB w1 w2 z g I b2 Cs Ps ps fs cs bi) (hr : rF w2 (fun x => x < w2.heap.size ∧ x ≠ g ∧ x ≠ gB) p (fC p a k)) (hc : Cl1 p) (hz : fsz p ≤ 1000000000) :
  Calls Tryz.prog 40 #[.pointer (some ⟨g, 0, none⟩), .agg (fC p a k).toArray] z fun e z' => ∃ x y b', e = .returned (.int .i64 x) ∧ PB w1 w2 z' g I b2 (Cs ++ [.dig]) (Ps ++ [fitI]) (ps ++ [p]) (fs ++ [y]) (cs ++ [.int .u64 (IntKind.u64.wrap x)]) b' := by
 refine (num_b z g bi p a k h.ps.bk (F2.rF hr h.f2) hc hz).mono ?_
 rintro e z' ⟨v, rfl, y, b', hB, hG, ⟨x, hx, he, hv⟩, m, n⟩
 injection hv with hv
 subst hv
 exact ⟨x, y, b', rfl, h.step Cod.dig_ok hB hG (dig_of hx he) m n⟩
theorem times_b : Back1 1000000000 44 (.list (.recd [.str, .int])) (fitL (fitR [fitS, fitI])) := by
 intro w g b f A c h hf hcl hN
 have hps := parts_of hf
 have hln : f.2.2.2.length ≤ 1000000000 := by have := Flds.length_le_size f.2.2.2; unfold fsz at hN; omega
 go_enter Tryz.func44, Tryz.ntmps44
 go_upto_region 2 with (fail)
 generalize hx_ : World.alloc w _ = w1
 have hO : OwnB w w1 [(w.heap.size, fC f A c)] := by rw [← hx_]; exact (OwnB.refl w).new (fC f A c).toArray _ (g := w.heap.size)
 have hb := hO.below
 clear hx_
 have c0 := hO.c 0 0
 have c1 := hO.c 0 1
 have c2 := hO.c 0 2
 have c3 := hO.c 0 3
 have h1 := h.below hb
 repeat' (first | go_skip | go_guarded | go_step)
 refine (bseq_any w1 g b f A c h1).mono ?_
 rintro e w2 ⟨rfl, h2, hg2⟩
 dsimp only
 have hgb := (GB.of hb).trans hg2
 obtain ⟨n, hn⟩ : ∃ n, n = f.2.2.2.length := ⟨_, rfl⟩
 rw [← hn] at hln ⊢
 have hll : (toL f.2.2.2).length = n := by rw [toL_length, hn]
 replace hn := Lib.hid hn
 clear c0 c1 c2 c3 hg2
 repeat' (first | go_skip | go_guarded | go_step)
 go_loopw [5, 7] (fun u5 u7 wr => ∃ (i : Nat) (vs : List FV) (bi : Bool), i ≤ n ∧ u7 = .int .i64 (i : Int) ∧ vs.length = i ∧ BK wr g bi ∧ GB w wr g ∧ OL (.recd [.str, .int]) w.heap.size wr 150 u5 vs ∧ (bi = false → (b || !(f.1 == 2)) = false ∧ (∀ y ∈ (toL f.2.2.2).take i, fitR [fitS, fitI] y) ∧ vs = (toL f.2.2.2).take i) ∧ ((b || !(f.1 == 2)) = false → (∀ y ∈ (toL f.2.2.2).take i, fitR [fitS, fitI] y) → bi = false)) (fun _ u7 _ => n - (intOf u7).toNat)
 case atStart => exact ⟨0, [], _, by omega, rfl, rfl, h2, hgb, OL.nil hgb.size, fun hb => ⟨hb, by simp, by simp⟩, fun hb _ => hb⟩
 case round =>
  obtain ⟨i, vs, bi, hin, rfl, hvl, hB, hG, hOL, q1, q2⟩ := hrel
  replace q1 := Lib.hid q1
  replace q2 := Lib.hid q2
  obtain ⟨A5, c5, rfl⟩ := hOL.form
  have hgl := h.lt
  by_cases hlt : i < n
  ·have hd : (decide ((i : Int) < n)) = true := by simp; omega
   obtain ⟨y, hx⟩ : ∃ y, (toL f.2.2.2)[i]? = some y := ⟨(toL f.2.2.2)[i]'(by omega), List.getElem?_eq_getElem _⟩
   obtain ⟨bq, oq, Ay, cy, rfl, hS, hry, hra⟩ := fsl_at (fsl_keep hps hG) hx
   have hym : y ∈ toL f.2.2.2 := List.mem_iff_getElem?.2 ⟨i, hx⟩
   have hyz := fsz_toL hym
   have hyc := cln_mem (cl1_list hcl) y hym
   replace hx := Lib.hid hx
   replace hll := Lib.hid hll
   rw [hvl] at hOL ⊢
   repeat' (first | (refine wpList_load_mid rfl 98 _ rfl bq (oq + i * 4) rfl (fC y Ay cy) _ hra Tryz.underlying98 rfl fld_sz ?_) | go_skip | go_guarded | go_step)
   refine (bparts_any w.heap.size wr g bi y Ay cy 2 hB hG.size hry hyc (by omega) (by omega) (by omega)).mono ?_
   rintro e w3 ⟨l3, A3, k3, rfl, b3, hl3, hFl, hcln, hB3, hG3, hsm, s1, s2⟩
   dsimp only
   obtain ⟨p0, p1, rfl⟩ := list2 hl3
   obtain ⟨br, or_, rfl, hq⟩ := fsl_head hFl (by simp)
   have hs3 := hG3.size
   have hOL3 := hOL.gb (Cod.recd_ok (okc Cod.str_ok (okc Cod.int_ok okn))) hgl hG3
   have hqk := kb_ne hOL hq.2.2 (by omega)
   obtain ⟨a0, k0_, hr0, hA0, hc0, hz0⟩ := part_b (fun x h1 h2 => kb_ne hOL h2 h1) hFl hcln hsm (show fsz y ≤ 1000000000 by omega) (i := 0) (y := p0) (o := or_) rfl rfl
   obtain ⟨a1, k1_, hr1, hA1, hc1, hz1⟩ := part_b (fun x h1 h2 => kb_ne hOL h2 h1) hFl hcln hsm (show fsz y ≤ 1000000000 by omega) (i := 1) (y := p1) (o := or_ + 4) rfl rfl
   have hg1 : g < wr.heap.size := by have := hG.size; omega
   have hP0 := PB.start (I := fun z => OL (.recd [.str, .int]) w.heap.size z 150 (.slice A5 i c5) vs) hOL3 (fun z z' h hG => h.gb (Cod.recd_ok (okc Cod.str_ok (okc Cod.int_ok okn))) hgl hG) hB3 hs3 hg1
   have hq1 := hq.2.1
   have hq2 := hq.2.2
   replace s1 := Lib.hid s1
   replace s2 := Lib.hid s2
   have hsw : w.heap.size ≤ wr.heap.size := hG.size
   have hOlo := hOL.lo
   clear hFl hB3 hcln hl3 hra hry hOL3
   go_upto_region 7 with (fail)
   refine wp_region_held_drew (S := fun w' => F2 w3 w' g (kbOf (.slice A5 i c5) g) ∧ True) (by kernel_rfl) ?_ (fun hHeld => ?_)
   ·(try dsimp only)
    exact ⟨(F2.refl _ _ _).drew, trivial⟩
   refine tkQ 0 ?_
   refine tkQ 1 ?_
   refine tkQ 2 ?_
   refine tkQ 3 ?_
   refine tkV 4 (v := .agg (fC p0 a0 k0_).toArray) rfl (yieldsF (b := br) (o := or_) (fun v h => F2.range hA0 h.1 hq1 hq2 hqk)) ?_
   refine tkQ 6 ?_
   refine tkQ 7 ?_
   refine tkQ 8 ?_
   refine tkV 9 (v := .agg (fC p1 a1 k1_).toArray) rfl (yieldsF (b := br) (o := or_ + 4) (fun v h => F2.range hA1 h.1 hq1 hq2 hqk)) ?_
   refine rdO 5 fun K hK => ?_
   go_simp
   go_at_call 41
   refine (str_b.pb Cod.str_ok hP0 hr0 hc0 hz0).mono ?_
   rintro e z0 ⟨v0, y0, b0_, rfl, ⟨s0, -, hv⟩, hP1⟩
   dsimp only
   injection hv with hv
   subst hv
   have hcq := hP1.f2 (gB := kbOf (.slice A5 i c5) g)
   clear hP0
   refine hkO hK ⟨hcq, trivial⟩ fun hHeld => ?_
   clear hK K
   refine rdO 10 fun K hK => ?_
   go_simp
   go_at_call 40
   refine (num_b.pb Cod.int_ok hP1 hr1 hc1 hz1).mono ?_
   rintro e z1 ⟨v1, y1, b1_, rfl, ⟨x1, -, -, hv⟩, hP2⟩
   dsimp only
   injection hv with hv
   subst hv
   have hcq := hP2.f2 (gB := kbOf (.slice A5 i c5) g)
   clear hP1
   refine hkO hK ⟨hcq, trivial⟩ fun hHeld => ?_
   clear hK K
   refine tkQ 11 ?_
   refine rdO 12 fun K hK => ?_
   go_simp
   have hcq := hHeld.1.gb (GB.of (g := g) ((Below.refl z1.heap.size z1).alloc (Nat.le_refl _) (.cells #[.string s0, .int .i64 x1] 150)))
   have hFz := hHeld.1
   refine hkO hK ⟨hcq, trivial⟩ fun hHeld => ?_
   clear hK K
   refine rdO 13 fun K hK => ?_
   refine OL.step (Cod.recd_ok (okc Cod.str_ok (okc Cod.int_ok okn))) hP2.inv (Below.refl _ _) (x := fL [y0, y1]) (cs := #[.string s0, .int .i64 x1]) ⟨[y0, y1], rfl, RecL.map (w' := z1) (okc Cod.str_ok (okc Cod.int_ok okn)) (fun _ _ => rfl) (fun b hb => ⟨Nat.le_trans hsw hb.1, hb.2, fun e => by have := hOlo b e.symm; have := hb.1; omega⟩) hP2.ps.ty⟩ Tryz.underlying25 (by unfold Info; kernel_rfl : Info Tryz.prog 150 (.agg #[.string ⟨#[]⟩, .int .i64 0]) 2 24) (by omega) ?_
   intro v9 w9 hOL9 hbw9 hs9 hk9
   have hcq := F2.app hFz hbw9 hs9 hk9
   refine hkO hK ⟨hcq, trivial⟩ fun hHeld => ?_
   clear hK K
   refine tkQ 14 ?_
   refine wpAnyH_done (by kernel_rfl) ?_ _
   repeat' (first | go_skip | go_guarded | go_step)
   go_roundw
   case rel =>
    obtain ⟨e1, e2⟩ := elem_res rfl hyc hP2.ps s1.out s2.out
    obtain ⟨m1, m2⟩ := seq_step hx.out q1.out q2.out e1 e2
    have hl9 : (vs ++ [fL [y0, y1]]).length = i + 1 := by rw [List.length_append, hvl]; rfl
    obtain ⟨A9, c9, rfl⟩ := hOL9.form
    exact ⟨i + 1, vs ++ [fL [y0, y1]], b1_, by omega, by go_num, hl9, hP2.ps.bk.low hbw9 hgl hs9, GB.low ((hG.trans hG3).trans hP2.gb) hbw9 hs9, hOL9, m1, m2⟩
   case measure => simp [intOf]; omega
  ·have hd : (decide ((i : Int) < n)) = false := by simp; omega
   have hti : (toL f.2.2.2).take i = toL f.2.2.2 := List.take_of_length_le (by omega)
   repeat' (first | go_skip | go_guarded | go_step)
   go_ret
   have q1 := q1.out
   have q2 := q2.out
   rw [hti] at q1 q2
   exact ⟨_, rfl, list_res (Cod.recd_ok (okc Cod.str_ok (okc Cod.int_ok okn))) hcl hB hG hOL q1 q2⟩
theorem outputs_b : Back1 1000000000 93 (.list (.recd [.str, .dig, .int])) (fitL (fitR [fitS, fitI, fitI])) := by
 intro w g b f A c h hf hcl hN
 have hps := parts_of hf
 have hln : f.2.2.2.length ≤ 1000000000 := by have := Flds.length_le_size f.2.2.2; unfold fsz at hN; omega
 go_enter Tryz.func93, Tryz.ntmps93
 go_upto_region 2 with (fail)
 generalize hx_ : World.alloc w _ = w1
 have hO : OwnB w w1 [(w.heap.size, fC f A c)] := by rw [← hx_]; exact (OwnB.refl w).new (fC f A c).toArray _ (g := w.heap.size)
 have hb := hO.below
 clear hx_
 have c0 := hO.c 0 0
 have c1 := hO.c 0 1
 have c2 := hO.c 0 2
 have c3 := hO.c 0 3
 have h1 := h.below hb
 repeat' (first | go_skip | go_guarded | go_step)
 refine (bseq_any w1 g b f A c h1).mono ?_
 rintro e w2 ⟨rfl, h2, hg2⟩
 dsimp only
 have hgb := (GB.of hb).trans hg2
 obtain ⟨n, hn⟩ : ∃ n, n = f.2.2.2.length := ⟨_, rfl⟩
 rw [← hn] at hln ⊢
 have hll : (toL f.2.2.2).length = n := by rw [toL_length, hn]
 replace hn := Lib.hid hn
 clear c0 c1 c2 c3 hg2
 repeat' (first | go_skip | go_guarded | go_step)
 go_loopw [5, 7] (fun u5 u7 wr => ∃ (i : Nat) (vs : List FV) (bi : Bool), i ≤ n ∧ u7 = .int .i64 (i : Int) ∧ vs.length = i ∧ BK wr g bi ∧ GB w wr g ∧ OL (.recd [.str, .dig, .int]) w.heap.size wr 214 u5 vs ∧ (bi = false → (b || !(f.1 == 2)) = false ∧ (∀ y ∈ (toL f.2.2.2).take i, fitR [fitS, fitI, fitI] y) ∧ vs = (toL f.2.2.2).take i) ∧ ((b || !(f.1 == 2)) = false → (∀ y ∈ (toL f.2.2.2).take i, fitR [fitS, fitI, fitI] y) → bi = false)) (fun _ u7 _ => n - (intOf u7).toNat)
 case atStart => exact ⟨0, [], _, by omega, rfl, rfl, h2, hgb, OL.nil hgb.size, fun hb => ⟨hb, by simp, by simp⟩, fun hb _ => hb⟩
 case round =>
  obtain ⟨i, vs, bi, hin, rfl, hvl, hB, hG, hOL, q1, q2⟩ := hrel
  replace q1 := Lib.hid q1
  replace q2 := Lib.hid q2
  obtain ⟨A5, c5, rfl⟩ := hOL.form
  have hgl := h.lt
  by_cases hlt : i < n
  ·have hd : (decide ((i : Int) < n)) = true := by simp; omega
   obtain ⟨y, hx⟩ : ∃ y, (toL f.2.2.2)[i]? = some y := ⟨(toL f.2.2.2)[i]'(by omega), List.getElem?_eq_getElem _⟩
   obtain ⟨bq, oq, Ay, cy, rfl, hS, hry, hra⟩ := fsl_at (fsl_keep hps hG) hx
   have hym : y ∈ toL f.2.2.2 := List.mem_iff_getElem?.2 ⟨i, hx⟩
   have hyz := fsz_toL hym
   have hyc := cln_mem (cl1_list hcl) y hym
   replace hx := Lib.hid hx
   replace hll := Lib.hid hll
   rw [hvl] at hOL ⊢
   repeat' (first | (refine wpList_load_mid rfl 98 _ rfl bq (oq + i * 4) rfl (fC y Ay cy) _ hra Tryz.underlying98 rfl fld_sz ?_) | go_skip | go_guarded | go_step)
   refine (bparts_any w.heap.size wr g bi y Ay cy 3 hB hG.size hry hyc (by omega) (by omega) (by omega)).mono ?_
   rintro e w3 ⟨l3, A3, k3, rfl, b3, hl3, hFl, hcln, hB3, hG3, hsm, s1, s2⟩
   dsimp only
   obtain ⟨p0, p1, p2, rfl⟩ := list3 hl3
   obtain ⟨br, or_, rfl, hq⟩ := fsl_head hFl (by simp)
   have hs3 := hG3.size
   have hOL3 := hOL.gb (Cod.recd_ok (okc Cod.str_ok (okc Cod.dig_ok (okc Cod.int_ok okn)))) hgl hG3
   have hqk := kb_ne hOL hq.2.2 (by omega)
   obtain ⟨a0, k0_, hr0, hA0, hc0, hz0⟩ := part_b (fun x h1 h2 => kb_ne hOL h2 h1) hFl hcln hsm (show fsz y ≤ 1000000000 by omega) (i := 0) (y := p0) (o := or_) rfl rfl
   obtain ⟨a1, k1_, hr1, hA1, hc1, hz1⟩ := part_b (fun x h1 h2 => kb_ne hOL h2 h1) hFl hcln hsm (show fsz y ≤ 1000000000 by omega) (i := 1) (y := p1) (o := or_ + 4) rfl rfl
   obtain ⟨a2, k2_, hr2, hA2, hc2, hz2⟩ := part_b (fun x h1 h2 => kb_ne hOL h2 h1) hFl hcln hsm (show fsz y ≤ 1000000000 by omega) (i := 2) (y := p2) (o := or_ + 8) rfl rfl
   have hg1 : g < wr.heap.size := by have := hG.size; omega
   have hP0 := PB.start (I := fun z => OL (.recd [.str, .dig, .int]) w.heap.size z 214 (.slice A5 i c5) vs) hOL3 (fun z z' h hG => h.gb (Cod.recd_ok (okc Cod.str_ok (okc Cod.dig_ok (okc Cod.int_ok okn)))) hgl hG) hB3 hs3 hg1
   have hq1 := hq.2.1
   have hq2 := hq.2.2
   replace s1 := Lib.hid s1
   replace s2 := Lib.hid s2
   have hsw : w.heap.size ≤ wr.heap.size := hG.size
   have hOlo := hOL.lo
   clear hFl hB3 hcln hl3 hra hry hOL3
   go_upto_region 7 with (fail)
   refine wp_region_held_drew (S := fun w' => F2 w3 w' g (kbOf (.slice A5 i c5) g) ∧ True) (by kernel_rfl) ?_ (fun hHeld => ?_)
   ·(try dsimp only)
    exact ⟨(F2.refl _ _ _).drew, trivial⟩
   refine tkQ 0 ?_
   refine tkQ 1 ?_
   refine tkQ 2 ?_
   refine tkQ 3 ?_
   refine tkV 4 (v := .agg (fC p0 a0 k0_).toArray) rfl (yieldsF (b := br) (o := or_) (fun v h => F2.range hA0 h.1 hq1 hq2 hqk)) ?_
   refine tkQ 6 ?_
   refine tkQ 7 ?_
   refine tkQ 8 ?_
   refine tkV 9 (v := .agg (fC p1 a1 k1_).toArray) rfl (yieldsF (b := br) (o := or_ + 4) (fun v h => F2.range hA1 h.1 hq1 hq2 hqk)) ?_
   refine tkQ 12 ?_
   refine tkQ 13 ?_
   refine tkQ 14 ?_
   refine tkV 15 (v := .agg (fC p2 a2 k2_).toArray) rfl (yieldsF (b := br) (o := or_ + 8) (fun v h => F2.range hA2 h.1 hq1 hq2 hqk)) ?_
   refine rdO 5 fun K hK => ?_
   go_simp
   go_at_call 41
   refine (str_b.pb Cod.str_ok hP0 hr0 hc0 hz0).mono ?_
   rintro e z0 ⟨v0, y0, b0_, rfl, ⟨s0, -, hv⟩, hP1⟩
   dsimp only
   injection hv with hv
   subst hv
   have hcq := hP1.f2 (gB := kbOf (.slice A5 i c5) g)
   clear hP0
   refine hkO hK ⟨hcq, trivial⟩ fun hHeld => ?_
   clear hK K
   refine rdO 10 fun K hK => ?_
   go_simp
   go_at_call 40
   refine (numd_pb hP1 hr1 hc1 hz1).mono ?_
   rintro e z1 ⟨x1, y1, b1_, rfl, hP2⟩
   dsimp only
   have hcq := hP2.f2 (gB := kbOf (.slice A5 i c5) g)
   clear hP1
   refine hkO hK ⟨hcq, trivial⟩ fun hHeld => ?_
   clear hK K
   refine tkQ 11 ?_
   refine rdO 16 fun K hK => ?_
   go_simp
   go_at_call 40
   refine (num_b.pb Cod.int_ok hP2 hr2 hc2 hz2).mono ?_
   rintro e z2 ⟨v2, y2, b2_, rfl, ⟨x2, -, -, hv⟩, hP3⟩
   dsimp only
   injection hv with hv
   subst hv
   have hcq := hP3.f2 (gB := kbOf (.slice A5 i c5) g)
   clear hP2
   refine hkO hK ⟨hcq, trivial⟩ fun hHeld => ?_
   clear hK K
   refine tkQ 17 ?_
   refine rdO 18 fun K hK => ?_
   go_simp
   have hcq := hHeld.1.gb (GB.of (g := g) ((Below.refl z2.heap.size z2).alloc (Nat.le_refl _) (.cells #[.string s0, .int .u64 (IntKind.u64.wrap x1), .int .i64 x2] 214)))
   have hFz := hHeld.1
   refine hkO hK ⟨hcq, trivial⟩ fun hHeld => ?_
   clear hK K
   refine rdO 19 fun K hK => ?_
   refine OL.step (Cod.recd_ok (okc Cod.str_ok (okc Cod.dig_ok (okc Cod.int_ok okn)))) hP3.inv (Below.refl _ _) (x := fL [y0, y1, y2]) (cs := #[.string s0, .int .u64 (IntKind.u64.wrap x1), .int .i64 x2]) ⟨[y0, y1, y2], rfl, RecL.map (w' := z2) (okc Cod.str_ok (okc Cod.dig_ok (okc Cod.int_ok okn))) (fun _ _ => rfl) (fun b hb => ⟨Nat.le_trans hsw hb.1, hb.2, fun e => by have := hOlo b e.symm; have := hb.1; omega⟩) hP3.ps.ty⟩ Tryz.underlying26 (by unfold Info; kernel_rfl : Info Tryz.prog 214 (.agg #[.string ⟨#[]⟩, .int .u64 0, .int .i64 0]) 3 32) (by omega) ?_
   intro v9 w9 hOL9 hbw9 hs9 hk9
   have hcq := F2.app hFz hbw9 hs9 hk9
   refine hkO hK ⟨hcq, trivial⟩ fun hHeld => ?_
   clear hK K
   refine tkQ 20 ?_
   refine wpAnyH_done (by kernel_rfl) ?_ _
   repeat' (first | go_skip | go_guarded | go_step)
   go_roundw
   case rel =>
    obtain ⟨e1, e2⟩ := elem_res rfl hyc hP3.ps s1.out s2.out
    obtain ⟨m1, m2⟩ := seq_step hx.out q1.out q2.out e1 e2
    have hl9 : (vs ++ [fL [y0, y1, y2]]).length = i + 1 := by rw [List.length_append, hvl]; rfl
    obtain ⟨A9, c9, rfl⟩ := hOL9.form
    exact ⟨i + 1, vs ++ [fL [y0, y1, y2]], b2_, by omega, by go_num, hl9, hP3.ps.bk.low hbw9 hgl hs9, GB.low ((hG.trans hG3).trans hP3.gb) hbw9 hs9, hOL9, m1, m2⟩
   case measure => simp [intOf]; omega
  ·have hd : (decide ((i : Int) < n)) = false := by simp; omega
   have hti : (toL f.2.2.2).take i = toL f.2.2.2 := List.take_of_length_le (by omega)
   repeat' (first | go_skip | go_guarded | go_step)
   go_ret
   have q1 := q1.out
   have q2 := q2.out
   rw [hti] at q1 q2
   exact ⟨_, rfl, list_res (Cod.recd_ok (okc Cod.str_ok (okc Cod.dig_ok (okc Cod.int_ok okn)))) hcl hB hG hOL q1 q2⟩
theorem tests_b : Back1 1000000000 94 (.list (.recd [.str, .int, .int])) (fitL (fitR [fitS, fitI, fitI])) := by
 intro w g b f A c h hf hcl hN
 have hps := parts_of hf
 have hln : f.2.2.2.length ≤ 1000000000 := by have := Flds.length_le_size f.2.2.2; unfold fsz at hN; omega
 go_enter Tryz.func94, Tryz.ntmps94
 go_upto_region 2 with (fail)
 generalize hx_ : World.alloc w _ = w1
 have hO : OwnB w w1 [(w.heap.size, fC f A c)] := by rw [← hx_]; exact (OwnB.refl w).new (fC f A c).toArray _ (g := w.heap.size)
 have hb := hO.below
 clear hx_
 have c0 := hO.c 0 0
 have c1 := hO.c 0 1
 have c2 := hO.c 0 2
 have c3 := hO.c 0 3
 have h1 := h.below hb
 repeat' (first | go_skip | go_guarded | go_step)
 refine (bseq_any w1 g b f A c h1).mono ?_
 rintro e w2 ⟨rfl, h2, hg2⟩
 dsimp only
 have hgb := (GB.of hb).trans hg2
 obtain ⟨n, hn⟩ : ∃ n, n = f.2.2.2.length := ⟨_, rfl⟩
 rw [← hn] at hln ⊢
 have hll : (toL f.2.2.2).length = n := by rw [toL_length, hn]
 replace hn := Lib.hid hn
 clear c0 c1 c2 c3 hg2
 repeat' (first | go_skip | go_guarded | go_step)
 go_loopw [5, 7] (fun u5 u7 wr => ∃ (i : Nat) (vs : List FV) (bi : Bool), i ≤ n ∧ u7 = .int .i64 (i : Int) ∧ vs.length = i ∧ BK wr g bi ∧ GB w wr g ∧ OL (.recd [.str, .int, .int]) w.heap.size wr 200 u5 vs ∧ (bi = false → (b || !(f.1 == 2)) = false ∧ (∀ y ∈ (toL f.2.2.2).take i, fitR [fitS, fitI, fitI] y) ∧ vs = (toL f.2.2.2).take i) ∧ ((b || !(f.1 == 2)) = false → (∀ y ∈ (toL f.2.2.2).take i, fitR [fitS, fitI, fitI] y) → bi = false)) (fun _ u7 _ => n - (intOf u7).toNat)
 case atStart => exact ⟨0, [], _, by omega, rfl, rfl, h2, hgb, OL.nil hgb.size, fun hb => ⟨hb, by simp, by simp⟩, fun hb _ => hb⟩
 case round =>
  obtain ⟨i, vs, bi, hin, rfl, hvl, hB, hG, hOL, q1, q2⟩ := hrel
  replace q1 := Lib.hid q1
  replace q2 := Lib.hid q2
  obtain ⟨A5, c5, rfl⟩ := hOL.form
  have hgl := h.lt
  by_cases hlt : i < n
  ·have hd : (decide ((i : Int) < n)) = true := by simp; omega
   obtain ⟨y, hx⟩ : ∃ y, (toL f.2.2.2)[i]? = some y := ⟨(toL f.2.2.2)[i]'(by omega), List.getElem?_eq_getElem _⟩
   obtain ⟨bq, oq, Ay, cy, rfl, hS, hry, hra⟩ := fsl_at (fsl_keep hps hG) hx
   have hym : y ∈ toL f.2.2.2 := List.mem_iff_getElem?.2 ⟨i, hx⟩
   have hyz := fsz_toL hym
   have hyc := cln_mem (cl1_list hcl) y hym
   replace hx := Lib.hid hx
   replace hll := Lib.hid hll
   rw [hvl] at hOL ⊢
   repeat' (first | (refine wpList_load_mid rfl 98 _ rfl bq (oq + i * 4) rfl (fC y Ay cy) _ hra Tryz.underlying98 rfl fld_sz ?_) | go_skip | go_guarded | go_step)
   refine (bparts_any w.heap.size wr g bi y Ay cy 3 hB hG.size hry hyc (by omega) (by omega) (by omega)).mono ?_
   rintro e w3 ⟨l3, A3, k3, rfl, b3, hl3, hFl, hcln, hB3, hG3, hsm, s1, s2⟩
   dsimp only
   obtain ⟨p0, p1, p2, rfl⟩ := list3 hl3
   obtain ⟨br, or_, rfl, hq⟩ := fsl_head hFl (by simp)
   have hs3 := hG3.size
   have hOL3 := hOL.gb (Cod.recd_ok (okc Cod.str_ok (okc Cod.int_ok (okc Cod.int_ok okn)))) hgl hG3
   have hqk := kb_ne hOL hq.2.2 (by omega)
   obtain ⟨a0, k0_, hr0, hA0, hc0, hz0⟩ := part_b (fun x h1 h2 => kb_ne hOL h2 h1) hFl hcln hsm (show fsz y ≤ 1000000000 by omega) (i := 0) (y := p0) (o := or_) rfl rfl
   obtain ⟨a1, k1_, hr1, hA1, hc1, hz1⟩ := part_b (fun x h1 h2 => kb_ne hOL h2 h1) hFl hcln hsm (show fsz y ≤ 1000000000 by omega) (i := 1) (y := p1) (o := or_ + 4) rfl rfl
   obtain ⟨a2, k2_, hr2, hA2, hc2, hz2⟩ := part_b (fun x h1 h2 => kb_ne hOL h2 h1) hFl hcln hsm (show fsz y ≤ 1000000000 by omega) (i := 2) (y := p2) (o := or_ + 8) rfl rfl
   have hg1 : g < wr.heap.size := by have := hG.size; omega
   have hP0 := PB.start (I := fun z => OL (.recd [.str, .int, .int]) w.heap.size z 200 (.slice A5 i c5) vs) hOL3 (fun z z' h hG => h.gb (Cod.recd_ok (okc Cod.str_ok (okc Cod.int_ok (okc Cod.int_ok okn)))) hgl hG) hB3 hs3 hg1
   have hq1 := hq.2.1
   have hq2 := hq.2.2
   replace s1 := Lib.hid s1
   replace s2 := Lib.hid s2
   have hsw : w.heap.size ≤ wr.heap.size := hG.size
   have hOlo := hOL.lo
   clear hFl hB3 hcln hl3 hra hry hOL3
   go_upto_region 7 with (fail)
   refine wp_region_held_drew (S := fun w' => F2 w3 w' g (kbOf (.slice A5 i c5) g) ∧ True) (by kernel_rfl) ?_ (fun hHeld => ?_)
   ·(try dsimp only)
    exact ⟨(F2.refl _ _ _).drew, trivial⟩
   refine tkQ 0 ?_
   refine tkQ 1 ?_
   refine tkQ 2 ?_
   refine tkQ 3 ?_
   refine tkV 4 (v := .agg (fC p0 a0 k0_).toArray) rfl (yieldsF (b := br) (o := or_) (fun v h => F2.range hA0 h.1 hq1 hq2 hqk)) ?_
   refine tkQ 6 ?_
   refine tkQ 7 ?_
   refine tkQ 8 ?_
   refine tkV 9 (v := .agg (fC p1 a1 k1_).toArray) rfl (yieldsF (b := br) (o := or_ + 4) (fun v h => F2.range hA1 h.1 hq1 hq2 hqk)) ?_
   refine tkQ 11 ?_
   refine tkQ 12 ?_
   refine tkQ 13 ?_
   refine tkV 14 (v := .agg (fC p2 a2 k2_).toArray) rfl (yieldsF (b := br) (o := or_ + 8) (fun v h => F2.range hA2 h.1 hq1 hq2 hqk)) ?_
   refine rdO 5 fun K hK => ?_
   go_simp
   go_at_call 41
   refine (str_b.pb Cod.str_ok hP0 hr0 hc0 hz0).mono ?_
   rintro e z0 ⟨v0, y0, b0_, rfl, ⟨s0, -, hv⟩, hP1⟩
   dsimp only
   injection hv with hv
   subst hv
   have hcq := hP1.f2 (gB := kbOf (.slice A5 i c5) g)
   clear hP0
   refine hkO hK ⟨hcq, trivial⟩ fun hHeld => ?_
   clear hK K
   refine rdO 10 fun K hK => ?_
   go_simp
   go_at_call 40
   refine (num_b.pb Cod.int_ok hP1 hr1 hc1 hz1).mono ?_
   rintro e z1 ⟨v1, y1, b1_, rfl, ⟨x1, -, -, hv⟩, hP2⟩
   dsimp only
   injection hv with hv
   subst hv
   have hcq := hP2.f2 (gB := kbOf (.slice A5 i c5) g)
   clear hP1
   refine hkO hK ⟨hcq, trivial⟩ fun hHeld => ?_
   clear hK K
   refine rdO 15 fun K hK => ?_
   go_simp
   go_at_call 40
   refine (num_b.pb Cod.int_ok hP2 hr2 hc2 hz2).mono ?_
   rintro e z2 ⟨v2, y2, b2_, rfl, ⟨x2, -, -, hv⟩, hP3⟩
   dsimp only
   injection hv with hv
   subst hv
   have hcq := hP3.f2 (gB := kbOf (.slice A5 i c5) g)
   clear hP2
   refine hkO hK ⟨hcq, trivial⟩ fun hHeld => ?_
   clear hK K
   refine tkQ 16 ?_
   refine rdO 17 fun K hK => ?_
   go_simp
   have hcq := hHeld.1.gb (GB.of (g := g) ((Below.refl z2.heap.size z2).alloc (Nat.le_refl _) (.cells #[.string s0, .int .i64 x1, .int .i64 x2] 200)))
   have hFz := hHeld.1
   refine hkO hK ⟨hcq, trivial⟩ fun hHeld => ?_
   clear hK K
   refine rdO 18 fun K hK => ?_
   refine OL.step (Cod.recd_ok (okc Cod.str_ok (okc Cod.int_ok (okc Cod.int_ok okn)))) hP3.inv (Below.refl _ _) (x := fL [y0, y1, y2]) (cs := #[.string s0, .int .i64 x1, .int .i64 x2]) ⟨[y0, y1, y2], rfl, RecL.map (w' := z2) (okc Cod.str_ok (okc Cod.int_ok (okc Cod.int_ok okn))) (fun _ _ => rfl) (fun b hb => ⟨Nat.le_trans hsw hb.1, hb.2, fun e => by have := hOlo b e.symm; have := hb.1; omega⟩) hP3.ps.ty⟩ Tryz.underlying27 (by unfold Info; kernel_rfl : Info Tryz.prog 200 (.agg #[.string ⟨#[]⟩, .int .i64 0, .int .i64 0]) 3 32) (by omega) ?_
   intro v9 w9 hOL9 hbw9 hs9 hk9
   have hcq := F2.app hFz hbw9 hs9 hk9
   refine hkO hK ⟨hcq, trivial⟩ fun hHeld => ?_
   clear hK K
   refine tkQ 19 ?_
   refine wpAnyH_done (by kernel_rfl) ?_ _
   repeat' (first | go_skip | go_guarded | go_step)
   go_roundw
   case rel =>
    obtain ⟨e1, e2⟩ := elem_res rfl hyc hP3.ps s1.out s2.out
    obtain ⟨m1, m2⟩ := seq_step hx.out q1.out q2.out e1 e2
    have hl9 : (vs ++ [fL [y0, y1, y2]]).length = i + 1 := by rw [List.length_append, hvl]; rfl
    obtain ⟨A9, c9, rfl⟩ := hOL9.form
    exact ⟨i + 1, vs ++ [fL [y0, y1, y2]], b2_, by omega, by go_num, hl9, hP3.ps.bk.low hbw9 hgl hs9, GB.low ((hG.trans hG3).trans hP3.gb) hbw9 hs9, hOL9, m1, m2⟩
   case measure => simp [intOf]; omega
  ·have hd : (decide ((i : Int) < n)) = false := by simp; omega
   have hti : (toL f.2.2.2).take i = toL f.2.2.2 := List.take_of_length_le (by omega)
   repeat' (first | go_skip | go_guarded | go_step)
   go_ret
   have q1 := q1.out
   have q2 := q2.out
   rw [hti] at q1 q2
   exact ⟨_, rfl, list_res (Cod.recd_ok (okc Cod.str_ok (okc Cod.int_ok (okc Cod.int_ok okn)))) hcl hB hG hOL q1 q2⟩
end Go.Proofs.YtgdapkglofchjaaGreatDoor
