/- Joined: JnBy JnBz JnCd. -/
import Derived.Test.YtgdapkglofchjaaGreatDoorF27
set_option maxRecDepth 100000
set_option maxHeartbeats 4000000
set_option linter.unusedVariables false
namespace Go.Proofs.YtgdapkglofchjaaGreatDoor
open Go.RowKit
theorem bvalue_all (N : Nat) : N ≤ 1000000000 → BackS N 92 .value FitV := Nat.strongRecOn N (fun N ih hN => value_body N hN (fun M hM => ih M hM (by omega)))
theorem value_b : BackS 1000000000 92 .value FitV := bvalue_all _ (Nat.le_refl _)
theorem vars_b : Back1 1000000000 43 (.list (.recd [.str, .value])) (fitL (fitR [fitS, FitV])) := by
 intro w g b f A c h hf hcl hN
 have hps := parts_of hf
 have hln : f.2.2.2.length ≤ 1000000000 := by have := Flds.length_le_size f.2.2.2; unfold fsz at hN; omega
 go_enter Tryz.func43, Tryz.ntmps43
 go_upto_region 2 with (fail)
 generalize hx_ : World.alloc w _ = w1
 have hO : OwnB w w1 [(w.heap.size, fC f A c)] := by rw [← hx_]; exact (OwnB.refl w).new (fC f A c).toArray _ (g := w.heap.size)
 have hb := hO.below
 clear hx_
 have c0 := hO.c 0 0
 have c1 := hO.c 0 1
 have c2 := hO.c 0 2
 have c3 := hO.c 0 3
 have h1 := h.below hb
 repeat' (first | go_skip | go_guarded | go_step)
 refine (bseq_any w1 g b f A c h1).mono ?_
 rintro e w2 ⟨rfl, h2, hg2⟩
 dsimp only
 have hgb := (GB.of hb).trans hg2
 obtain ⟨n, hn⟩ : ∃ n, n = f.2.2.2.length := ⟨_, rfl⟩
 rw [← hn] at hln ⊢
 have hll : (toL f.2.2.2).length = n := by rw [toL_length, hn]
 replace hn := Lib.hid hn
 clear c0 c1 c2 c3 hg2
 repeat' (first | go_skip | go_guarded | go_step)
 go_loopw [5, 7] (fun u5 u7 wr => ∃ (i : Nat) (vs : List FV) (bi : Bool), i ≤ n ∧ u7 = .int .i64 (i : Int) ∧ vs.length = i ∧ BK wr g bi ∧ GB w wr g ∧ OL (.recd [.str, .value]) w.heap.size wr 77 u5 vs ∧ (bi = false → (b || !(f.1 == 2)) = false ∧ (∀ y ∈ (toL f.2.2.2).take i, fitR [fitS, FitV] y) ∧ vs = (toL f.2.2.2).take i) ∧ ((b || !(f.1 == 2)) = false → (∀ y ∈ (toL f.2.2.2).take i, fitR [fitS, FitV] y) → bi = false)) (fun _ u7 _ => n - (intOf u7).toNat)
 case atStart => exact ⟨0, [], _, by omega, rfl, rfl, h2, hgb, OL.nil hgb.size, fun hb => ⟨hb, by simp, by simp⟩, fun hb _ => hb⟩
 case round =>
  obtain ⟨i, vs, bi, hin, rfl, hvl, hB, hG, hOL, q1, q2⟩ := hrel
  replace q1 := Lib.hid q1
  replace q2 := Lib.hid q2
  obtain ⟨A5, c5, rfl⟩ := hOL.form
  have hgl := h.lt
  by_cases hlt : i < n
  ·have hd : (decide ((i : Int) < n)) = true := by simp; omega
   obtain ⟨y, hx⟩ : ∃ y, (toL f.2.2.2)[i]? = some y := ⟨(toL f.2.2.2)[i]'(by omega), List.getElem?_eq_getElem _⟩
   obtain ⟨bq, oq, Ay, cy, rfl, hS, hry, hra⟩ := fsl_at (fsl_keep hps hG) hx
   have hym : y ∈ toL f.2.2.2 := List.mem_iff_getElem?.2 ⟨i, hx⟩
   have hyz := fsz_toL hym
   have hyc := cln_mem (cl1_list hcl) y hym
   replace hx := Lib.hid hx
   replace hll := Lib.hid hll
   rw [hvl] at hOL ⊢
   repeat' (first | (refine wpList_load_mid rfl 98 _ rfl bq (oq + i * 4) rfl (fC y Ay cy) _ hra Tryz.underlying98 rfl fld_sz ?_) | go_skip | go_guarded | go_step)
   refine (bparts_any w.heap.size wr g bi y Ay cy 2 hB hG.size hry hyc (by omega) (by omega) (by omega)).mono ?_
   rintro e w3 ⟨l3, A3, k3, rfl, b3, hl3, hFl, hcln, hB3, hG3, hsm, s1, s2⟩
   dsimp only
   obtain ⟨p0, p1, rfl⟩ := list2 hl3
   obtain ⟨br, or_, rfl, hq⟩ := fsl_head hFl (by simp)
   have hs3 := hG3.size
   have hOL3 := hOL.gb (Cod.recd_ok (okc Cod.str_ok (okc Cod.value_ok okn))) hgl hG3
   have hqk := kb_ne hOL hq.2.2 (by omega)
   obtain ⟨a0, k0_, hr0, hA0, hc0, hz0⟩ := part_b (fun x h1 h2 => kb_ne hOL h2 h1) hFl hcln hsm (show fsz y ≤ 1000000000 by omega) (i := 0) (y := p0) (o := or_) rfl rfl
   obtain ⟨a1, k1_, hr1, hA1, hc1, hz1⟩ := part_b (fun x h1 h2 => kb_ne hOL h2 h1) hFl hcln hsm (show fsz y ≤ 1000000000 by omega) (i := 1) (y := p1) (o := or_ + 4) rfl rfl
   have hg1 : g < wr.heap.size := by have := hG.size; omega
   have hP0 := PB.start (I := fun z => OL (.recd [.str, .value]) w.heap.size z 77 (.slice A5 i c5) vs) hOL3 (fun z z' h hG => h.gb (Cod.recd_ok (okc Cod.str_ok (okc Cod.value_ok okn))) hgl hG) hB3 hs3 hg1
   have hq1 := hq.2.1
   have hq2 := hq.2.2
   replace s1 := Lib.hid s1
   replace s2 := Lib.hid s2
   have hsw : w.heap.size ≤ wr.heap.size := hG.size
   have hOlo := hOL.lo
   clear hFl hB3 hcln hl3 hra hry hOL3
   go_upto_region 7 with (fail)
   refine wp_region_held_drew (S := fun w' => F2 w3 w' g (kbOf (.slice A5 i c5) g) ∧ True) (by kernel_rfl) ?_ (fun hHeld => ?_)
   ·(try dsimp only)
    exact ⟨(F2.refl _ _ _).drew, trivial⟩
   refine tkQ 0 ?_
   refine tkQ 1 ?_
   refine tkQ 2 ?_
   refine tkQ 3 ?_
   refine tkV 4 (v := .agg (fC p0 a0 k0_).toArray) rfl (yieldsF (b := br) (o := or_) (fun v h => F2.range hA0 h.1 hq1 hq2 hqk)) ?_
   refine tkQ 6 ?_
   refine tkQ 7 ?_
   refine tkQ 8 ?_
   refine tkV 9 (v := .agg (fC p1 a1 k1_).toArray) rfl (yieldsF (b := br) (o := or_ + 4) (fun v h => F2.range hA1 h.1 hq1 hq2 hqk)) ?_
   refine rdO 5 fun K hK => ?_
   go_simp
   go_at_call 41
   refine (str_b.pb Cod.str_ok hP0 hr0 hc0 hz0).mono ?_
   rintro e z0 ⟨v0, y0, b0_, rfl, ⟨s0, -, hv⟩, hP1⟩
   dsimp only
   injection hv with hv
   subst hv
   have hcq := hP1.f2 (gB := kbOf (.slice A5 i c5) g)
   clear hP0
   refine hkO hK ⟨hcq, trivial⟩ fun hHeld => ?_
   clear hK K
   refine rdO 10 fun K hK => ?_
   go_simp
   go_at_call 92
   refine (value_b.pb Cod.value_ok hP1 hr1 hc1 hz1).mono ?_
   rintro e z1 ⟨v1, y1, b1_, rfl, r1, hP2⟩
   dsimp only
   obtain ⟨vk1, vb1, vi1, vs1, vA1, vn1, vc1, wA1, wn1, wc1, rfl⟩ := value_form r1
   clear r1
   have hcq := hP2.f2 (gB := kbOf (.slice A5 i c5) g)
   clear hP1
   refine hkO hK ⟨hcq, trivial⟩ fun hHeld => ?_
   clear hK K
   refine tkQ 11 ?_
   refine rdO 12 fun K hK => ?_
   go_simp
   have hcq := hHeld.1.gb (GB.of (g := g) ((Below.refl z1.heap.size z1).alloc (Nat.le_refl _) (.cells #[.string s0, .int .i64 vk1, .bool vb1, .int .i64 vi1, .string vs1, .slice vA1 vn1 vc1, .slice wA1 wn1 wc1] 77)))
   have hFz := hHeld.1
   refine hkO hK ⟨hcq, trivial⟩ fun hHeld => ?_
   clear hK K
   refine rdO 13 fun K hK => ?_
   refine OL.step (Cod.recd_ok (okc Cod.str_ok (okc Cod.value_ok okn))) hP2.inv (Below.refl _ _) (x := fL [y0, y1]) (cs := #[.string s0, .int .i64 vk1, .bool vb1, .int .i64 vi1, .string vs1, .slice vA1 vn1 vc1, .slice wA1 wn1 wc1]) ⟨[y0, y1], rfl, RecL.map (w' := z1) (okc Cod.str_ok (okc Cod.value_ok okn)) (fun _ _ => rfl) (fun b hb => ⟨Nat.le_trans hsw hb.1, hb.2, fun e => by have := hOlo b e.symm; have := hb.1; omega⟩) hP2.ps.ty⟩ Tryz.underlying24 (by unfold Info; kernel_rfl : Info Tryz.prog 77 (.agg #[.string ⟨#[]⟩, .int .i64 0, .bool false, .int .i64 0, .string ⟨#[]⟩, .slice none 0 0, .slice none 0 0]) 7 104) (by omega) ?_
   intro v9 w9 hOL9 hbw9 hs9 hk9
   have hcq := F2.app hFz hbw9 hs9 hk9
   refine hkO hK ⟨hcq, trivial⟩ fun hHeld => ?_
   clear hK K
   refine tkQ 14 ?_
   refine wpAnyH_done (by kernel_rfl) ?_ _
   repeat' (first | go_skip | go_guarded | go_step)
   go_roundw
   case rel =>
    obtain ⟨e1, e2⟩ := elem_res rfl hyc hP2.ps s1.out s2.out
    obtain ⟨m1, m2⟩ := seq_step hx.out q1.out q2.out e1 e2
    have hl9 : (vs ++ [fL [y0, y1]]).length = i + 1 := by rw [List.length_append, hvl]; rfl
    obtain ⟨A9, c9, rfl⟩ := hOL9.form
    exact ⟨i + 1, vs ++ [fL [y0, y1]], b1_, by omega, by go_num, hl9, hP2.ps.bk.low hbw9 hgl hs9, GB.low ((hG.trans hG3).trans hP2.gb) hbw9 hs9, hOL9, m1, m2⟩
   case measure => simp [intOf]; omega
  ·have hd : (decide ((i : Int) < n)) = false := by simp; omega
   have hti : (toL f.2.2.2).take i = toL f.2.2.2 := List.take_of_length_le (by omega)
   repeat' (first | go_skip | go_guarded | go_step)
   go_ret
   have q1 := q1.out
   have q2 := q2.out
   rw [hti] at q1 q2
   exact ⟨_, rfl, list_res (Cod.recd_ok (okc Cod.str_ok (okc Cod.value_ok okn))) hcl hB hG hOL q1 q2⟩
theorem result_b : BackS 1000000000 45 (.recd [.int, .int, (.list .output), (.list .output), (.list .test), .str]) (fitR [fitI, fitI, (fitL (fitR [fitS, fitI, fitI])), (fitL (fitR [fitS, fitI, fitI])), (fitL (fitR [fitS, fitI, fitI])), fitS]) := by
 intro w g b f A c h hf hcl hN
 go_enter Tryz.func45, Tryz.ntmps45
 go_upto_region 1 with (fail)
 generalize hx_ : World.alloc (World.alloc w _) _ = w1
 have hH : HD w w1 g b f A c [.int .i64 0, .int .i64 0, .slice none 0 0, .slice none 0 0, .slice none 0 0, .string ⟨#[]⟩] := by rw [← hx_]; exact HD.of h hf _ _
 clear hx_
 obtain ⟨c0, c1, c2, c3⟩ := hH.cells
 have hlt := hH.lt
 repeat' (first | go_skip | go_guarded | go_step)
 refine (bparts_any w.heap.size w1 g b f A c 6 hH.bk hH.hb.size hH.rf hcl (by omega) (by omega) hN).mono ?_
 rintro e w2 ⟨l, A2, k2, rfl, b2, hl, hFl, hcln, hB2, hG2, hsm, q1, q2⟩
 dsimp only
 obtain ⟨p0, p1, p2, p3, p4, p5, rfl⟩ := list6 hl
 obtain ⟨bq, oq, rfl, hq⟩ := fsl_head hFl (by simp)
 obtain ⟨a0, k0_, hr0, hA0, hc0, hz0⟩ := part_b hH.ne hFl hcln hsm hN (i := 0) (y := p0) (o := oq) rfl rfl
 obtain ⟨a1, k1_, hr1, hA1, hc1, hz1⟩ := part_b hH.ne hFl hcln hsm hN (i := 1) (y := p1) (o := oq + 4) rfl rfl
 obtain ⟨a2, k2_, hr2, hA2, hc2, hz2⟩ := part_b hH.ne hFl hcln hsm hN (i := 2) (y := p2) (o := oq + 8) rfl rfl
 obtain ⟨a3, k3_, hr3, hA3, hc3, hz3⟩ := part_b hH.ne hFl hcln hsm hN (i := 3) (y := p3) (o := oq + 12) rfl rfl
 obtain ⟨a4, k4_, hr4, hA4, hc4, hz4⟩ := part_b hH.ne hFl hcln hsm hN (i := 4) (y := p4) (o := oq + 16) rfl rfl
 obtain ⟨a5, k5_, hr5, hA5, hc5, hz5⟩ := part_b hH.ne hFl hcln hsm hN (i := 5) (y := p5) (o := oq + 20) rfl rfl
 have hq1 := hq.2.1
 have hq2 := hq.2.2
 have hqB : bq ≠ w.heap.size + 1 := by have := hq.1; have := hH.tg.lt; omega
 replace q1 := Lib.hid q1
 replace q2 := Lib.hid q2
 clear hFl hcln hl hsm hlt c0 c1 c2 c3
 have hP0 := hH.start hB2 hG2
 clear hB2
 go_upto_region 2 with (fail)
 refine wp_region_held_drew (S := fun w' => F2 w2 w' g (w.heap.size + 1) ∧ True) (by kernel_rfl) ?_ (fun hHeld => ?_)
 ·(try dsimp only)
  exact ⟨(F2.refl _ _ _).drew, trivial⟩
 refine tkQ 0 ?_
 refine tkQ 1 ?_
 refine tkQ 2 ?_
 refine tkV 3 (v := .agg (fC p0 a0 k0_).toArray) rfl (yieldsF (b := bq) (o := oq) (fun v h => F2.range hA0 h.1 hq1 hq2 hqB)) ?_
 refine tkQ 5 ?_
 refine tkQ 6 ?_
 refine tkQ 7 ?_
 refine tkV 8 (v := .agg (fC p1 a1 k1_).toArray) rfl (yieldsF (b := bq) (o := oq + 4) (fun v h => F2.range hA1 h.1 hq1 hq2 hqB)) ?_
 refine tkQ 10 ?_
 refine tkQ 11 ?_
 refine tkQ 12 ?_
 refine tkV 13 (v := .agg (fC p2 a2 k2_).toArray) rfl (yieldsF (b := bq) (o := oq + 8) (fun v h => F2.range hA2 h.1 hq1 hq2 hqB)) ?_
 refine tkQ 15 ?_
 refine tkQ 16 ?_
 refine tkQ 17 ?_
 refine tkV 18 (v := .agg (fC p3 a3 k3_).toArray) rfl (yieldsF (b := bq) (o := oq + 12) (fun v h => F2.range hA3 h.1 hq1 hq2 hqB)) ?_
 refine tkQ 20 ?_
 refine tkQ 21 ?_
 refine tkQ 22 ?_
 refine tkV 23 (v := .agg (fC p4 a4 k4_).toArray) rfl (yieldsF (b := bq) (o := oq + 16) (fun v h => F2.range hA4 h.1 hq1 hq2 hqB)) ?_
 refine tkQ 25 ?_
 refine tkQ 26 ?_
 refine tkQ 27 ?_
 refine tkV 28 (v := .agg (fC p5 a5 k5_).toArray) rfl (yieldsF (b := bq) (o := oq + 20) (fun v h => F2.range hA5 h.1 hq1 hq2 hqB)) ?_
 refine rdO 4 fun K hK => ?_
 go_simp
 go_at_call 40
 refine (num_b.pb Cod.int_ok hP0 hr0 hc0 hz0).mono ?_
 rintro e z0 ⟨v0, y0, b0_, rfl, ⟨x0, -, -, hv⟩, hP1⟩
 dsimp only
 injection hv with hv
 subst hv
 have hcq := hP1.f2 (gB := w.heap.size + 1)
 clear hP0
 refine hkO hK ⟨hcq, trivial⟩ fun hHeld => ?_
 clear hK K
 refine rdO 9 fun K hK => ?_
 go_simp
 go_at_call 40
 refine (num_b.pb Cod.int_ok hP1 hr1 hc1 hz1).mono ?_
 rintro e z1 ⟨v1, y1, b1_, rfl, ⟨x1, -, -, hv⟩, hP2⟩
 dsimp only
 injection hv with hv
 subst hv
 have hcq := hP2.f2 (gB := w.heap.size + 1)
 clear hP1
 refine hkO hK ⟨hcq, trivial⟩ fun hHeld => ?_
 clear hK K
 refine rdO 14 fun K hK => ?_
 go_simp
 go_at_call 93
 refine (outputs_b.pb (Cod.list_ok Cod.output_ok) hP2 hr2 hc2 hz2).mono ?_
 rintro e z2 ⟨v2, y2, b2_, rfl, ⟨L2, B2, e2, -, hv, -⟩, hP3⟩
 dsimp only
 injection hv with hv
 subst hv
 have hcq := hP3.f2 (gB := w.heap.size + 1)
 clear hP2
 refine hkO hK ⟨hcq, trivial⟩ fun hHeld => ?_
 clear hK K
 refine rdO 19 fun K hK => ?_
 go_simp
 go_at_call 93
 refine (outputs_b.pb (Cod.list_ok Cod.output_ok) hP3 hr3 hc3 hz3).mono ?_
 rintro e z3 ⟨v3, y3, b3_, rfl, ⟨L3, B3, e3, -, hv, -⟩, hP4⟩
 dsimp only
 injection hv with hv
 subst hv
 have hcq := hP4.f2 (gB := w.heap.size + 1)
 clear hP3
 refine hkO hK ⟨hcq, trivial⟩ fun hHeld => ?_
 clear hK K
 refine rdO 24 fun K hK => ?_
 go_simp
 go_at_call 94
 refine (tests_b.pb (Cod.list_ok Cod.test_ok) hP4 hr4 hc4 hz4).mono ?_
 rintro e z4 ⟨v4, y4, b4_, rfl, ⟨L4, B4, e4, -, hv, -⟩, hP5⟩
 dsimp only
 injection hv with hv
 subst hv
 have hcq := hP5.f2 (gB := w.heap.size + 1)
 clear hP4
 refine hkO hK ⟨hcq, trivial⟩ fun hHeld => ?_
 clear hK K
 refine rdO 29 fun K hK => ?_
 go_simp
 go_at_call 41
 refine (str_b.pb Cod.str_ok hP5 hr5 hc5 hz5).mono ?_
 rintro e z5 ⟨v5, y5, b5_, rfl, ⟨s5, -, hv⟩, hP6⟩
 dsimp only
 injection hv with hv
 subst hv
 have hcq := hP6.f2 (gB := w.heap.size + 1)
 clear hP5
 refine hkO hK ⟨hcq, trivial⟩ fun hHeld => ?_
 clear hK K
 refine tkQ 30 ?_
 refine rdO 31 fun K hK => ?_
 have hth := Tgt.there hP6.inv (n := (#[.int .i64 x0, .int .i64 x1, .slice B2 L2.length e2, .slice B3 L3.length e3, .slice B4 L4.length e4, .string s5] : Array Value).size) (Nat.le_refl _)
 have hfin := World.rangeAt_setCells_same z5 (w.heap.size + 1) 0 [.int .i64 x0, .int .i64 x1, .slice B2 L2.length e2, .slice B3 L3.length e3, .slice B4 L4.length e4, .string s5] hth
 refine step_store_mid 29 _ _ rfl rfl (w.heap.size + 1) 0 #[.int .i64 x0, .int .i64 x1, .slice B2 L2.length e2, .slice B3 L3.length e3, .slice B4 L4.length e4, .string s5] rfl rfl hth (by kernel_rfl) (by simp [Value.oneCell']) ?_
 have hcq := hHeld.1.set 0 (#[.int .i64 x0, .int .i64 x1, .slice B2 L2.length e2, .slice B3 L3.length e3, .slice B4 L4.length e4, .string s5] : Array Value).toList
 refine hkO hK ⟨hcq, trivial⟩ fun hHeld => ?_
 clear hK K
 refine wpAnyH_done (by kernel_rfl) ?_ _
 clear hHeld
 repeat' (first | go_skip | go_guarded | go_step)
 refine bodyPost_ret (v := .agg #[.int .i64 x0, .int .i64 x1, .slice B2 L2.length e2, .slice B3 L3.length e3, .slice B4 L4.length e4, .string s5]) (run_res_cell 4 29 (w.heap.size + 1) 0 [.int .i64 x0, .int .i64 x1, .slice B2 L2.length e2, .slice B3 L3.length e3, .slice B4 L4.length e4, .string s5] _ rfl rfl hfin Tryz.underlying29 rfl (by kernel_rfl)) rfl ?_
 exact ⟨_, rfl, hP6.res hH hcl hG2 q1.out q2.out⟩
theorem elem_resL {b b2 bn : Bool} {Ps : List (FV → Prop)} {f : FV} {l fs : List FV} {many : Nat} (hlen : Ps.length = many) (hcl : Cl1 f) (hS : LG b2 Ps l fs bn)
  (q1 : b2 = false → b = false ∧ f.1 = 2 ∧ l = toL f.2.2.2) (q2 : b = false → f.1 = 2 → f.2.2.2.length = many → b2 = false) : (bn = false → b = false ∧ fitR Ps f ∧ fL fs = f) ∧ (b = false → fitR Ps f → bn = false) := by
 refine ⟨fun hb => ?_, fun hb hf => ?_⟩
 ·obtain ⟨k1, k2, rfl⟩ := hS.h1 hb
  obtain ⟨k3, k4, rfl⟩ := q1 k1
  exact ⟨k3, ⟨k4, k2⟩, list_of hcl k4⟩
 ·have hl := hf.2.len
  rw [toL_length, hlen] at hl
  have hb2 := q2 hb hf.1 hl
  obtain ⟨_, _, rfl⟩ := q1 hb2
  exact hS.h2 hb2 hf.2
theorem scope_pb {w1 w2 wx : World} {g gB : Nat} {Z : List Value} {b2 b3 b5 : Bool} {p0 p10 p11 p12 y10 y11 y12 : FV} {s10 s12 : ByteArray} {x11 : Int} (hc0 : Cl1 p0) (hB : BK wx g b5) (h1 : GB w1 w2 g) (h2 : GB w2 wx g)
  (hL : LG b3 [fitS, fitI, fitS] [p10, p11, p12] [y10, y11, y12] b5) (s1 : b3 = false → b2 = false ∧ p0.1 = 2 ∧ [p10, p11, p12] = toL p0.2.2.2) (s2 : b2 = false → p0.1 = 2 → p0.2.2.2.length = 3 → b3 = false)
  (e0 : y10 = fS s10) (e1 : IsInt x11) (e2 : y11 = fI x11) (e3 : y12 = fS s12) (hT : Tgt wx gB 0 Z) (hne : gB ≠ g) (hg : g < w1.heap.size) : PB w1 wx wx.drew g (fun z => Tgt z gB 0 Z) b2 [.scope] [fitR [fitS, fitI, fitS]] [p0] [fL [y10, y11, y12]] [.string s10, .int .i64 x11, .string s12] b5 := by
 obtain ⟨k1, k2⟩ := elem_resL rfl hc0 hL s1 s2
 refine ⟨⟨⟨hB.lt, hB.c, hB.fr⟩, ⟨_, [], [.string s10, .int .i64 x11, .string s12], [], rfl, rfl, ⟨_, rfl, y10, _, [_], _, rfl, rfl, ⟨s10, e0, rfl⟩, y11, _, [_], _, rfl, rfl, ⟨x11, e1, e2, rfl⟩, y12, _, [_], _, rfl, rfl, ⟨s12, e3, rfl⟩, rfl, rfl⟩, rfl, rfl⟩, fun hb => ?_, fun hb hf => k2 hb hf.1, Nat.le_trans h1.size h2.size⟩, okc Cod.scope_ok okn, GB.of ((Below.refl wx.heap.size wx).drew), ⟨hT.lt, hT.at_, hT.fr⟩, fun z z' h hG => h.f2 hG hne, hg⟩
 obtain ⟨k3, k4, k5⟩ := k1 hb
 exact ⟨k3, ⟨k4, trivial⟩, by rw [k5]⟩
theorem rF_f2 {w wx : World} {g b : Nat} {f : FV} {cs : List Value} (h : rF w (fun x => x < w.heap.size ∧ x ≠ g ∧ x ≠ b) f cs) (hG : GB w wx g) : rF wx (fun x => x < wx.heap.size ∧ x ≠ g ∧ x ≠ b) f cs := rF_ok _ _ _ _ _ _ (fun p hp => hG.cell hp.1 hp.2.1) (fun x hx => ⟨Nat.lt_of_lt_of_le hx.1 hG.size, hx.2⟩) h
theorem entry_b : BackS 1000000000 48 .entry (fitR [fitR [fitS, fitI, fitS], fitS, fitI, fitI, fitI, fitI]) := by
 intro w g b f A c h hf hcl hN
 go_enter Tryz.func48, Tryz.ntmps48
 go_upto_region 1 with (fail)
 generalize hx_ : World.alloc (World.alloc w _) _ = w1
 have hH : HD w w1 g b f A c [.string ⟨#[]⟩, .int .i64 0, .string ⟨#[]⟩, .string ⟨#[]⟩, .int .u64 0, .int .i64 0, .int .i64 0, .int .i64 0] := by rw [← hx_]; exact HD.of h hf _ _
 clear hx_
 obtain ⟨c0, c1, c2, c3⟩ := hH.cells
 have hlt := hH.lt
 repeat' (first | go_skip | go_guarded | go_step)
 refine (bparts_any w.heap.size w1 g b f A c 6 hH.bk hH.hb.size hH.rf hcl (by omega) (by omega) hN).mono ?_
 rintro e w2 ⟨l, A2, k2, rfl, b2, hl, hFl, hcln, hB2, hG2, hsm, q1, q2⟩
 dsimp only
 obtain ⟨p0, p1, p2, p3, p4, p5, rfl⟩ := list6 hl
 obtain ⟨bq, oq, rfl, hq⟩ := fsl_head hFl (by simp)
 obtain ⟨a0, k0_, hr0, hA0, hc0, hz0⟩ := part_b hH.ne hFl hcln hsm hN (i := 0) (y := p0) (o := oq) rfl rfl
 obtain ⟨a1, k1_, hr1, hA1, hc1, hz1⟩ := part_b hH.ne hFl hcln hsm hN (i := 1) (y := p1) (o := oq + 4) rfl rfl
 obtain ⟨a2, k2_, hr2, hA2, hc2, hz2⟩ := part_b hH.ne hFl hcln hsm hN (i := 2) (y := p2) (o := oq + 8) rfl rfl
 obtain ⟨a3, k3_, hr3, hA3, hc3, hz3⟩ := part_b hH.ne hFl hcln hsm hN (i := 3) (y := p3) (o := oq + 12) rfl rfl
 obtain ⟨a4, k4_, hr4, hA4, hc4, hz4⟩ := part_b hH.ne hFl hcln hsm hN (i := 4) (y := p4) (o := oq + 16) rfl rfl
 obtain ⟨a5, k5_, hr5, hA5, hc5, hz5⟩ := part_b hH.ne hFl hcln hsm hN (i := 5) (y := p5) (o := oq + 20) rfl rfl
 have hq1 := hq.2.1
 have hq2 := hq.2.2
 have hqB : bq ≠ w.heap.size + 1 := by have := hq.1; have := hH.tg.lt; omega
 replace q1 := Lib.hid q1
 replace q2 := Lib.hid q2
 clear hFl hcln hl hsm hlt c0 c1 c2 c3
 have hgw := hH.lt
 have hlt1 := hH.tg.lt
 have hs12 := hG2.size
 have hs01 := hH.hb.size
 have hg1 : g < w1.heap.size := by omega
 have hgB : w.heap.size + 1 ≠ g := by omega
 have hr0 : rF w2 (fun x => x < w2.heap.size ∧ x ≠ g) p0 (fC p0 a0 k0_) := rF_ok _ _ _ _ _ _ (fun _ _ => rfl) (fun x hx => ⟨hx.1, hx.2.1⟩) hr0
 repeat' (first | (refine wpList_load_mid rfl 98 _ rfl bq oq rfl (fC p0 a0 k0_) _ hA0 Tryz.underlying98 rfl fld_sz ?_) | go_skip | go_guarded | go_step)
 refine (bparts_any w2.heap.size w2 g b2 p0 a0 k0_ 3 hB2 (Nat.le_refl _) hr0 hc0 (by omega) (by omega) hz0).mono ?_
 rintro e w3 ⟨l3, A3, k3, rfl, b3, hl3, hFl3, hcln3, hB3, hG3, hsm3, s1, s2⟩
 dsimp only
 obtain ⟨p10, p11, p12, rfl⟩ := list3 hl3
 obtain ⟨br, or_, rfl, hqr⟩ := fsl_head hFl3 (by simp)
 have hs23 := hG3.size
 obtain ⟨a10, k10_, hr10, hA10, hc10, hz10⟩ := part_at hFl3 hcln3 hsm3 hz0 (i := 0) (y := p10) (o := or_) rfl rfl
 obtain ⟨a11, k11_, hr11, hA11, hc11, hz11⟩ := part_at hFl3 hcln3 hsm3 hz0 (i := 1) (y := p11) (o := or_ + 4) rfl rfl
 obtain ⟨a12, k12_, hr12, hA12, hc12, hz12⟩ := part_at hFl3 hcln3 hsm3 hz0 (i := 2) (y := p12) (o := or_ + 8) rfl rfl
 have hA1 := range_gb hA1 hG3 hq1 hq2
 have hr1 := rF_f2 hr1 hG3
 have hA2 := range_gb hA2 hG3 hq1 hq2
 have hr2 := rF_f2 hr2 hG3
 have hA3 := range_gb hA3 hG3 hq1 hq2
 have hr3 := rF_f2 hr3 hG3
 have hA4 := range_gb hA4 hG3 hq1 hq2
 have hr4 := rF_f2 hr4 hG3
 have hA5 := range_gb hA5 hG3 hq1 hq2
 have hr5 := rF_f2 hr5 hG3
 have hT3 := (hH.tg.f2 hG2 hgB).f2 hG3 hgB
 have hBd : BK w3.drew g b3 := ⟨hB3.lt, hB3.c, hB3.fr⟩
 have hr1_ := hqr.2.1
 have hr2_ := hqr.2.2
 replace s1 := Lib.hid s1
 replace s2 := Lib.hid s2
 clear hFl3 hcln3 hl3 hsm3 hB2 hA0 hr0
 go_upto_region 3 with (fail)
 go_cut [7] (fun u7 wx => ∃ (wq : World) (sc : Nat) (y10 y11 y12 : FV) (s10 s12 : ByteArray) (x11 : Int) (b5 : Bool), wq = wx ∧ u7 = .pointer (some ⟨sc, 0, none⟩) ∧ w3.heap.size ≤ sc ∧ Tgt wx sc 0 [.string s10, .int .i64 x11, .string s12] ∧
  BK wx g b5 ∧ GB w3 wx g ∧ LG b3 [fitS, fitI, fitS] [p10, p11, p12] [y10, y11, y12] b5 ∧ y10 = fS s10 ∧ IsInt x11 ∧ y11 = fI x11 ∧ y12 = fS s12)
 case first =>
  refine wp_region_held_drew (S := fun w' => GB w3 w' g ∧ True) (by kernel_rfl) ?_ (fun hHeld => ?_)
  ·(try dsimp only)
   exact ⟨GB.of ((Below.refl w3.heap.size w3).drew), trivial⟩
  refine tkQ 0 ?_
  refine tkQ 1 ?_
  refine tkQ 2 ?_
  refine tkV 3 (v := .agg (fC p10 a10 k10_).toArray) rfl (yieldsF (b := br) (o := or_) (fun v h => range_gb hA10 h.1 hr1_ hr2_)) ?_
  refine tkQ 5 ?_
  refine tkQ 6 ?_
  refine tkQ 7 ?_
  refine tkV 8 (v := .agg (fC p11 a11 k11_).toArray) rfl (yieldsF (b := br) (o := or_ + 4) (fun v h => range_gb hA11 h.1 hr1_ hr2_)) ?_
  refine tkQ 10 ?_
  refine tkQ 11 ?_
  refine tkQ 12 ?_
  refine tkV 13 (v := .agg (fC p12 a12 k12_).toArray) rfl (yieldsF (b := br) (o := or_ + 8) (fun v h => range_gb hA12 h.1 hr1_ hr2_)) ?_
  refine rdN [4, 16] ?_
  refine rdC (fun K hK => ?_) ?_
  ·go_simp
   go_at_call 41
   refine (str_b.lg (LG.nil b3) hBd (rF_gb hr10 hHeld.1) hc10 hz10).mono ?_
   rintro e z10 ⟨v10, y10, b10_, rfl, ⟨s10, he10, hv⟩, hB10_, hG10_, hL1⟩
   dsimp only
   injection hv with hv
   subst hv
   have hcq := hHeld.1.trans hG10_
   refine hkO hK ⟨hcq, trivial⟩ fun hHeld => ?_
   clear hK K
   refine rdN [9, 16] ?_
   refine rdC (fun K hK => ?_) ?_
   ·go_simp
    go_at_call 40
    refine (num_b.lg hL1 hB10_ (rF_gb hr11 hHeld.1) hc11 hz11).mono ?_
    rintro e z11 ⟨v11, y11, b11_, rfl, ⟨x11, hx11, he11, hv⟩, hB11_, hG11_, hL2⟩
    dsimp only
    injection hv with hv
    subst hv
    have hcq := hHeld.1.trans hG11_
    refine hkO hK ⟨hcq, trivial⟩ fun hHeld => ?_
    clear hK K
    refine rdN [14, 16] ?_
    refine rdC (fun K hK => ?_) ?_
    ·go_simp
     go_at_call 41
     refine (str_b.lg hL2 hB11_ (rF_gb hr12 hHeld.1) hc12 hz12).mono ?_
     rintro e z12 ⟨v12, y12, b12_, rfl, ⟨s12, he12, hv⟩, hB12_, hG12_, hL3⟩
     dsimp only
     injection hv with hv
     subst hv
     have hcq := hHeld.1.trans hG12_
     refine hkO hK ⟨hcq, trivial⟩ fun hHeld => ?_
     clear hK K
     refine tkQ 15 ?_
     refine rdO 16 fun K hK => ?_
     go_simp
     generalize hxa : World.alloc _ _ = zA
     have hal : Below z12.heap.size z12 zA := by rw [← hxa]; exact (Below.refl _ _).alloc (Nat.le_refl _) _
     have hTv : Tgt zA z12.heap.size 0 [.string ⟨#[]⟩, .int .i64 0, .string ⟨#[]⟩] := by rw [← hxa]; exact Tgt.new z12 ([.string ⟨#[]⟩, .int .i64 0, .string ⟨#[]⟩]).toArray _
     obtain ⟨gv, hgv⟩ : ∃ gv, gv = z12.heap.size := ⟨_, rfl⟩
     rw [← hgv] at hTv ⊢
     have hgvg : gv ≠ g := by have := hB12_.lt; omega
     have hgv2 : w3.heap.size ≤ gv := by rw [hgv]; exact hHeld.1.size
     have hBA := hB12_.below hal
     have hcq := hHeld.1.trans (GB.of hal)
     clear hxa
     replace hgv := Lib.hid hgv
     refine hkO hK ⟨hcq, trivial⟩ fun hHeld => ?_
     clear hK K
     refine rdO 17 fun K hK => ?_
     have hth := hTv.there (n := (#[.string s10, .int .i64 x11, .string s12] : Array Value).size) (Nat.le_refl _)
     refine step_store_mid 37 _ _ rfl rfl gv 0 #[.string s10, .int .i64 x11, .string s12] rfl rfl hth (by kernel_rfl) (by simp [Value.oneCell']) ?_
     have hcq := GB.setv hHeld.1 hgv2 0 (#[.string s10, .int .i64 x11, .string s12] : Array Value).toList
     refine hkO hK ⟨hcq, trivial⟩ fun hHeld => ?_
     clear hK K
     refine wpAnyH_done (by kernel_rfl) ?_ _
     have hGl := hHeld.1
     clear hHeld
     repeat' ((fail_if_success at_builtin); first | go_skip | go_guarded | go_step)
     go_meet
     case rel => exact ⟨_, gv, y10, y11, y12, s10, s12, x11, b12_, rfl, (by first | rfl | (rw [hgv.out]) | (rw [hgv.out]; rfl)), hgv2, hTv.setAll rfl, hBA.setv hgvg, hGl, hL3, he10, hx11, he11, he12⟩
    refine rdC (fun K hK => ?_) ?_
    ·go_simp
     generalize hxa : World.alloc _ _ = zA
     have hal : Below z11.heap.size z11 zA := by rw [← hxa]; exact (Below.refl _ _).alloc (Nat.le_refl _) _
     have hTv : Tgt zA z11.heap.size 0 [.string ⟨#[]⟩, .int .i64 0, .string ⟨#[]⟩] := by rw [← hxa]; exact Tgt.new z11 ([.string ⟨#[]⟩, .int .i64 0, .string ⟨#[]⟩]).toArray _
     obtain ⟨gv, hgv⟩ : ∃ gv, gv = z11.heap.size := ⟨_, rfl⟩
     rw [← hgv] at hTv ⊢
     have hgvg : gv ≠ g := by have := hB11_.lt; omega
     have hgv2 : w3.heap.size ≤ gv := by rw [hgv]; exact hHeld.1.size
     have hBA := hB11_.below hal
     have hcq := hHeld.1.trans (GB.of hal)
     clear hxa
     replace hgv := Lib.hid hgv
     refine hkO hK ⟨hcq, trivial⟩ fun hHeld => ?_
     clear hK K
     refine rdO 14 fun K hK => ?_
     go_simp
     go_at_call 41
     refine (str_b.lg hL2 hBA (rF_gb hr12 hHeld.1) hc12 hz12).mono ?_
     rintro e z12 ⟨v12, y12, b12_, rfl, ⟨s12, he12, hv⟩, hB12_, hG12_, hL3⟩
     dsimp only
     injection hv with hv
     subst hv
     replace hTv := hTv.f2 hG12_ hgvg
     have hcq := hHeld.1.trans hG12_
     refine hkO hK ⟨hcq, trivial⟩ fun hHeld => ?_
     clear hK K
     refine tkQ 15 ?_
     refine rdO 17 fun K hK => ?_
     have hth := hTv.there (n := (#[.string s10, .int .i64 x11, .string s12] : Array Value).size) (Nat.le_refl _)
     refine step_store_mid 37 _ _ rfl rfl gv 0 #[.string s10, .int .i64 x11, .string s12] rfl rfl hth (by kernel_rfl) (by simp [Value.oneCell']) ?_
     have hcq := GB.setv hHeld.1 hgv2 0 (#[.string s10, .int .i64 x11, .string s12] : Array Value).toList
     refine hkO hK ⟨hcq, trivial⟩ fun hHeld => ?_
     clear hK K
     refine wpAnyH_done (by kernel_rfl) ?_ _
     have hGl := hHeld.1
     clear hHeld
     repeat' ((fail_if_success at_builtin); first | go_skip | go_guarded | go_step)
     go_meet
     case rel => exact ⟨_, gv, y10, y11, y12, s10, s12, x11, b12_, rfl, (by first | rfl | (rw [hgv.out]) | (rw [hgv.out]; rfl)), hgv2, hTv.setAll rfl, hB12_.setv hgvg, hGl, hL3, he10, hx11, he11, he12⟩
    exact AllReadyH.nil
   refine rdC (fun K hK => ?_) ?_
   ·go_simp
    generalize hxa : World.alloc _ _ = zA
    have hal : Below z10.heap.size z10 zA := by rw [← hxa]; exact (Below.refl _ _).alloc (Nat.le_refl _) _
    have hTv : Tgt zA z10.heap.size 0 [.string ⟨#[]⟩, .int .i64 0, .string ⟨#[]⟩] := by rw [← hxa]; exact Tgt.new z10 ([.string ⟨#[]⟩, .int .i64 0, .string ⟨#[]⟩]).toArray _
    obtain ⟨gv, hgv⟩ : ∃ gv, gv = z10.heap.size := ⟨_, rfl⟩
    rw [← hgv] at hTv ⊢
    have hgvg : gv ≠ g := by have := hB10_.lt; omega
    have hgv2 : w3.heap.size ≤ gv := by rw [hgv]; exact hHeld.1.size
    have hBA := hB10_.below hal
    have hcq := hHeld.1.trans (GB.of hal)
    clear hxa
    replace hgv := Lib.hid hgv
    refine hkO hK ⟨hcq, trivial⟩ fun hHeld => ?_
    clear hK K
    refine rdO 9 fun K hK => ?_
    go_simp
    go_at_call 40
    refine (num_b.lg hL1 hBA (rF_gb hr11 hHeld.1) hc11 hz11).mono ?_
    rintro e z11 ⟨v11, y11, b11_, rfl, ⟨x11, hx11, he11, hv⟩, hB11_, hG11_, hL2⟩
    dsimp only
    injection hv with hv
    subst hv
    replace hTv := hTv.f2 hG11_ hgvg
    have hcq := hHeld.1.trans hG11_
    refine hkO hK ⟨hcq, trivial⟩ fun hHeld => ?_
    clear hK K
    refine rdO 14 fun K hK => ?_
    go_simp
    go_at_call 41
    refine (str_b.lg hL2 hB11_ (rF_gb hr12 hHeld.1) hc12 hz12).mono ?_
    rintro e z12 ⟨v12, y12, b12_, rfl, ⟨s12, he12, hv⟩, hB12_, hG12_, hL3⟩
    dsimp only
    injection hv with hv
    subst hv
    replace hTv := hTv.f2 hG12_ hgvg
    have hcq := hHeld.1.trans hG12_
    refine hkO hK ⟨hcq, trivial⟩ fun hHeld => ?_
    clear hK K
    refine tkQ 15 ?_
    refine rdO 17 fun K hK => ?_
    have hth := hTv.there (n := (#[.string s10, .int .i64 x11, .string s12] : Array Value).size) (Nat.le_refl _)
    refine step_store_mid 37 _ _ rfl rfl gv 0 #[.string s10, .int .i64 x11, .string s12] rfl rfl hth (by kernel_rfl) (by simp [Value.oneCell']) ?_
    have hcq := GB.setv hHeld.1 hgv2 0 (#[.string s10, .int .i64 x11, .string s12] : Array Value).toList
    refine hkO hK ⟨hcq, trivial⟩ fun hHeld => ?_
    clear hK K
    refine wpAnyH_done (by kernel_rfl) ?_ _
    have hGl := hHeld.1
    clear hHeld
    repeat' ((fail_if_success at_builtin); first | go_skip | go_guarded | go_step)
    go_meet
    case rel => exact ⟨_, gv, y10, y11, y12, s10, s12, x11, b12_, rfl, (by first | rfl | (rw [hgv.out]) | (rw [hgv.out]; rfl)), hgv2, hTv.setAll rfl, hB12_.setv hgvg, hGl, hL3, he10, hx11, he11, he12⟩
   exact AllReadyH.nil
  refine rdC (fun K hK => ?_) ?_
  ·go_simp
   generalize hxa : World.drew _ = zA
   have hal : Below w3.heap.size w3 zA := by rw [← hxa]; exact ((Below.refl _ _).alloc (Nat.le_refl _) _).drew
   have hTv : Tgt zA w3.heap.size 0 [.string ⟨#[]⟩, .int .i64 0, .string ⟨#[]⟩] := by
    rw [← hxa]
    have q := Tgt.new w3 ([.string ⟨#[]⟩, .int .i64 0, .string ⟨#[]⟩]).toArray 37
    exact ⟨q.lt, q.at_, q.fr⟩
   obtain ⟨gv, hgv⟩ : ∃ gv, gv = w3.heap.size := ⟨_, rfl⟩
   rw [← hgv] at hTv ⊢
   have hgvg : gv ≠ g := by have h9 : g < w3.heap.size := hBd.lt; omega
   have hgv2 : w3.heap.size ≤ gv := Nat.le_of_eq hgv.symm
   have hBA := BK.below (⟨hBd.lt, hBd.c, hBd.fr⟩ : BK w3 g b3) hal
   have hcq : GB w3 zA g := GB.of hal
   clear hxa
   replace hgv := Lib.hid hgv
   refine hkO hK ⟨hcq, trivial⟩ fun hHeld => ?_
   clear hK K
   refine rdO 4 fun K hK => ?_
   go_simp
   go_at_call 41
   refine (str_b.lg (LG.nil b3) hBA (rF_gb hr10 hHeld.1) hc10 hz10).mono ?_
   rintro e z10 ⟨v10, y10, b10_, rfl, ⟨s10, he10, hv⟩, hB10_, hG10_, hL1⟩
   dsimp only
   injection hv with hv
   subst hv
   replace hTv := hTv.f2 hG10_ hgvg
   have hcq := hHeld.1.trans hG10_
   refine hkO hK ⟨hcq, trivial⟩ fun hHeld => ?_
   clear hK K
   refine rdO 9 fun K hK => ?_
   go_simp
   go_at_call 40
   refine (num_b.lg hL1 hB10_ (rF_gb hr11 hHeld.1) hc11 hz11).mono ?_
   rintro e z11 ⟨v11, y11, b11_, rfl, ⟨x11, hx11, he11, hv⟩, hB11_, hG11_, hL2⟩
   dsimp only
   injection hv with hv
   subst hv
   replace hTv := hTv.f2 hG11_ hgvg
   have hcq := hHeld.1.trans hG11_
   refine hkO hK ⟨hcq, trivial⟩ fun hHeld => ?_
   clear hK K
   refine rdO 14 fun K hK => ?_
   go_simp
   go_at_call 41
   refine (str_b.lg hL2 hB11_ (rF_gb hr12 hHeld.1) hc12 hz12).mono ?_
   rintro e z12 ⟨v12, y12, b12_, rfl, ⟨s12, he12, hv⟩, hB12_, hG12_, hL3⟩
   dsimp only
   injection hv with hv
   subst hv
   replace hTv := hTv.f2 hG12_ hgvg
   have hcq := hHeld.1.trans hG12_
   refine hkO hK ⟨hcq, trivial⟩ fun hHeld => ?_
   clear hK K
   refine tkQ 15 ?_
   refine rdO 17 fun K hK => ?_
   have hth := hTv.there (n := (#[.string s10, .int .i64 x11, .string s12] : Array Value).size) (Nat.le_refl _)
   refine step_store_mid 37 _ _ rfl rfl gv 0 #[.string s10, .int .i64 x11, .string s12] rfl rfl hth (by kernel_rfl) (by simp [Value.oneCell']) ?_
   have hcq := GB.setv hHeld.1 hgv2 0 (#[.string s10, .int .i64 x11, .string s12] : Array Value).toList
   refine hkO hK ⟨hcq, trivial⟩ fun hHeld => ?_
   clear hK K
   refine wpAnyH_done (by kernel_rfl) ?_ _
   have hGl := hHeld.1
   clear hHeld
   repeat' ((fail_if_success at_builtin); first | go_skip | go_guarded | go_step)
   go_meet
   case rel => exact ⟨_, gv, y10, y11, y12, s10, s12, x11, b12_, rfl, (by first | rfl | (rw [hgv.out]) | (rw [hgv.out]; rfl)), hgv2, hTv.setAll rfl, hB12_.setv hgvg, hGl, hL3, he10, hx11, he11, he12⟩
  exact AllReadyH.nil
 case rest =>
  obtain ⟨wq, sc, y10, y11, y12, s10, s12, x11, b5, rfl, rfl, hsc, hTx, hBx, hGx, hLx, hy10, hx11, hy11, hy12⟩ := hcut
  have hTx3 := hT3.f2 hGx hgB
  have hP1 := scope_pb hc0 hBx (hG2.trans hG3) hGx hLx s1.out s2.out hy10 hx11 hy11 hy12 hTx3 hgB hg1
  have hGw := (hG2.trans hG3).trans hGx
  have hscx := hTx.lt
  have hsc2 : sc ≠ g := by omega
  have hsc3 : sc ≠ w.heap.size + 1 := by omega
  have hAs : wq.rangeAt sc 0 [.string s10, .int .i64 x11, .string s12] := fun j u hj => hTx.at_ j u hj
  have hq1x : bq < wq.heap.size := by have := hGx.size; omega
  have hA1 := range_gb hA1 hGx (by omega) hq2
  have hr1 := rF_f2 hr1 hGx
  have hA2 := range_gb hA2 hGx (by omega) hq2
  have hr2 := rF_f2 hr2 hGx
  have hA3 := range_gb hA3 hGx (by omega) hq2
  have hr3 := rF_f2 hr3 hGx
  have hA4 := range_gb hA4 hGx (by omega) hq2
  have hr4 := rF_f2 hr4 hGx
  have hA5 := range_gb hA5 hGx (by omega) hq2
  have hr5 := rF_f2 hr5 hGx
  clear hT3 hBd hTx hBx
  go_upto_region 4 with (fail)
  refine wp_region_held_drew (S := fun w' => F2 wq w' g (w.heap.size + 1) ∧ True) (by kernel_rfl) ?_ (fun hHeld => ?_)
  ·(try dsimp only)
   exact ⟨(F2.refl _ _ _).drew, trivial⟩
  refine tkV 0 (v := .agg #[.string s10, .int .i64 x11, .string s12]) rfl (yieldsIf_load_mid (by rfl) 37 _ rfl sc 0 rfl [.string s10, .int .i64 x11, .string s12] _ (fun v h => F2.range hAs h.1 hscx hsc2 hsc3) Tryz.underlying37 rfl (by kernel_rfl)) ?_
  refine tkQ 1 ?_
  refine tkQ 2 ?_
  refine tkQ 3 ?_
  refine tkV 4 (v := .agg (fC p1 a1 k1_).toArray) rfl (yieldsF (b := bq) (o := oq + 4) (fun v h => F2.range hA1 h.1 hq1x hq2 hqB)) ?_
  refine tkQ 6 ?_
  refine tkQ 7 ?_
  refine tkQ 8 ?_
  refine tkV 9 (v := .agg (fC p2 a2 k2_).toArray) rfl (yieldsF (b := bq) (o := oq + 8) (fun v h => F2.range hA2 h.1 hq1x hq2 hqB)) ?_
  refine tkQ 12 ?_
  refine tkQ 13 ?_
  refine tkQ 14 ?_
  refine tkV 15 (v := .agg (fC p3 a3 k3_).toArray) rfl (yieldsF (b := bq) (o := oq + 12) (fun v h => F2.range hA3 h.1 hq1x hq2 hqB)) ?_
  refine tkQ 17 ?_
  refine tkQ 18 ?_
  refine tkQ 19 ?_
  refine tkV 20 (v := .agg (fC p4 a4 k4_).toArray) rfl (yieldsF (b := bq) (o := oq + 16) (fun v h => F2.range hA4 h.1 hq1x hq2 hqB)) ?_
  refine tkQ 22 ?_
  refine tkQ 23 ?_
  refine tkQ 24 ?_
  refine tkV 25 (v := .agg (fC p5 a5 k5_).toArray) rfl (yieldsF (b := bq) (o := oq + 20) (fun v h => F2.range hA5 h.1 hq1x hq2 hqB)) ?_
  refine rdO 5 fun K hK => ?_
  go_simp
  go_at_call 41
  refine (str_b.pb Cod.str_ok hP1 hr1 hc1 hz1).mono ?_
  rintro e z1 ⟨v1, y1, b1_, rfl, ⟨s1, -, hv⟩, hP2⟩
  dsimp only
  injection hv with hv
  subst hv
  have hcq := hP2.f2 (gB := w.heap.size + 1)
  clear hP1
  refine hkO hK ⟨hcq, trivial⟩ fun hHeld => ?_
  clear hK K
  refine rdO 10 fun K hK => ?_
  go_simp
  go_at_call 40
  refine (numd_pb hP2 hr2 hc2 hz2).mono ?_
  rintro e z2 ⟨x2, y2, b2_, rfl, hP3⟩
  dsimp only
  have hcq := hP3.f2 (gB := w.heap.size + 1)
  clear hP2
  refine hkO hK ⟨hcq, trivial⟩ fun hHeld => ?_
  clear hK K
  refine tkQ 11 ?_
  refine rdO 16 fun K hK => ?_
  go_simp
  go_at_call 40
  refine (num_b.pb Cod.int_ok hP3 hr3 hc3 hz3).mono ?_
  rintro e z3 ⟨v3, y3, b3_, rfl, ⟨x3, -, -, hv⟩, hP4⟩
  dsimp only
  injection hv with hv
  subst hv
  have hcq := hP4.f2 (gB := w.heap.size + 1)
  clear hP3
  refine hkO hK ⟨hcq, trivial⟩ fun hHeld => ?_
  clear hK K
  refine rdO 21 fun K hK => ?_
  go_simp
  go_at_call 40
  refine (num_b.pb Cod.int_ok hP4 hr4 hc4 hz4).mono ?_
  rintro e z4 ⟨v4, y4, b4_, rfl, ⟨x4, -, -, hv⟩, hP5⟩
  dsimp only
  injection hv with hv
  subst hv
  have hcq := hP5.f2 (gB := w.heap.size + 1)
  clear hP4
  refine hkO hK ⟨hcq, trivial⟩ fun hHeld => ?_
  clear hK K
  refine rdO 26 fun K hK => ?_
  go_simp
  go_at_call 40
  refine (num_b.pb Cod.int_ok hP5 hr5 hc5 hz5).mono ?_
  rintro e z5 ⟨v5, y5, b5_, rfl, ⟨x5, -, -, hv⟩, hP6⟩
  dsimp only
  injection hv with hv
  subst hv
  have hcq := hP6.f2 (gB := w.heap.size + 1)
  clear hP5
  refine hkO hK ⟨hcq, trivial⟩ fun hHeld => ?_
  clear hK K
  refine tkQ 27 ?_
  refine rdO 28 fun K hK => ?_
  have hth := Tgt.there hP6.inv (n := (#[.string s10, .int .i64 x11, .string s12, .string s1, .int .u64 (IntKind.u64.wrap x2), .int .i64 x3, .int .i64 x4, .int .i64 x5] : Array Value).size) (Nat.le_refl _)
  have hfin := World.rangeAt_setCells_same z5 (w.heap.size + 1) 0 [.string s10, .int .i64 x11, .string s12, .string s1, .int .u64 (IntKind.u64.wrap x2), .int .i64 x3, .int .i64 x4, .int .i64 x5] hth
  refine step_store_mid 41 _ _ rfl rfl (w.heap.size + 1) 0 #[.string s10, .int .i64 x11, .string s12, .string s1, .int .u64 (IntKind.u64.wrap x2), .int .i64 x3, .int .i64 x4, .int .i64 x5] rfl rfl hth (by kernel_rfl) (by simp [Value.oneCell']) ?_
  have hcq := hHeld.1.set 0 (#[.string s10, .int .i64 x11, .string s12, .string s1, .int .u64 (IntKind.u64.wrap x2), .int .i64 x3, .int .i64 x4, .int .i64 x5] : Array Value).toList
  refine hkO hK ⟨hcq, trivial⟩ fun hHeld => ?_
  clear hK K
  refine wpAnyH_done (by kernel_rfl) ?_ _
  clear hHeld
  repeat' (first | go_skip | go_guarded | go_step)
  refine bodyPost_ret (v := .agg #[.string s10, .int .i64 x11, .string s12, .string s1, .int .u64 (IntKind.u64.wrap x2), .int .i64 x3, .int .i64 x4, .int .i64 x5]) (run_res_cell 4 41 (w.heap.size + 1) 0 [.string s10, .int .i64 x11, .string s12, .string s1, .int .u64 (IntKind.u64.wrap x2), .int .i64 x3, .int .i64 x4, .int .i64 x5] _ rfl rfl hfin Tryz.underlying41 rfl (by kernel_rfl)) rfl ?_
  exact ⟨_, rfl, hP6.res hH hcl hGw q1.out q2.out⟩
theorem BK.seto {w : World} {g gv o : Nat} {b : Bool} (h : BK w g b) (hne : gv ≠ g) {vs : List Value} : BK (w.setCells gv o vs) g b :=
 ⟨by rw [setCells_size2]; exact h.lt, (World.cell?_setCells_out gv vs o w ⟨g, 0, none⟩ (fun e => absurd e (fun e => hne e.symm))).trans h.c, fun j => by rw [frozen_setCells]; exact h.fr j⟩
theorem Tgt.put {w : World} {b : Nat} {cs zc zr c : List Value} (h : Tgt w b 0 (cs ++ (zc ++ zr))) (hl : zc.length = c.length) : Tgt (w.setCells b cs.length c) b 0 ((cs ++ c) ++ zr) := by
 have hr := h.right (k := cs.length) (by omega)
 have hth : w.there b cs.length c.length := hr.left.there (by omega)
 have hin := World.rangeAt_setCells_same w b cs.length c hth
 refine ⟨by rw [setCells_size2]; exact h.lt, fun j u hj => ?_, fun j => by rw [frozen_setCells]; exact h.fr j⟩
 rw [Nat.zero_add]
 by_cases h1 : j < cs.length
 ·rw [List.append_assoc, List.getElem?_append_left h1] at hj
  have h2 := h.left.at_ j u hj
  rw [Nat.zero_add] at h2
  exact (World.cell?_setCells_out b c cs.length w ⟨b, j, none⟩ (fun _ _ => Or.inl h1)).trans h2
 ·by_cases h2 : j < cs.length + c.length
  ·rw [List.append_assoc, List.getElem?_append_right (by omega), List.getElem?_append_left (by omega)] at hj
   have := hin _ u hj
   rwa [show cs.length + (j - cs.length) = j by omega] at this
  ·rw [List.getElem?_append_right (by rw [List.length_append]; omega), List.length_append] at hj
   have h3 := (hr.right (k := cs.length + c.length) (by omega)).at_ _ u hj
   rw [show cs.length + c.length + (j - (cs.length + c.length)) = j by omega] at h3
   exact (World.cell?_setCells_out b c cs.length w ⟨b, j, none⟩ (fun _ _ => Or.inr (by show cs.length + c.length ≤ j; omega))).trans h3
structure PE (w1 z : World) (g gv : Nat) (b2 : Bool) (Cs : List Cod) (Ps : List (FV → Prop)) (ps fs : List FV) (cs zr : List Value) (bi : Bool) : Prop where
 bk : BK z g bi
 tg : Tgt z gv 0 (cs ++ zr)
 ty : RecL Cs z (fun x => w1.heap.size ≤ x ∧ x < z.heap.size ∧ x ≠ gv) fs cs
 lg : LG b2 Ps ps fs bi
 gb : GB w1 z g
 lo : w1.heap.size ≤ gv
section
variable {w1 z z' : World} {g gv : Nat} {b2 bi b' : Bool} {Cs : List Cod} {Ps : List (FV → Prop)} {ps fs : List FV} {cs zc zr c : List Value} {C : Cod} {P : FV → Prop} {p y : FV}
theorem PE.step (h : PE w1 z g gv b2 Cs Ps ps fs cs (zc ++ zr) bi) (hCs : ∀ D ∈ Cs, Cod.Ok D) (hC : C.Ok) (hg : g < w1.heap.size) (hB : BK z' g b') (hG : GB z z' g) (hrp : C.rp z' (Fresh z z') y c)
  (k1 : b' = false → bi = false ∧ P p ∧ y = p) (k2 : bi = false → P p → b' = false) (hl : zc.length = c.length) {k : Nat} (hk : k = cs.length) : PE w1 (z'.setCells gv k c) g gv b2 (Cs ++ [C]) (Ps ++ [P]) (ps ++ [p]) (fs ++ [y]) (cs ++ c) zr b' := by
 subst hk
 have hlo := h.lo
 have hne : gv ≠ g := by omega
 have hs := h.gb.size
 have hs2 := hG.size
 have hlt := h.tg.lt
 have hcell : ∀ q : Addr, q.block ≠ gv → (z'.setCells gv cs.length c).cell? q = z'.cell? q := fun q hq => World.cell?_setCells_out gv c cs.length z' q (fun e => absurd e hq)
 refine ⟨hB.seto hne, (h.tg.f2 hG hne).put hl, RecL.snoc ?_ ?_, h.lg.step k1 k2, GB.setv (h.gb.trans hG) hlo _ _, hlo⟩
 ·refine hC.map _ _ _ _ _ _ (fun q hq => hcell q (by have := hq.1; omega)) (fun x hx => ⟨Nat.le_trans hs hx.1, by rw [setCells_size2]; exact hx.2, by have := hx.1; omega⟩) hrp
 ·refine h.ty.map hCs (fun q hq => ?_) (fun x hx => ⟨hx.1, by rw [setCells_size2]; exact Nat.lt_of_lt_of_le hx.2.1 hs2, hx.2.2⟩)
  obtain ⟨j1, j2, j3⟩ := hq
  exact (hcell q j3).trans (hG.cell j2 (by omega))
theorem PE.fit {f : Flds} (h : PE w1 z g gv b2 evC evP ps fs cs zr bi) (q1 : b2 = false → false = false ∧ (2 : Int) = 2 ∧ ps = toL f) (q2 : false = false → (2 : Int) = 2 → f.length = 16 → b2 = false) : (bi = false → FitL evP (toL f) ∧ fs = toL f) ∧ (bi = true → ¬ FitL evP (toL f)) := by
 refine ⟨fun hb => ?_, fun hb hf => ?_⟩
 ·obtain ⟨k1, k2, rfl⟩ := h.lg.h1 hb
  obtain ⟨_, _, rfl⟩ := q1 k1
  exact ⟨k2, rfl⟩
 ·have hl := hf.len
  rw [toL_length] at hl
  have hb2 := q2 rfl rfl hl
  obtain ⟨_, _, rfl⟩ := q1 hb2
  have := h.lg.h2 hb2 hf
  rw [hb] at this
  cases this
end
theorem PE.start {w1 z : World} {g gv : Nat} {b2 bi : Bool} {p0 p1 p2 p3 p4 p5 p6 p7 p8 y0 y1 y2 y3 y4 y5 y6 y7 y8 : FV} {x0 x1 x4 x5 x6 : Int} {s2 s3 s7 s8 : ByteArray} {zr : List Value} (hB : BK z g bi) (hG : GB w1 z g) (hlo : w1.heap.size ≤ gv) (hT : Tgt z gv 0 ([.int .i64 x0, .int .i64 x1, .string s2, .string s3, .int .i64 x4, .int .i64 x5, .int .i64 x6, .string s7, .string s8] ++ zr))
  (hL : LG b2 [fitI, fitI, fitS, fitS, fitI, fitI, fitI, fitS, fitS] [p0, p1, p2, p3, p4, p5, p6, p7, p8] [y0, y1, y2, y3, y4, y5, y6, y7, y8] bi) (h0 : IsInt x0 ∧ y0 = fI x0) (h1 : IsInt x1 ∧ y1 = fI x1) (h2 : y2 = fS s2) (h3 : y3 = fS s3) (h4 : IsInt x4 ∧ y4 = fI x4) (h5 : IsInt x5 ∧ y5 = fI x5) (h6 : IsInt x6 ∧ y6 = fI x6) (h7 : y7 = fS s7) (h8 : y8 = fS s8) : PE w1 z g gv b2 [.int, .int, .str, .str, .int, .int, .int, .str, .str] [fitI, fitI, fitS, fitS, fitI, fitI, fitI, fitS, fitS] [p0, p1, p2, p3, p4, p5, p6, p7, p8] [y0, y1, y2, y3, y4, y5, y6, y7, y8] [.int .i64 x0, .int .i64 x1, .string s2, .string s3, .int .i64 x4, .int .i64 x5, .int .i64 x6, .string s7, .string s8] zr bi :=
 ⟨hB, hT, ⟨y0, _, [_], _, rfl, rfl, ⟨x0, h0.1, h0.2, rfl⟩, y1, _, [_], _, rfl, rfl, ⟨x1, h1.1, h1.2, rfl⟩, y2, _, [_], _, rfl, rfl, ⟨s2, h2, rfl⟩, y3, _, [_], _, rfl, rfl, ⟨s3, h3, rfl⟩, y4, _, [_], _, rfl, rfl, ⟨x4, h4.1, h4.2, rfl⟩, y5, _, [_], _, rfl, rfl, ⟨x5, h5.1, h5.2, rfl⟩, y6, _, [_], _, rfl, rfl, ⟨x6, h6.1, h6.2, rfl⟩, y7, _, [_], _, rfl, rfl, ⟨s7, h7, rfl⟩, y8, _, [_], _, rfl, rfl, ⟨s8, h8, rfl⟩, rfl, rfl⟩, hL, hG, hlo⟩
section
variable {w1 z z' : World} {g gv : Nat} {b2 bi b' : Bool} {Cs : List Cod} {Ps : List (FV → Prop)} {ps fs : List FV} {cs zc zr c : List Value} {C : Cod} {P : FV → Prop} {p y : FV}
theorem PE.next {k m : Nat} (h : PE w1 z g gv b2 Cs Ps ps fs cs (zc ++ zr) bi) (hk : cs.length = k) (hCs : ∀ D ∈ Cs, Cod.Ok D) (hC : C.Ok) (hg : g < w1.heap.size) (hB : BK z' g b') (hG : GB z z' g) (hrp : C.rp z' (Fresh z z') y c)
  (k1 : b' = false → bi = false ∧ P p ∧ y = p) (k2 : bi = false → P p → b' = false) (hl : zc.length = c.length) (hm : k + c.length = m) : ∃ cs', cs'.length = m ∧ PE w1 (z'.setCells gv k c) g gv b2 (Cs ++ [C]) (Ps ++ [P]) (ps ++ [p]) (fs ++ [y]) cs' zr b' :=
 ⟨cs ++ c, by rw [List.length_append]; omega, h.step hCs hC hg hB hG hrp k1 k2 hl hk.symm⟩
theorem PE.there {k n : Nat} (h : PE w1 z g gv b2 Cs Ps ps fs cs (zc ++ zr) bi) (hk : cs.length = k) (hg : g < w1.heap.size) (hG : GB z z' g) (hl : n = zc.length) : z'.there gv k n := by
 have hlo := h.lo
 exact ((((h.tg.f2 hG (by omega)).right (k := k) (by omega)).left).there (by omega))
theorem PE.cell {k : Nat} {z0 : Value} (h : PE w1 z g gv b2 Cs Ps ps fs cs ([z0] ++ zr) bi) (hk : cs.length = k) (hg : g < w1.heap.size) (hG : GB z z' g) : z'.cell? ⟨gv, k, none⟩ = some z0 ∧ z'.frozen? ⟨gv, k, none⟩ = false := by
 have hlo := h.lo
 have h2 := ((h.tg.f2 hG (by omega)).right (k := k) (by omega)).left
 exact ⟨h2.at_ 0 _ rfl, h2.fr k⟩
end
theorem num_lg {w : World} {g k : Nat} {b2 bi : Bool} {Ps : List (FV → Prop)} {ps fs : List FV} {p : FV} {a : Option Addr} (h : LG b2 Ps ps fs bi) (hB : BK w g bi) (hr : rF w (NG w g) p (fC p a k)) (hc : Cl1 p) (hz : fsz p ≤ 1000000000) :
  Calls Tryz.prog 40 #[.pointer (some ⟨g, 0, none⟩), .agg (fC p a k).toArray] w fun e w' => ∃ x y b', e = .returned (.int .i64 x) ∧ (IsInt x ∧ y = fI x) ∧ BK w' g b' ∧ GB w w' g ∧ LG b2 (Ps ++ [fitI]) (ps ++ [p]) (fs ++ [y]) b' := by
 refine (num_b w g bi p a k hB hr hc hz).mono ?_
 rintro e w' ⟨v, rfl, y, b', h1, h2, ⟨x, hx, he, hv⟩, m, n⟩
 injection hv with hv
 subst hv
 exact ⟨x, y, b', rfl, ⟨hx, he⟩, h1, h2, h.step m n⟩
theorem str_lg {w : World} {g k : Nat} {b2 bi : Bool} {Ps : List (FV → Prop)} {ps fs : List FV} {p : FV} {a : Option Addr} (h : LG b2 Ps ps fs bi) (hB : BK w g bi) (hr : rF w (NG w g) p (fC p a k)) (hc : Cl1 p) (hz : fsz p ≤ 1000000000) :
  Calls Tryz.prog 41 #[.pointer (some ⟨g, 0, none⟩), .agg (fC p a k).toArray] w fun e w' => ∃ s y b', e = .returned (.string s) ∧ y = fS s ∧ BK w' g b' ∧ GB w w' g ∧ LG b2 (Ps ++ [fitS]) (ps ++ [p]) (fs ++ [y]) b' := by
 refine (str_b w g bi p a k hB hr hc hz).mono ?_
 rintro e w' ⟨v, rfl, y, b', h1, h2, ⟨x, he, hv⟩, m, n⟩
 injection hv with hv
 subst hv
 exact ⟨x, y, b', rfl, he, h1, h2, h.step m n⟩
theorem al_ev {w5 w zA : World} {g : Nat} {b : Bool} {t : TypeId} (hx : w.alloc (.cells evZ.toArray t) = zA) (hG : GB w5 w g) (hB : BK w g b) : ∃ gv, gv = w.heap.size ∧ Tgt zA gv 0 evZ ∧ gv ≠ g ∧ w5.heap.size ≤ gv ∧ BK zA g b ∧ GB w5 zA g := by
 subst hx
 have hal := (Below.refl w.heap.size w).alloc (Nat.le_refl _) (.cells evZ.toArray t)
 exact ⟨_, rfl, Tgt.new w evZ.toArray _, by have := hB.lt; omega, hG.size, hB.below hal, hG.trans (GB.of hal)⟩
theorem num_lgG {w5 w : World} {g k : Nat} {b2 bi : Bool} {Ps : List (FV → Prop)} {ps fs : List FV} {p : FV} {a : Option Addr} (h : LG b2 Ps ps fs bi) (hB : BK w g bi) (hG : GB w5 w g) (hr : rF w5 (NG w5 g) p (fC p a k)) (hc : Cl1 p) (hz : fsz p ≤ 1000000000) :
  Calls Tryz.prog 40 #[.pointer (some ⟨g, 0, none⟩), .agg (fC p a k).toArray] w fun e w' => ∃ x y b', e = .returned (.int .i64 x) ∧ (IsInt x ∧ y = fI x) ∧ BK w' g b' ∧ GB w w' g ∧ GB w5 w' g ∧ LG b2 (Ps ++ [fitI]) (ps ++ [p]) (fs ++ [y]) b' :=
 (num_lg h hB (rF_gb hr hG) hc hz).mono (by rintro e w' ⟨x, y, b', h1, h2, h3, h4, h5⟩; exact ⟨x, y, b', h1, h2, h3, h4, hG.trans h4, h5⟩)
theorem str_lgG {w5 w : World} {g k : Nat} {b2 bi : Bool} {Ps : List (FV → Prop)} {ps fs : List FV} {p : FV} {a : Option Addr} (h : LG b2 Ps ps fs bi) (hB : BK w g bi) (hG : GB w5 w g) (hr : rF w5 (NG w5 g) p (fC p a k)) (hc : Cl1 p) (hz : fsz p ≤ 1000000000) :
  Calls Tryz.prog 41 #[.pointer (some ⟨g, 0, none⟩), .agg (fC p a k).toArray] w fun e w' => ∃ s y b', e = .returned (.string s) ∧ y = fS s ∧ BK w' g b' ∧ GB w w' g ∧ GB w5 w' g ∧ LG b2 (Ps ++ [fitS]) (ps ++ [p]) (fs ++ [y]) b' :=
 (str_lg h hB (rF_gb hr hG) hc hz).mono (by rintro e w' ⟨x, y, b', h1, h2, h3, h4, h5⟩; exact ⟨x, y, b', h1, h2, h3, h4, hG.trans h4, h5⟩)
section
variable {x0 x1 x4 x5 x6 : Int} {s2 s3 s7 s8 : ByteArray}
abbrev evB (x0 x1 : Int) (s2 s3 : ByteArray) (x4 x5 x6 : Int) (s7 s8 : ByteArray) : Array Value := ([.int .i64 x0, .int .i64 x1, .string s2, .string s3, .int .i64 x4, .int .i64 x5, .int .i64 x6, .string s7, .string s8] ++ ([.string ⟨#[]⟩, .string ⟨#[]⟩, .bool false] ++ ([.slice none 0 0] ++ ([.slice none 0 0] ++ ([.int .i64 0, .int .i64 0, .slice none 0 0, .slice none 0 0, .slice none 0 0, .string ⟨#[]⟩] ++ ([.string ⟨#[]⟩, .slice none 0 0, .int .i64 0, .int .i64 0, .bool false, .int .i64 0, .int .i64 0, .int .i64 0, .slice none 0 0] ++ ([.string ⟨#[]⟩, .string ⟨#[]⟩, .int .i64 0, .slice none 0 0, .slice none 0 0] ++ ([.string ⟨#[]⟩, .int .i64 0, .string ⟨#[]⟩, .string ⟨#[]⟩, .int .u64 0, .int .i64 0, .int .i64 0, .int .i64 0] ++ []))))))) : List Value).toArray
theorem evB_info : (Tryz.prog.info? 43).map (·.size) = some (evB x0 x1 s2 s3 x4 x5 x6 s7 s8).size := by kernel_rfl
theorem evB_built : Tryz.prog.built 43 [(0, .int .i64 x0), (1, .int .i64 x1), (2, .string s2), (3, .string s3), (4, .int .i64 x4), (5, .int .i64 x5), (6, .int .i64 x6), (7, .string s7), (8, .string s8)] = some (evB x0 x1 s2 s3 x4 x5 x6 s7 s8) := by kernel_rfl
theorem yields_evB {ops : Array Oper} {S : World → Prop} {op : Oper} {a : Act} (hw : Region.wanted op (yielded ops a.tmps) = true) {parts : Array (Nat × Operand)} (ho : op.op = .build 43 parts)
  (hp : (parts.map fun (i, x) => (i, a.eval x)).toList = [(0, .int .i64 x0), (1, .int .i64 x1), (2, .string s2), (3, .string s3), (4, .int .i64 x4), (5, .int .i64 x5), (6, .int .i64 x6), (7, .string s7), (8, .string s8)]) : YieldsIf Tryz.prog ops S op (.agg (evB x0 x1 s2 s3 x4 x5 x6 s7 s8)) a :=
 .inl ⟨hw, fun w _ => by
  have hb : Tryz.prog.built 43 (parts.map fun (i, x) => (i, a.eval x)).toList = some (evB x0 x1 s2 s3 x4 x5 x6 s7 s8) := by rw [hp]; exact evB_built
  unfold execOp
  simp only [ho, Sem.run_bind, run_build w _ _ _ hb, Result.andThen_ok, Sem.run_pure]⟩
theorem evB_one : (evB x0 x1 s2 s3 x4 x5 x6 s7 s8).all (·.oneCell') = true := by simp [evB, Value.oneCell']
end
end Go.Proofs.YtgdapkglofchjaaGreatDoor
