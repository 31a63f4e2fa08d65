/- Joined: JnCe. -/
import Derived.Test.YtgdapkglofchjaaGreatDoorF28
set_option maxRecDepth 100000
set_option maxHeartbeats 4000000
set_option linter.unusedVariables false
namespace Go.Proofs.YtgdapkglofchjaaGreatDoor
open Go.RowKit
theorem rdec_any (l : List UInt8) (A : Option Addr) (n c : Nat) (w : World) (B : Nat) (hl : l.length = n) (hm : n ≤ 100000000) (hc : n ≤ c) (hB : B ≤ w.heap.size) (hs : Seq w B 1 A n (l.map bv)) : Calls Tryz.prog 19 #[.slice A n c] w (RetDec w l) := by
 subst hl
 go_enter Tryz.func19, Tryz.ntmps19
 go_upto_region 1 with (fail)
 generalize hx_ : World.alloc w _ = w1
 have hZ : Tgt w1 w.heap.size 0 evZ := by rw [← hx_]; exact Tgt.new w evZ.toArray _
 have hb1 : Below w.heap.size w w1 := by rw [← hx_]; exact (Below.refl _ _).alloc (Nat.le_refl _) _
 clear hx_
 have C := rfields_any l A l.length c w1 B rfl (by omega) hc (Nat.le_trans hB hb1.size) (hs.below (hb1.mono hB))
 have hsm := fun f (h : fieldsS l = .inr f) => fieldsS_small h
 have hiz : (Tryz.prog.info? 43).map (·.size) = some evZ.toArray.size := by kernel_rfl
 have hbt : ∀ a : Act, Tryz.prog.built 43 ((#[] : Array (Nat × Operand)).map fun (i, x) => (i, a.eval x)).toList = some evZ.toArray := fun _ => by kernel_rfl
 have hz1 := evZ_one
 have hz42 := evZ_len
 obtain ⟨Zc, hZc⟩ : ∃ Zc, Zc = evZ := ⟨_, rfl⟩
 rw [← hZc] at hZ hiz hz1 hz42
 simp only [← hZc] at hbt
 replace hiz := Lib.hid hiz
 replace hZc := Lib.hid hZc
 generalize hq : fieldsS l = F at C
 replace C := Lib.hid C
 replace hq := Lib.hid hq
 repeat' (first | go_skip | go_guarded | go_step)
 refine C.out.mono ?_
 clear C
 cases F with
 | inl er =>
  have hq2 := hq.out
  rintro e w2 ⟨rfl, hb2⟩
  dsimp only
  have hZ2 := hZ.below hb2
  have her : er ≠ 0 := er_ne hq2
  have z1 : ((er : Int) == 0) = false := by simp; omega
  have z2 : ((er : Int) != 0) = true := by simp; omega
  have hth := hZ2.there (n := Zc.toArray.size) (Nat.le_refl _)
  have hbw : Below w.heap.size w w2 := hb1.trans (hb2.mono hb1.size)
  have hfin : (w2.setCells w.heap.size 0 Zc.toArray.toList).rangeAt w.heap.size 0 Zc := World.rangeAt_setCells_same w2 w.heap.size 0 Zc hth
  have hbf : Below w.heap.size w (w2.setCells w.heap.size 0 Zc.toArray.toList) := setCells_below (Nat.le_refl _) _ _ _ hbw
  repeat' (first | (refine wpList_build1 rfl 43 _ rfl (cells := Zc.toArray) (hbt _) ?_) | (refine wpList_store_mid rfl 43 _ _ rfl w.heap.size 0 Zc.toArray rfl rfl hth hiz.out hz1 ?_) | go_skip | go_guarded | go_step)
  refine bodyPost_ret (v := .tuple #[.agg Zc.toArray, .int .i64 (er : Int)]) (run_res_two 2 3 43 w.heap.size 0 Zc _ _ rfl rfl rfl hfin Tryz.underlying43 rfl hiz.out) rfl ?_
  exact ⟨Zc, (er : Int), rfl, hbf, Or.inr ⟨by omega, Or.inl ⟨er, hq2, rfl⟩, hZc.out⟩⟩
 | inr f =>
  have hq2 := hq.out
  have hcl : Cln (toL f) := by show ClnL (ofL (toL f)); rw [ofL_toL]; exact cln_of_fine f 1 (fields_back hq2).2
  have hlz : lsz (toL f) ≤ 100000000 := by unfold lsz; rw [ofL_toL]; exact Nat.le_trans (hsm f hq2) hm
  have hfz : fsz (2, 0, (⟨#[]⟩ : ByteArray), f) ≤ 1000000000 := by have h9 := hsm f hq2; show 0 + f.size ≤ _; omega
  rintro e w2 ⟨A2, c2, cs2, rfl, hO2, hR2⟩
  dsimp only
  have hrf2 : rF w2 (fun b => b < w2.heap.size) (2, 0, (⟨#[]⟩ : ByteArray), f) (fC (2, 0, (⟨#[]⟩ : ByteArray), f) A2 c2) := ⟨A2, c2, cs2, rfl, ii2, ii0, ⟨hO2.seq, hO2.cap_le⟩, hR2.imp fun b hb => hb.2⟩
  have hcf : Cl1 (2, 0, (⟨#[]⟩ : ByteArray), f) := Or.inr (Or.inr ⟨toL f, by rw [fL, ofL_toL]; rfl, hcl⟩)
  have hb2 := hO2.2
  have hZ2 := hZ.below hb2
  have hbw2 : Below w.heap.size w w2 := hb1.trans (hb2.mono hb1.size)
  have hlt2 : w.heap.size < w2.heap.size := Nat.lt_of_lt_of_le hZ.lt hb2.size
  clear hO2 hR2 hs hb2 hb1 hZ hsm
  go_upto_region 5 with (fail)
  generalize hx_ : World.alloc w2 _ = w3
  have hb3 : Below w2.heap.size w2 w3 := by rw [← hx_]; exact (Below.refl _ _).alloc (Nat.le_refl _) _
  have hBK3 : BK w3 w2.heap.size false := by
   rw [← hx_]
   have q := Tgt.new w2 (#[.bool false] : Array Value) 95
   exact ⟨q.lt, by have := q.at_ 0 _ rfl; exact this, q.fr⟩
  clear hx_
  obtain ⟨g, hg⟩ : ∃ g, g = w2.heap.size := ⟨_, rfl⟩
  rw [← hg] at hBK3 ⊢
  have hrf3 : rF w3 (fun b => b < w2.heap.size ∧ b ≠ g) (2, 0, (⟨#[]⟩ : ByteArray), f) (fC (2, 0, (⟨#[]⟩ : ByteArray), f) A2 c2) := rF_ok _ _ _ _ _ _ (fun p hp => hb3.cell hp) (fun x hx => ⟨hx, by omega⟩) hrf2
  have hgw : w.heap.size < g := by omega
  have hg2 : w2.heap.size ≤ g := by omega
  replace hg := Lib.hid hg
  have hZ3 := hZ2.below hb3
  have hbw3 : Below w.heap.size w w3 := hbw2.trans (hb3.mono (Nat.le_of_lt hlt2))
  have hs23 := hb3.size
  clear hrf2 hZ2 hb3 hbw2
  repeat' (first | go_skip | go_guarded | go_step)
  refine (seq_any A2 f.length c2 w3).mono ?_
  rintro e w4 ⟨rfl, hb4⟩
  dsimp only
  have hBK4 := hBK3.below hb4
  have hrf4 : rF w4 (fun b => b < w2.heap.size ∧ b ≠ g) (2, 0, (⟨#[]⟩ : ByteArray), f) (fC (2, 0, (⟨#[]⟩ : ByteArray), f) A2 c2) := rF_ok _ _ _ _ _ _ (fun p hp => hb4.cell (Nat.lt_of_lt_of_le hp.1 hs23)) (fun x hx => hx) hrf3
  have hZ4 := hZ3.below hb4
  have hbw4 : Below w.heap.size w w4 := hbw3.trans (hb4.mono hbw3.size)
  have hs34 := hb4.size
  clear hrf3 hZ3 hb4 hbw3 hBK3
  repeat' (first | go_skip | go_guarded | go_step)
  refine (bparts_any w2.heap.size w4 g false (2, 0, (⟨#[]⟩ : ByteArray), f) A2 c2 16 hBK4 (by omega) hrf4 hcf (by omega) (by omega) hfz).mono ?_
  rintro e w5 ⟨l5, A5, k5, rfl, b2, hl5, hFl, hcln, hB5, hG5, hsm, q1, q2⟩
  dsimp only
  obtain ⟨p0, p1, p2, p3, p4, p5, p6, p7, p8, p9, p10, p11, p12, p13, p14, p15, rfl⟩ := list16 hl5
  obtain ⟨bq, oq, rfl, hqq⟩ := fsl_head hFl (by simp)
  obtain ⟨a0, k0_, hr0, hA0, hc0, hz0⟩ := part_at hFl hcln hsm hfz (i := 0) (y := p0) (o := oq) rfl rfl
  obtain ⟨a1, k1_, hr1, hA1, hc1, hz1⟩ := part_at hFl hcln hsm hfz (i := 1) (y := p1) (o := oq + 4) rfl rfl
  obtain ⟨a2, k2_, hr2, hA2, hc2, hz2⟩ := part_at hFl hcln hsm hfz (i := 2) (y := p2) (o := oq + 8) rfl rfl
  obtain ⟨a3, k3_, hr3, hA3, hc3, hz3⟩ := part_at hFl hcln hsm hfz (i := 3) (y := p3) (o := oq + 12) rfl rfl
  obtain ⟨a4, k4_, hr4, hA4, hc4, hz4⟩ := part_at hFl hcln hsm hfz (i := 4) (y := p4) (o := oq + 16) rfl rfl
  obtain ⟨a5, k5_, hr5, hA5, hc5, hz5⟩ := part_at hFl hcln hsm hfz (i := 5) (y := p5) (o := oq + 20) rfl rfl
  obtain ⟨a6, k6_, hr6, hA6, hc6, hz6⟩ := part_at hFl hcln hsm hfz (i := 6) (y := p6) (o := oq + 24) rfl rfl
  obtain ⟨a7, k7_, hr7, hA7, hc7, hz7⟩ := part_at hFl hcln hsm hfz (i := 7) (y := p7) (o := oq + 28) rfl rfl
  obtain ⟨a8, k8_, hr8, hA8, hc8, hz8⟩ := part_at hFl hcln hsm hfz (i := 8) (y := p8) (o := oq + 32) rfl rfl
  obtain ⟨a9, k9_, hr9, hA9, hc9, hz9⟩ := part_at hFl hcln hsm hfz (i := 9) (y := p9) (o := oq + 36) rfl rfl
  obtain ⟨a10, k10_, hr10, hA10, hc10, hz10⟩ := part_at hFl hcln hsm hfz (i := 10) (y := p10) (o := oq + 40) rfl rfl
  obtain ⟨a11, k11_, hr11, hA11, hc11, hz11⟩ := part_at hFl hcln hsm hfz (i := 11) (y := p11) (o := oq + 44) rfl rfl
  obtain ⟨a12, k12_, hr12, hA12, hc12, hz12⟩ := part_at hFl hcln hsm hfz (i := 12) (y := p12) (o := oq + 48) rfl rfl
  obtain ⟨a13, k13_, hr13, hA13, hc13, hz13⟩ := part_at hFl hcln hsm hfz (i := 13) (y := p13) (o := oq + 52) rfl rfl
  obtain ⟨a14, k14_, hr14, hA14, hc14, hz14⟩ := part_at hFl hcln hsm hfz (i := 14) (y := p14) (o := oq + 56) rfl rfl
  obtain ⟨a15, k15_, hr15, hA15, hc15, hz15⟩ := part_at hFl hcln hsm hfz (i := 15) (y := p15) (o := oq + 60) rfl rfl
  have hs45 := hG5.size
  have hgl : g < w4.heap.size := hBK4.lt
  have hg5 : g < w5.heap.size := by omega
  have hZ5 := hZ4.f2 hG5 (by omega)
  have hbw5 : Below w.heap.size w w5 := hbw4.trans (GB.below hG5 (by omega) hbw4.size)
  have hBd : BK w5.drew g b2 := ⟨hB5.lt, hB5.c, hB5.fr⟩
  have hq1 := hqq.2.1
  have hq2_ := hqq.2.2
  replace q1 := Lib.hid q1
  replace q2 := Lib.hid q2
  replace hfz := Lib.hid hfz
  clear hFl hcln hl5 hsm hB5 hBK4 hrf4 hcf hZ4 hbw4 hG5 hqq hs23 hs34 hs45
  go_upto_region 6 with (fail)
  go_cut [8] (fun u8 wx => ∃ (wq : World) (gv : Nat) (y0 y1 y2 y3 y4 y5 y6 y7 y8 : FV) (x0 x1 x4 x5 x6 : Int) (s2 s3 s7 s8 : ByteArray) (b5 : Bool), wq = wx ∧ u8 = .pointer (some ⟨gv, 0, none⟩) ∧ w5.heap.size ≤ gv ∧ Tgt wx gv 0 ([.int .i64 x0, .int .i64 x1, .string s2, .string s3, .int .i64 x4, .int .i64 x5, .int .i64 x6, .string s7, .string s8] ++ ([.string ⟨#[]⟩, .string ⟨#[]⟩, .bool false] ++ ([.slice none 0 0] ++ ([.slice none 0 0] ++ ([.int .i64 0, .int .i64 0, .slice none 0 0, .slice none 0 0, .slice none 0 0, .string ⟨#[]⟩] ++ ([.string ⟨#[]⟩, .slice none 0 0, .int .i64 0, .int .i64 0, .bool false, .int .i64 0, .int .i64 0, .int .i64 0, .slice none 0 0] ++ ([.string ⟨#[]⟩, .string ⟨#[]⟩, .int .i64 0, .slice none 0 0, .slice none 0 0] ++ ([.string ⟨#[]⟩, .int .i64 0, .string ⟨#[]⟩, .string ⟨#[]⟩, .int .u64 0, .int .i64 0, .int .i64 0, .int .i64 0] ++ [])))))))) ∧
   BK wx g b5 ∧ GB w5 wx g ∧ LG b2 [fitI, fitI, fitS, fitS, fitI, fitI, fitI, fitS, fitS] [p0, p1, p2, p3, p4, p5, p6, p7, p8] [y0, y1, y2, y3, y4, y5, y6, y7, y8] b5 ∧ (IsInt x0 ∧ y0 = fI x0) ∧ (IsInt x1 ∧ y1 = fI x1) ∧ (y2 = fS s2) ∧ (y3 = fS s3) ∧ (IsInt x4 ∧ y4 = fI x4) ∧ (IsInt x5 ∧ y5 = fI x5) ∧ (IsInt x6 ∧ y6 = fI x6) ∧ (y7 = fS s7) ∧ (y8 = fS s8))
  case first =>
   refine wp_region_held_drew (S := fun w' => GB w5 w' g ∧ True) (by kernel_rfl) ?_ (fun hHeld => ?_)
   ·(try dsimp only)
    exact ⟨GB.of ((Below.refl w5.heap.size w5).drew), trivial⟩
   refine tkQ 0 ?_
   refine tkQ 1 ?_
   refine tkQ 2 ?_
   refine tkV 3 (v := .agg (fC p0 a0 k0_).toArray) rfl (yieldsF (b := bq) (o := oq) (fun v h => range_gb hA0 h.1 hq1 hq2_)) ?_
   refine tkQ 5 ?_
   refine tkQ 6 ?_
   refine tkQ 7 ?_
   refine tkV 8 (v := .agg (fC p1 a1 k1_).toArray) rfl (yieldsF (b := bq) (o := oq + 4) (fun v h => range_gb hA1 h.1 hq1 hq2_)) ?_
   refine tkQ 10 ?_
   refine tkQ 11 ?_
   refine tkQ 12 ?_
   refine tkV 13 (v := .agg (fC p2 a2 k2_).toArray) rfl (yieldsF (b := bq) (o := oq + 8) (fun v h => range_gb hA2 h.1 hq1 hq2_)) ?_
   refine tkQ 15 ?_
   refine tkQ 16 ?_
   refine tkQ 17 ?_
   refine tkV 18 (v := .agg (fC p3 a3 k3_).toArray) rfl (yieldsF (b := bq) (o := oq + 12) (fun v h => range_gb hA3 h.1 hq1 hq2_)) ?_
   refine tkQ 20 ?_
   refine tkQ 21 ?_
   refine tkQ 22 ?_
   refine tkV 23 (v := .agg (fC p4 a4 k4_).toArray) rfl (yieldsF (b := bq) (o := oq + 16) (fun v h => range_gb hA4 h.1 hq1 hq2_)) ?_
   refine tkQ 25 ?_
   refine tkQ 26 ?_
   refine tkQ 27 ?_
   refine tkV 28 (v := .agg (fC p5 a5 k5_).toArray) rfl (yieldsF (b := bq) (o := oq + 20) (fun v h => range_gb hA5 h.1 hq1 hq2_)) ?_
   refine tkQ 30 ?_
   refine tkQ 31 ?_
   refine tkQ 32 ?_
   refine tkV 33 (v := .agg (fC p6 a6 k6_).toArray) rfl (yieldsF (b := bq) (o := oq + 24) (fun v h => range_gb hA6 h.1 hq1 hq2_)) ?_
   refine tkQ 35 ?_
   refine tkQ 36 ?_
   refine tkQ 37 ?_
   refine tkV 38 (v := .agg (fC p7 a7 k7_).toArray) rfl (yieldsF (b := bq) (o := oq + 28) (fun v h => range_gb hA7 h.1 hq1 hq2_)) ?_
   refine tkQ 40 ?_
   refine tkQ 41 ?_
   refine tkQ 42 ?_
   refine tkV 43 (v := .agg (fC p8 a8 k8_).toArray) rfl (yieldsF (b := bq) (o := oq + 32) (fun v h => range_gb hA8 h.1 hq1 hq2_)) ?_
   refine rdN [4, 46] ?_
   refine rdC (fun K hK => ?_) ?_
   ·go_simp
    go_at_call 40
    refine (num_lgG (LG.nil b2) hBd hHeld.1 hr0 hc0 hz0).mono ?_
    rintro e z0 ⟨x0, y0, b0_, rfl, he0, hB0_, hG0_, hcq, hL1⟩
    dsimp only
    refine hkO hK ⟨hcq, trivial⟩ fun hHeld => ?_
    clear hK K
    refine rdN [9, 46] ?_
    refine rdC (fun K hK => ?_) ?_
    ·go_simp
     go_at_call 40
     refine (num_lgG hL1 hB0_ hHeld.1 hr1 hc1 hz1).mono ?_
     rintro e z1 ⟨x1, y1, b1_, rfl, he1, hB1_, hG1_, hcq, hL2⟩
     dsimp only
     refine hkO hK ⟨hcq, trivial⟩ fun hHeld => ?_
     clear hK K
     refine rdN [14, 46] ?_
     refine rdC (fun K hK => ?_) ?_
     ·go_simp
      go_at_call 41
      refine (str_lgG hL2 hB1_ hHeld.1 hr2 hc2 hz2).mono ?_
      rintro e z2 ⟨s2, y2, b2_, rfl, he2, hB2_, hG2_, hcq, hL3⟩
      dsimp only
      refine hkO hK ⟨hcq, trivial⟩ fun hHeld => ?_
      clear hK K
      refine rdN [19, 46] ?_
      refine rdC (fun K hK => ?_) ?_
      ·go_simp
       go_at_call 41
       refine (str_lgG hL3 hB2_ hHeld.1 hr3 hc3 hz3).mono ?_
       rintro e z3 ⟨s3, y3, b3_, rfl, he3, hB3_, hG3_, hcq, hL4⟩
       dsimp only
       refine hkO hK ⟨hcq, trivial⟩ fun hHeld => ?_
       clear hK K
       refine rdN [24, 46] ?_
       refine rdC (fun K hK => ?_) ?_
       ·go_simp
        go_at_call 40
        refine (num_lgG hL4 hB3_ hHeld.1 hr4 hc4 hz4).mono ?_
        rintro e z4 ⟨x4, y4, b4_, rfl, he4, hB4_, hG4_, hcq, hL5⟩
        dsimp only
        refine hkO hK ⟨hcq, trivial⟩ fun hHeld => ?_
        clear hK K
        refine rdN [29, 46] ?_
        refine rdC (fun K hK => ?_) ?_
        ·go_simp
         go_at_call 40
         refine (num_lgG hL5 hB4_ hHeld.1 hr5 hc5 hz5).mono ?_
         rintro e z5 ⟨x5, y5, b5_, rfl, he5, hB5_, hG5_, hcq, hL6⟩
         dsimp only
         refine hkO hK ⟨hcq, trivial⟩ fun hHeld => ?_
         clear hK K
         refine rdN [34, 46] ?_
         refine rdC (fun K hK => ?_) ?_
         ·go_simp
          go_at_call 40
          refine (num_lgG hL6 hB5_ hHeld.1 hr6 hc6 hz6).mono ?_
          rintro e z6 ⟨x6, y6, b6_, rfl, he6, hB6_, hG6_, hcq, hL7⟩
          dsimp only
          refine hkO hK ⟨hcq, trivial⟩ fun hHeld => ?_
          clear hK K
          refine rdN [39, 46] ?_
          refine rdC (fun K hK => ?_) ?_
          ·go_simp
           go_at_call 41
           refine (str_lgG hL7 hB6_ hHeld.1 hr7 hc7 hz7).mono ?_
           rintro e z7 ⟨s7, y7, b7_, rfl, he7, hB7_, hG7_, hcq, hL8⟩
           dsimp only
           refine hkO hK ⟨hcq, trivial⟩ fun hHeld => ?_
           clear hK K
           refine rdN [44, 46] ?_
           refine rdC (fun K hK => ?_) ?_
           ·go_simp
            go_at_call 41
            refine (str_lgG hL8 hB7_ hHeld.1 hr8 hc8 hz8).mono ?_
            rintro e z8 ⟨s8, y8, b8_, rfl, he8, hB8_, hG8_, hcq, hL9⟩
            dsimp only
            refine hkO hK ⟨hcq, trivial⟩ fun hHeld => ?_
            clear hK K
            refine tkV 45 (v := .agg (evB x0 x1 s2 s3 x4 x5 x6 s7 s8)) rfl (yields_evB (by rfl) rfl (by kernel_rfl)) ?_
            refine rdO 46 fun K hK => ?_
            go_simp
            generalize hxa : World.alloc _ _ = zA
            obtain ⟨gv, hgv, hTv, hgvg, hgv2, hBA, hcq⟩ := al_ev hxa hHeld.1 hB8_
            rw [← hgv]
            clear hxa
            replace hgv := Lib.hid hgv
            refine hkO hK ⟨hcq, trivial⟩ fun hHeld => ?_
            clear hK K
            refine rdO 47 fun K hK => ?_
            have hth := hTv.there (n := (evB x0 x1 s2 s3 x4 x5 x6 s7 s8).size) (Nat.le_refl _)
            refine step_store_mid 43 _ _ rfl rfl gv 0 (evB x0 x1 s2 s3 x4 x5 x6 s7 s8) rfl rfl hth evB_info evB_one ?_
            have hcq := GB.setv hHeld.1 hgv2 0 (evB x0 x1 s2 s3 x4 x5 x6 s7 s8).toList
            refine hkO hK ⟨hcq, trivial⟩ fun hHeld => ?_
            clear hK K
            refine wpAnyH_done (by kernel_rfl) ?_ _
            have hGl := hHeld.1
            clear hHeld
            repeat' ((fail_if_success at_builtin); first | go_skip | go_guarded | go_step)
            go_meet
            case rel => exact ⟨_, gv, y0, y1, y2, y3, y4, y5, y6, y7, y8, x0, x1, x4, x5, x6, s2, s3, s7, s8, b8_, rfl, (by first | rfl | (rw [hgv.out]) | (rw [hgv.out]; rfl)), hgv2, hTv.setAll rfl, hBA.setv hgvg, hGl, hL9, he0, he1, he2, he3, he4, he5, he6, he7, he8⟩
           refine rdC (fun K hK => ?_) ?_
           ·go_simp
            generalize hxa : World.alloc _ _ = zA
            obtain ⟨gv, hgv, hTv, hgvg, hgv2, hBA, hcq⟩ := al_ev hxa hHeld.1 hB7_
            rw [← hgv]
            clear hxa
            replace hgv := Lib.hid hgv
            refine hkO hK ⟨hcq, trivial⟩ fun hHeld => ?_
            clear hK K
            refine rdO 44 fun K hK => ?_
            go_simp
            go_at_call 41
            refine (str_lgG hL8 hBA hHeld.1 hr8 hc8 hz8).mono ?_
            rintro e z8 ⟨s8, y8, b8_, rfl, he8, hB8_, hG8_, hcq, hL9⟩
            dsimp only
            replace hTv := hTv.f2 hG8_ hgvg
            refine hkO hK ⟨hcq, trivial⟩ fun hHeld => ?_
            clear hK K
            refine tkV 45 (v := .agg (evB x0 x1 s2 s3 x4 x5 x6 s7 s8)) rfl (yields_evB (by rfl) rfl (by kernel_rfl)) ?_
            refine rdO 47 fun K hK => ?_
            have hth := hTv.there (n := (evB x0 x1 s2 s3 x4 x5 x6 s7 s8).size) (Nat.le_refl _)
            refine step_store_mid 43 _ _ rfl rfl gv 0 (evB x0 x1 s2 s3 x4 x5 x6 s7 s8) rfl rfl hth evB_info evB_one ?_
            have hcq := GB.setv hHeld.1 hgv2 0 (evB x0 x1 s2 s3 x4 x5 x6 s7 s8).toList
            refine hkO hK ⟨hcq, trivial⟩ fun hHeld => ?_
            clear hK K
            refine wpAnyH_done (by kernel_rfl) ?_ _
            have hGl := hHeld.1
            clear hHeld
            repeat' ((fail_if_success at_builtin); first | go_skip | go_guarded | go_step)
            go_meet
            case rel => exact ⟨_, gv, y0, y1, y2, y3, y4, y5, y6, y7, y8, x0, x1, x4, x5, x6, s2, s3, s7, s8, b8_, rfl, (by first | rfl | (rw [hgv.out]) | (rw [hgv.out]; rfl)), hgv2, hTv.setAll rfl, hB8_.setv hgvg, hGl, hL9, he0, he1, he2, he3, he4, he5, he6, he7, he8⟩
           exact AllReadyH.nil
          refine rdC (fun K hK => ?_) ?_
          ·go_simp
           generalize hxa : World.alloc _ _ = zA
           obtain ⟨gv, hgv, hTv, hgvg, hgv2, hBA, hcq⟩ := al_ev hxa hHeld.1 hB6_
           rw [← hgv]
           clear hxa
           replace hgv := Lib.hid hgv
           refine hkO hK ⟨hcq, trivial⟩ fun hHeld => ?_
           clear hK K
           refine rdO 39 fun K hK => ?_
           go_simp
           go_at_call 41
           refine (str_lgG hL7 hBA hHeld.1 hr7 hc7 hz7).mono ?_
           rintro e z7 ⟨s7, y7, b7_, rfl, he7, hB7_, hG7_, hcq, hL8⟩
           dsimp only
           replace hTv := hTv.f2 hG7_ hgvg
           refine hkO hK ⟨hcq, trivial⟩ fun hHeld => ?_
           clear hK K
           refine rdO 44 fun K hK => ?_
           go_simp
           go_at_call 41
           refine (str_lgG hL8 hB7_ hHeld.1 hr8 hc8 hz8).mono ?_
           rintro e z8 ⟨s8, y8, b8_, rfl, he8, hB8_, hG8_, hcq, hL9⟩
           dsimp only
           replace hTv := hTv.f2 hG8_ hgvg
           refine hkO hK ⟨hcq, trivial⟩ fun hHeld => ?_
           clear hK K
           refine tkV 45 (v := .agg (evB x0 x1 s2 s3 x4 x5 x6 s7 s8)) rfl (yields_evB (by rfl) rfl (by kernel_rfl)) ?_
           refine rdO 47 fun K hK => ?_
           have hth := hTv.there (n := (evB x0 x1 s2 s3 x4 x5 x6 s7 s8).size) (Nat.le_refl _)
           refine step_store_mid 43 _ _ rfl rfl gv 0 (evB x0 x1 s2 s3 x4 x5 x6 s7 s8) rfl rfl hth evB_info evB_one ?_
           have hcq := GB.setv hHeld.1 hgv2 0 (evB x0 x1 s2 s3 x4 x5 x6 s7 s8).toList
           refine hkO hK ⟨hcq, trivial⟩ fun hHeld => ?_
           clear hK K
           refine wpAnyH_done (by kernel_rfl) ?_ _
           have hGl := hHeld.1
           clear hHeld
           repeat' ((fail_if_success at_builtin); first | go_skip | go_guarded | go_step)
           go_meet
           case rel => exact ⟨_, gv, y0, y1, y2, y3, y4, y5, y6, y7, y8, x0, x1, x4, x5, x6, s2, s3, s7, s8, b8_, rfl, (by first | rfl | (rw [hgv.out]) | (rw [hgv.out]; rfl)), hgv2, hTv.setAll rfl, hB8_.setv hgvg, hGl, hL9, he0, he1, he2, he3, he4, he5, he6, he7, he8⟩
          exact AllReadyH.nil
         refine rdC (fun K hK => ?_) ?_
         ·go_simp
          generalize hxa : World.alloc _ _ = zA
          obtain ⟨gv, hgv, hTv, hgvg, hgv2, hBA, hcq⟩ := al_ev hxa hHeld.1 hB5_
          rw [← hgv]
          clear hxa
          replace hgv := Lib.hid hgv
          refine hkO hK ⟨hcq, trivial⟩ fun hHeld => ?_
          clear hK K
          refine rdO 34 fun K hK => ?_
          go_simp
          go_at_call 40
          refine (num_lgG hL6 hBA hHeld.1 hr6 hc6 hz6).mono ?_
          rintro e z6 ⟨x6, y6, b6_, rfl, he6, hB6_, hG6_, hcq, hL7⟩
          dsimp only
          replace hTv := hTv.f2 hG6_ hgvg
          refine hkO hK ⟨hcq, trivial⟩ fun hHeld => ?_
          clear hK K
          refine rdO 39 fun K hK => ?_
          go_simp
          go_at_call 41
          refine (str_lgG hL7 hB6_ hHeld.1 hr7 hc7 hz7).mono ?_
          rintro e z7 ⟨s7, y7, b7_, rfl, he7, hB7_, hG7_, hcq, hL8⟩
          dsimp only
          replace hTv := hTv.f2 hG7_ hgvg
          refine hkO hK ⟨hcq, trivial⟩ fun hHeld => ?_
          clear hK K
          refine rdO 44 fun K hK => ?_
          go_simp
          go_at_call 41
          refine (str_lgG hL8 hB7_ hHeld.1 hr8 hc8 hz8).mono ?_
          rintro e z8 ⟨s8, y8, b8_, rfl, he8, hB8_, hG8_, hcq, hL9⟩
          dsimp only
          replace hTv := hTv.f2 hG8_ hgvg
          refine hkO hK ⟨hcq, trivial⟩ fun hHeld => ?_
          clear hK K
          refine tkV 45 (v := .agg (evB x0 x1 s2 s3 x4 x5 x6 s7 s8)) rfl (yields_evB (by rfl) rfl (by kernel_rfl)) ?_
          refine rdO 47 fun K hK => ?_
          have hth := hTv.there (n := (evB x0 x1 s2 s3 x4 x5 x6 s7 s8).size) (Nat.le_refl _)
          refine step_store_mid 43 _ _ rfl rfl gv 0 (evB x0 x1 s2 s3 x4 x5 x6 s7 s8) rfl rfl hth evB_info evB_one ?_
          have hcq := GB.setv hHeld.1 hgv2 0 (evB x0 x1 s2 s3 x4 x5 x6 s7 s8).toList
          refine hkO hK ⟨hcq, trivial⟩ fun hHeld => ?_
          clear hK K
          refine wpAnyH_done (by kernel_rfl) ?_ _
          have hGl := hHeld.1
          clear hHeld
          repeat' ((fail_if_success at_builtin); first | go_skip | go_guarded | go_step)
          go_meet
          case rel => exact ⟨_, gv, y0, y1, y2, y3, y4, y5, y6, y7, y8, x0, x1, x4, x5, x6, s2, s3, s7, s8, b8_, rfl, (by first | rfl | (rw [hgv.out]) | (rw [hgv.out]; rfl)), hgv2, hTv.setAll rfl, hB8_.setv hgvg, hGl, hL9, he0, he1, he2, he3, he4, he5, he6, he7, he8⟩
         exact AllReadyH.nil
        refine rdC (fun K hK => ?_) ?_
        ·go_simp
         generalize hxa : World.alloc _ _ = zA
         obtain ⟨gv, hgv, hTv, hgvg, hgv2, hBA, hcq⟩ := al_ev hxa hHeld.1 hB4_
         rw [← hgv]
         clear hxa
         replace hgv := Lib.hid hgv
         refine hkO hK ⟨hcq, trivial⟩ fun hHeld => ?_
         clear hK K
         refine rdO 29 fun K hK => ?_
         go_simp
         go_at_call 40
         refine (num_lgG hL5 hBA hHeld.1 hr5 hc5 hz5).mono ?_
         rintro e z5 ⟨x5, y5, b5_, rfl, he5, hB5_, hG5_, hcq, hL6⟩
         dsimp only
         replace hTv := hTv.f2 hG5_ hgvg
         refine hkO hK ⟨hcq, trivial⟩ fun hHeld => ?_
         clear hK K
         refine rdO 34 fun K hK => ?_
         go_simp
         go_at_call 40
         refine (num_lgG hL6 hB5_ hHeld.1 hr6 hc6 hz6).mono ?_
         rintro e z6 ⟨x6, y6, b6_, rfl, he6, hB6_, hG6_, hcq, hL7⟩
         dsimp only
         replace hTv := hTv.f2 hG6_ hgvg
         refine hkO hK ⟨hcq, trivial⟩ fun hHeld => ?_
         clear hK K
         refine rdO 39 fun K hK => ?_
         go_simp
         go_at_call 41
         refine (str_lgG hL7 hB6_ hHeld.1 hr7 hc7 hz7).mono ?_
         rintro e z7 ⟨s7, y7, b7_, rfl, he7, hB7_, hG7_, hcq, hL8⟩
         dsimp only
         replace hTv := hTv.f2 hG7_ hgvg
         refine hkO hK ⟨hcq, trivial⟩ fun hHeld => ?_
         clear hK K
         refine rdO 44 fun K hK => ?_
         go_simp
         go_at_call 41
         refine (str_lgG hL8 hB7_ hHeld.1 hr8 hc8 hz8).mono ?_
         rintro e z8 ⟨s8, y8, b8_, rfl, he8, hB8_, hG8_, hcq, hL9⟩
         dsimp only
         replace hTv := hTv.f2 hG8_ hgvg
         refine hkO hK ⟨hcq, trivial⟩ fun hHeld => ?_
         clear hK K
         refine tkV 45 (v := .agg (evB x0 x1 s2 s3 x4 x5 x6 s7 s8)) rfl (yields_evB (by rfl) rfl (by kernel_rfl)) ?_
         refine rdO 47 fun K hK => ?_
         have hth := hTv.there (n := (evB x0 x1 s2 s3 x4 x5 x6 s7 s8).size) (Nat.le_refl _)
         refine step_store_mid 43 _ _ rfl rfl gv 0 (evB x0 x1 s2 s3 x4 x5 x6 s7 s8) rfl rfl hth evB_info evB_one ?_
         have hcq := GB.setv hHeld.1 hgv2 0 (evB x0 x1 s2 s3 x4 x5 x6 s7 s8).toList
         refine hkO hK ⟨hcq, trivial⟩ fun hHeld => ?_
         clear hK K
         refine wpAnyH_done (by kernel_rfl) ?_ _
         have hGl := hHeld.1
         clear hHeld
         repeat' ((fail_if_success at_builtin); first | go_skip | go_guarded | go_step)
         go_meet
         case rel => exact ⟨_, gv, y0, y1, y2, y3, y4, y5, y6, y7, y8, x0, x1, x4, x5, x6, s2, s3, s7, s8, b8_, rfl, (by first | rfl | (rw [hgv.out]) | (rw [hgv.out]; rfl)), hgv2, hTv.setAll rfl, hB8_.setv hgvg, hGl, hL9, he0, he1, he2, he3, he4, he5, he6, he7, he8⟩
        exact AllReadyH.nil
       refine rdC (fun K hK => ?_) ?_
       ·go_simp
        generalize hxa : World.alloc _ _ = zA
        obtain ⟨gv, hgv, hTv, hgvg, hgv2, hBA, hcq⟩ := al_ev hxa hHeld.1 hB3_
        rw [← hgv]
        clear hxa
        replace hgv := Lib.hid hgv
        refine hkO hK ⟨hcq, trivial⟩ fun hHeld => ?_
        clear hK K
        refine rdO 24 fun K hK => ?_
        go_simp
        go_at_call 40
        refine (num_lgG hL4 hBA hHeld.1 hr4 hc4 hz4).mono ?_
        rintro e z4 ⟨x4, y4, b4_, rfl, he4, hB4_, hG4_, hcq, hL5⟩
        dsimp only
        replace hTv := hTv.f2 hG4_ hgvg
        refine hkO hK ⟨hcq, trivial⟩ fun hHeld => ?_
        clear hK K
        refine rdO 29 fun K hK => ?_
        go_simp
        go_at_call 40
        refine (num_lgG hL5 hB4_ hHeld.1 hr5 hc5 hz5).mono ?_
        rintro e z5 ⟨x5, y5, b5_, rfl, he5, hB5_, hG5_, hcq, hL6⟩
        dsimp only
        replace hTv := hTv.f2 hG5_ hgvg
        refine hkO hK ⟨hcq, trivial⟩ fun hHeld => ?_
        clear hK K
        refine rdO 34 fun K hK => ?_
        go_simp
        go_at_call 40
        refine (num_lgG hL6 hB5_ hHeld.1 hr6 hc6 hz6).mono ?_
        rintro e z6 ⟨x6, y6, b6_, rfl, he6, hB6_, hG6_, hcq, hL7⟩
        dsimp only
        replace hTv := hTv.f2 hG6_ hgvg
        refine hkO hK ⟨hcq, trivial⟩ fun hHeld => ?_
        clear hK K
        refine rdO 39 fun K hK => ?_
        go_simp
        go_at_call 41
        refine (str_lgG hL7 hB6_ hHeld.1 hr7 hc7 hz7).mono ?_
        rintro e z7 ⟨s7, y7, b7_, rfl, he7, hB7_, hG7_, hcq, hL8⟩
        dsimp only
        replace hTv := hTv.f2 hG7_ hgvg
        refine hkO hK ⟨hcq, trivial⟩ fun hHeld => ?_
        clear hK K
        refine rdO 44 fun K hK => ?_
        go_simp
        go_at_call 41
        refine (str_lgG hL8 hB7_ hHeld.1 hr8 hc8 hz8).mono ?_
        rintro e z8 ⟨s8, y8, b8_, rfl, he8, hB8_, hG8_, hcq, hL9⟩
        dsimp only
        replace hTv := hTv.f2 hG8_ hgvg
        refine hkO hK ⟨hcq, trivial⟩ fun hHeld => ?_
        clear hK K
        refine tkV 45 (v := .agg (evB x0 x1 s2 s3 x4 x5 x6 s7 s8)) rfl (yields_evB (by rfl) rfl (by kernel_rfl)) ?_
        refine rdO 47 fun K hK => ?_
        have hth := hTv.there (n := (evB x0 x1 s2 s3 x4 x5 x6 s7 s8).size) (Nat.le_refl _)
        refine step_store_mid 43 _ _ rfl rfl gv 0 (evB x0 x1 s2 s3 x4 x5 x6 s7 s8) rfl rfl hth evB_info evB_one ?_
        have hcq := GB.setv hHeld.1 hgv2 0 (evB x0 x1 s2 s3 x4 x5 x6 s7 s8).toList
        refine hkO hK ⟨hcq, trivial⟩ fun hHeld => ?_
        clear hK K
        refine wpAnyH_done (by kernel_rfl) ?_ _
        have hGl := hHeld.1
        clear hHeld
        repeat' ((fail_if_success at_builtin); first | go_skip | go_guarded | go_step)
        go_meet
        case rel => exact ⟨_, gv, y0, y1, y2, y3, y4, y5, y6, y7, y8, x0, x1, x4, x5, x6, s2, s3, s7, s8, b8_, rfl, (by first | rfl | (rw [hgv.out]) | (rw [hgv.out]; rfl)), hgv2, hTv.setAll rfl, hB8_.setv hgvg, hGl, hL9, he0, he1, he2, he3, he4, he5, he6, he7, he8⟩
       exact AllReadyH.nil
      refine rdC (fun K hK => ?_) ?_
      ·go_simp
       generalize hxa : World.alloc _ _ = zA
       obtain ⟨gv, hgv, hTv, hgvg, hgv2, hBA, hcq⟩ := al_ev hxa hHeld.1 hB2_
       rw [← hgv]
       clear hxa
       replace hgv := Lib.hid hgv
       refine hkO hK ⟨hcq, trivial⟩ fun hHeld => ?_
       clear hK K
       refine rdO 19 fun K hK => ?_
       go_simp
       go_at_call 41
       refine (str_lgG hL3 hBA hHeld.1 hr3 hc3 hz3).mono ?_
       rintro e z3 ⟨s3, y3, b3_, rfl, he3, hB3_, hG3_, hcq, hL4⟩
       dsimp only
       replace hTv := hTv.f2 hG3_ hgvg
       refine hkO hK ⟨hcq, trivial⟩ fun hHeld => ?_
       clear hK K
       refine rdO 24 fun K hK => ?_
       go_simp
       go_at_call 40
       refine (num_lgG hL4 hB3_ hHeld.1 hr4 hc4 hz4).mono ?_
       rintro e z4 ⟨x4, y4, b4_, rfl, he4, hB4_, hG4_, hcq, hL5⟩
       dsimp only
       replace hTv := hTv.f2 hG4_ hgvg
       refine hkO hK ⟨hcq, trivial⟩ fun hHeld => ?_
       clear hK K
       refine rdO 29 fun K hK => ?_
       go_simp
       go_at_call 40
       refine (num_lgG hL5 hB4_ hHeld.1 hr5 hc5 hz5).mono ?_
       rintro e z5 ⟨x5, y5, b5_, rfl, he5, hB5_, hG5_, hcq, hL6⟩
       dsimp only
       replace hTv := hTv.f2 hG5_ hgvg
       refine hkO hK ⟨hcq, trivial⟩ fun hHeld => ?_
       clear hK K
       refine rdO 34 fun K hK => ?_
       go_simp
       go_at_call 40
       refine (num_lgG hL6 hB5_ hHeld.1 hr6 hc6 hz6).mono ?_
       rintro e z6 ⟨x6, y6, b6_, rfl, he6, hB6_, hG6_, hcq, hL7⟩
       dsimp only
       replace hTv := hTv.f2 hG6_ hgvg
       refine hkO hK ⟨hcq, trivial⟩ fun hHeld => ?_
       clear hK K
       refine rdO 39 fun K hK => ?_
       go_simp
       go_at_call 41
       refine (str_lgG hL7 hB6_ hHeld.1 hr7 hc7 hz7).mono ?_
       rintro e z7 ⟨s7, y7, b7_, rfl, he7, hB7_, hG7_, hcq, hL8⟩
       dsimp only
       replace hTv := hTv.f2 hG7_ hgvg
       refine hkO hK ⟨hcq, trivial⟩ fun hHeld => ?_
       clear hK K
       refine rdO 44 fun K hK => ?_
       go_simp
       go_at_call 41
       refine (str_lgG hL8 hB7_ hHeld.1 hr8 hc8 hz8).mono ?_
       rintro e z8 ⟨s8, y8, b8_, rfl, he8, hB8_, hG8_, hcq, hL9⟩
       dsimp only
       replace hTv := hTv.f2 hG8_ hgvg
       refine hkO hK ⟨hcq, trivial⟩ fun hHeld => ?_
       clear hK K
       refine tkV 45 (v := .agg (evB x0 x1 s2 s3 x4 x5 x6 s7 s8)) rfl (yields_evB (by rfl) rfl (by kernel_rfl)) ?_
       refine rdO 47 fun K hK => ?_
       have hth := hTv.there (n := (evB x0 x1 s2 s3 x4 x5 x6 s7 s8).size) (Nat.le_refl _)
       refine step_store_mid 43 _ _ rfl rfl gv 0 (evB x0 x1 s2 s3 x4 x5 x6 s7 s8) rfl rfl hth evB_info evB_one ?_
       have hcq := GB.setv hHeld.1 hgv2 0 (evB x0 x1 s2 s3 x4 x5 x6 s7 s8).toList
       refine hkO hK ⟨hcq, trivial⟩ fun hHeld => ?_
       clear hK K
       refine wpAnyH_done (by kernel_rfl) ?_ _
       have hGl := hHeld.1
       clear hHeld
       repeat' ((fail_if_success at_builtin); first | go_skip | go_guarded | go_step)
       go_meet
       case rel => exact ⟨_, gv, y0, y1, y2, y3, y4, y5, y6, y7, y8, x0, x1, x4, x5, x6, s2, s3, s7, s8, b8_, rfl, (by first | rfl | (rw [hgv.out]) | (rw [hgv.out]; rfl)), hgv2, hTv.setAll rfl, hB8_.setv hgvg, hGl, hL9, he0, he1, he2, he3, he4, he5, he6, he7, he8⟩
      exact AllReadyH.nil
     refine rdC (fun K hK => ?_) ?_
     ·go_simp
      generalize hxa : World.alloc _ _ = zA
      obtain ⟨gv, hgv, hTv, hgvg, hgv2, hBA, hcq⟩ := al_ev hxa hHeld.1 hB1_
      rw [← hgv]
      clear hxa
      replace hgv := Lib.hid hgv
      refine hkO hK ⟨hcq, trivial⟩ fun hHeld => ?_
      clear hK K
      refine rdO 14 fun K hK => ?_
      go_simp
      go_at_call 41
      refine (str_lgG hL2 hBA hHeld.1 hr2 hc2 hz2).mono ?_
      rintro e z2 ⟨s2, y2, b2_, rfl, he2, hB2_, hG2_, hcq, hL3⟩
      dsimp only
      replace hTv := hTv.f2 hG2_ hgvg
      refine hkO hK ⟨hcq, trivial⟩ fun hHeld => ?_
      clear hK K
      refine rdO 19 fun K hK => ?_
      go_simp
      go_at_call 41
      refine (str_lgG hL3 hB2_ hHeld.1 hr3 hc3 hz3).mono ?_
      rintro e z3 ⟨s3, y3, b3_, rfl, he3, hB3_, hG3_, hcq, hL4⟩
      dsimp only
      replace hTv := hTv.f2 hG3_ hgvg
      refine hkO hK ⟨hcq, trivial⟩ fun hHeld => ?_
      clear hK K
      refine rdO 24 fun K hK => ?_
      go_simp
      go_at_call 40
      refine (num_lgG hL4 hB3_ hHeld.1 hr4 hc4 hz4).mono ?_
      rintro e z4 ⟨x4, y4, b4_, rfl, he4, hB4_, hG4_, hcq, hL5⟩
      dsimp only
      replace hTv := hTv.f2 hG4_ hgvg
      refine hkO hK ⟨hcq, trivial⟩ fun hHeld => ?_
      clear hK K
      refine rdO 29 fun K hK => ?_
      go_simp
      go_at_call 40
      refine (num_lgG hL5 hB4_ hHeld.1 hr5 hc5 hz5).mono ?_
      rintro e z5 ⟨x5, y5, b5_, rfl, he5, hB5_, hG5_, hcq, hL6⟩
      dsimp only
      replace hTv := hTv.f2 hG5_ hgvg
      refine hkO hK ⟨hcq, trivial⟩ fun hHeld => ?_
      clear hK K
      refine rdO 34 fun K hK => ?_
      go_simp
      go_at_call 40
      refine (num_lgG hL6 hB5_ hHeld.1 hr6 hc6 hz6).mono ?_
      rintro e z6 ⟨x6, y6, b6_, rfl, he6, hB6_, hG6_, hcq, hL7⟩
      dsimp only
      replace hTv := hTv.f2 hG6_ hgvg
      refine hkO hK ⟨hcq, trivial⟩ fun hHeld => ?_
      clear hK K
      refine rdO 39 fun K hK => ?_
      go_simp
      go_at_call 41
      refine (str_lgG hL7 hB6_ hHeld.1 hr7 hc7 hz7).mono ?_
      rintro e z7 ⟨s7, y7, b7_, rfl, he7, hB7_, hG7_, hcq, hL8⟩
      dsimp only
      replace hTv := hTv.f2 hG7_ hgvg
      refine hkO hK ⟨hcq, trivial⟩ fun hHeld => ?_
      clear hK K
      refine rdO 44 fun K hK => ?_
      go_simp
      go_at_call 41
      refine (str_lgG hL8 hB7_ hHeld.1 hr8 hc8 hz8).mono ?_
      rintro e z8 ⟨s8, y8, b8_, rfl, he8, hB8_, hG8_, hcq, hL9⟩
      dsimp only
      replace hTv := hTv.f2 hG8_ hgvg
      refine hkO hK ⟨hcq, trivial⟩ fun hHeld => ?_
      clear hK K
      refine tkV 45 (v := .agg (evB x0 x1 s2 s3 x4 x5 x6 s7 s8)) rfl (yields_evB (by rfl) rfl (by kernel_rfl)) ?_
      refine rdO 47 fun K hK => ?_
      have hth := hTv.there (n := (evB x0 x1 s2 s3 x4 x5 x6 s7 s8).size) (Nat.le_refl _)
      refine step_store_mid 43 _ _ rfl rfl gv 0 (evB x0 x1 s2 s3 x4 x5 x6 s7 s8) rfl rfl hth evB_info evB_one ?_
      have hcq := GB.setv hHeld.1 hgv2 0 (evB x0 x1 s2 s3 x4 x5 x6 s7 s8).toList
      refine hkO hK ⟨hcq, trivial⟩ fun hHeld => ?_
      clear hK K
      refine wpAnyH_done (by kernel_rfl) ?_ _
      have hGl := hHeld.1
      clear hHeld
      repeat' ((fail_if_success at_builtin); first | go_skip | go_guarded | go_step)
      go_meet
      case rel => exact ⟨_, gv, y0, y1, y2, y3, y4, y5, y6, y7, y8, x0, x1, x4, x5, x6, s2, s3, s7, s8, b8_, rfl, (by first | rfl | (rw [hgv.out]) | (rw [hgv.out]; rfl)), hgv2, hTv.setAll rfl, hB8_.setv hgvg, hGl, hL9, he0, he1, he2, he3, he4, he5, he6, he7, he8⟩
     exact AllReadyH.nil
    refine rdC (fun K hK => ?_) ?_
    ·go_simp
     generalize hxa : World.alloc _ _ = zA
     obtain ⟨gv, hgv, hTv, hgvg, hgv2, hBA, hcq⟩ := al_ev hxa hHeld.1 hB0_
     rw [← hgv]
     clear hxa
     replace hgv := Lib.hid hgv
     refine hkO hK ⟨hcq, trivial⟩ fun hHeld => ?_
     clear hK K
     refine rdO 9 fun K hK => ?_
     go_simp
     go_at_call 40
     refine (num_lgG hL1 hBA hHeld.1 hr1 hc1 hz1).mono ?_
     rintro e z1 ⟨x1, y1, b1_, rfl, he1, hB1_, hG1_, hcq, hL2⟩
     dsimp only
     replace hTv := hTv.f2 hG1_ hgvg
     refine hkO hK ⟨hcq, trivial⟩ fun hHeld => ?_
     clear hK K
     refine rdO 14 fun K hK => ?_
     go_simp
     go_at_call 41
     refine (str_lgG hL2 hB1_ hHeld.1 hr2 hc2 hz2).mono ?_
     rintro e z2 ⟨s2, y2, b2_, rfl, he2, hB2_, hG2_, hcq, hL3⟩
     dsimp only
     replace hTv := hTv.f2 hG2_ hgvg
     refine hkO hK ⟨hcq, trivial⟩ fun hHeld => ?_
     clear hK K
     refine rdO 19 fun K hK => ?_
     go_simp
     go_at_call 41
     refine (str_lgG hL3 hB2_ hHeld.1 hr3 hc3 hz3).mono ?_
     rintro e z3 ⟨s3, y3, b3_, rfl, he3, hB3_, hG3_, hcq, hL4⟩
     dsimp only
     replace hTv := hTv.f2 hG3_ hgvg
     refine hkO hK ⟨hcq, trivial⟩ fun hHeld => ?_
     clear hK K
     refine rdO 24 fun K hK => ?_
     go_simp
     go_at_call 40
     refine (num_lgG hL4 hB3_ hHeld.1 hr4 hc4 hz4).mono ?_
     rintro e z4 ⟨x4, y4, b4_, rfl, he4, hB4_, hG4_, hcq, hL5⟩
     dsimp only
     replace hTv := hTv.f2 hG4_ hgvg
     refine hkO hK ⟨hcq, trivial⟩ fun hHeld => ?_
     clear hK K
     refine rdO 29 fun K hK => ?_
     go_simp
     go_at_call 40
     refine (num_lgG hL5 hB4_ hHeld.1 hr5 hc5 hz5).mono ?_
     rintro e z5 ⟨x5, y5, b5_, rfl, he5, hB5_, hG5_, hcq, hL6⟩
     dsimp only
     replace hTv := hTv.f2 hG5_ hgvg
     refine hkO hK ⟨hcq, trivial⟩ fun hHeld => ?_
     clear hK K
     refine rdO 34 fun K hK => ?_
     go_simp
     go_at_call 40
     refine (num_lgG hL6 hB5_ hHeld.1 hr6 hc6 hz6).mono ?_
     rintro e z6 ⟨x6, y6, b6_, rfl, he6, hB6_, hG6_, hcq, hL7⟩
     dsimp only
     replace hTv := hTv.f2 hG6_ hgvg
     refine hkO hK ⟨hcq, trivial⟩ fun hHeld => ?_
     clear hK K
     refine rdO 39 fun K hK => ?_
     go_simp
     go_at_call 41
     refine (str_lgG hL7 hB6_ hHeld.1 hr7 hc7 hz7).mono ?_
     rintro e z7 ⟨s7, y7, b7_, rfl, he7, hB7_, hG7_, hcq, hL8⟩
     dsimp only
     replace hTv := hTv.f2 hG7_ hgvg
     refine hkO hK ⟨hcq, trivial⟩ fun hHeld => ?_
     clear hK K
     refine rdO 44 fun K hK => ?_
     go_simp
     go_at_call 41
     refine (str_lgG hL8 hB7_ hHeld.1 hr8 hc8 hz8).mono ?_
     rintro e z8 ⟨s8, y8, b8_, rfl, he8, hB8_, hG8_, hcq, hL9⟩
     dsimp only
     replace hTv := hTv.f2 hG8_ hgvg
     refine hkO hK ⟨hcq, trivial⟩ fun hHeld => ?_
     clear hK K
     refine tkV 45 (v := .agg (evB x0 x1 s2 s3 x4 x5 x6 s7 s8)) rfl (yields_evB (by rfl) rfl (by kernel_rfl)) ?_
     refine rdO 47 fun K hK => ?_
     have hth := hTv.there (n := (evB x0 x1 s2 s3 x4 x5 x6 s7 s8).size) (Nat.le_refl _)
     refine step_store_mid 43 _ _ rfl rfl gv 0 (evB x0 x1 s2 s3 x4 x5 x6 s7 s8) rfl rfl hth evB_info evB_one ?_
     have hcq := GB.setv hHeld.1 hgv2 0 (evB x0 x1 s2 s3 x4 x5 x6 s7 s8).toList
     refine hkO hK ⟨hcq, trivial⟩ fun hHeld => ?_
     clear hK K
     refine wpAnyH_done (by kernel_rfl) ?_ _
     have hGl := hHeld.1
     clear hHeld
     repeat' ((fail_if_success at_builtin); first | go_skip | go_guarded | go_step)
     go_meet
     case rel => exact ⟨_, gv, y0, y1, y2, y3, y4, y5, y6, y7, y8, x0, x1, x4, x5, x6, s2, s3, s7, s8, b8_, rfl, (by first | rfl | (rw [hgv.out]) | (rw [hgv.out]; rfl)), hgv2, hTv.setAll rfl, hB8_.setv hgvg, hGl, hL9, he0, he1, he2, he3, he4, he5, he6, he7, he8⟩
    exact AllReadyH.nil
   refine rdC (fun K hK => ?_) ?_
   ·go_simp
    generalize hxa : World.drew _ = zA
    have hal : Below w5.heap.size w5 zA := by rw [← hxa]; exact ((Below.refl _ _).alloc (Nat.le_refl _) _).drew
    have hTv : Tgt zA w5.heap.size 0 evZ := by
     rw [← hxa]
     have q := Tgt.new w5 evZ.toArray 43
     exact ⟨q.lt, q.at_, q.fr⟩
    obtain ⟨gv, hgv⟩ : ∃ gv, gv = w5.heap.size := ⟨_, rfl⟩
    rw [← hgv] at hTv ⊢
    have hgvg : gv ≠ g := by have h9 : g < w5.heap.size := hBd.lt; omega
    have hgv2 : w5.heap.size ≤ gv := Nat.le_of_eq hgv.symm
    have hBA := BK.below (⟨hBd.lt, hBd.c, hBd.fr⟩ : BK w5 g b2) hal
    have hcq : GB w5 zA g := GB.of hal
    clear hxa
    replace hgv := Lib.hid hgv
    refine hkO hK ⟨hcq, trivial⟩ fun hHeld => ?_
    clear hK K
    refine rdO 4 fun K hK => ?_
    go_simp
    go_at_call 40
    refine (num_lgG (LG.nil b2) hBA hHeld.1 hr0 hc0 hz0).mono ?_
    rintro e z0 ⟨x0, y0, b0_, rfl, he0, hB0_, hG0_, hcq, hL1⟩
    dsimp only
    replace hTv := hTv.f2 hG0_ hgvg
    refine hkO hK ⟨hcq, trivial⟩ fun hHeld => ?_
    clear hK K
    refine rdO 9 fun K hK => ?_
    go_simp
    go_at_call 40
    refine (num_lgG hL1 hB0_ hHeld.1 hr1 hc1 hz1).mono ?_
    rintro e z1 ⟨x1, y1, b1_, rfl, he1, hB1_, hG1_, hcq, hL2⟩
    dsimp only
    replace hTv := hTv.f2 hG1_ hgvg
    refine hkO hK ⟨hcq, trivial⟩ fun hHeld => ?_
    clear hK K
    refine rdO 14 fun K hK => ?_
    go_simp
    go_at_call 41
    refine (str_lgG hL2 hB1_ hHeld.1 hr2 hc2 hz2).mono ?_
    rintro e z2 ⟨s2, y2, b2_, rfl, he2, hB2_, hG2_, hcq, hL3⟩
    dsimp only
    replace hTv := hTv.f2 hG2_ hgvg
    refine hkO hK ⟨hcq, trivial⟩ fun hHeld => ?_
    clear hK K
    refine rdO 19 fun K hK => ?_
    go_simp
    go_at_call 41
    refine (str_lgG hL3 hB2_ hHeld.1 hr3 hc3 hz3).mono ?_
    rintro e z3 ⟨s3, y3, b3_, rfl, he3, hB3_, hG3_, hcq, hL4⟩
    dsimp only
    replace hTv := hTv.f2 hG3_ hgvg
    refine hkO hK ⟨hcq, trivial⟩ fun hHeld => ?_
    clear hK K
    refine rdO 24 fun K hK => ?_
    go_simp
    go_at_call 40
    refine (num_lgG hL4 hB3_ hHeld.1 hr4 hc4 hz4).mono ?_
    rintro e z4 ⟨x4, y4, b4_, rfl, he4, hB4_, hG4_, hcq, hL5⟩
    dsimp only
    replace hTv := hTv.f2 hG4_ hgvg
    refine hkO hK ⟨hcq, trivial⟩ fun hHeld => ?_
    clear hK K
    refine rdO 29 fun K hK => ?_
    go_simp
    go_at_call 40
    refine (num_lgG hL5 hB4_ hHeld.1 hr5 hc5 hz5).mono ?_
    rintro e z5 ⟨x5, y5, b5_, rfl, he5, hB5_, hG5_, hcq, hL6⟩
    dsimp only
    replace hTv := hTv.f2 hG5_ hgvg
    refine hkO hK ⟨hcq, trivial⟩ fun hHeld => ?_
    clear hK K
    refine rdO 34 fun K hK => ?_
    go_simp
    go_at_call 40
    refine (num_lgG hL6 hB5_ hHeld.1 hr6 hc6 hz6).mono ?_
    rintro e z6 ⟨x6, y6, b6_, rfl, he6, hB6_, hG6_, hcq, hL7⟩
    dsimp only
    replace hTv := hTv.f2 hG6_ hgvg
    refine hkO hK ⟨hcq, trivial⟩ fun hHeld => ?_
    clear hK K
    refine rdO 39 fun K hK => ?_
    go_simp
    go_at_call 41
    refine (str_lgG hL7 hB6_ hHeld.1 hr7 hc7 hz7).mono ?_
    rintro e z7 ⟨s7, y7, b7_, rfl, he7, hB7_, hG7_, hcq, hL8⟩
    dsimp only
    replace hTv := hTv.f2 hG7_ hgvg
    refine hkO hK ⟨hcq, trivial⟩ fun hHeld => ?_
    clear hK K
    refine rdO 44 fun K hK => ?_
    go_simp
    go_at_call 41
    refine (str_lgG hL8 hB7_ hHeld.1 hr8 hc8 hz8).mono ?_
    rintro e z8 ⟨s8, y8, b8_, rfl, he8, hB8_, hG8_, hcq, hL9⟩
    dsimp only
    replace hTv := hTv.f2 hG8_ hgvg
    refine hkO hK ⟨hcq, trivial⟩ fun hHeld => ?_
    clear hK K
    refine tkV 45 (v := .agg (evB x0 x1 s2 s3 x4 x5 x6 s7 s8)) rfl (yields_evB (by rfl) rfl (by kernel_rfl)) ?_
    refine rdO 47 fun K hK => ?_
    have hth := hTv.there (n := (evB x0 x1 s2 s3 x4 x5 x6 s7 s8).size) (Nat.le_refl _)
    refine step_store_mid 43 _ _ rfl rfl gv 0 (evB x0 x1 s2 s3 x4 x5 x6 s7 s8) rfl rfl hth evB_info evB_one ?_
    have hcq := GB.setv hHeld.1 hgv2 0 (evB x0 x1 s2 s3 x4 x5 x6 s7 s8).toList
    refine hkO hK ⟨hcq, trivial⟩ fun hHeld => ?_
    clear hK K
    refine wpAnyH_done (by kernel_rfl) ?_ _
    have hGl := hHeld.1
    clear hHeld
    repeat' ((fail_if_success at_builtin); first | go_skip | go_guarded | go_step)
    go_meet
    case rel => exact ⟨_, gv, y0, y1, y2, y3, y4, y5, y6, y7, y8, x0, x1, x4, x5, x6, s2, s3, s7, s8, b8_, rfl, (by first | rfl | (rw [hgv.out]) | (rw [hgv.out]; rfl)), hgv2, hTv.setAll rfl, hB8_.setv hgvg, hGl, hL9, he0, he1, he2, he3, he4, he5, he6, he7, he8⟩
   exact AllReadyH.nil
  case rest =>
   obtain ⟨wq, gv, y0, y1, y2, y3, y4, y5, y6, y7, y8, x0, x1, x4, x5, x6, s2, s3, s7, s8, b8_, rfl, rfl, hgv, hTx, hBx, hGx, hLx, hy0, hy1, hy2, hy3, hy4, hy5, hy6, hy7, hy8⟩ := hcut
   have hP := PE.start hBx hGx hgv hTx hLx hy0 hy1 hy2 hy3 hy4 hy5 hy6 hy7 hy8
   have hcs : ([.int .i64 x0, .int .i64 x1, .string s2, .string s3, .int .i64 x4, .int .i64 x5, .int .i64 x6, .string s7, .string s8] : List Value).length = 9 := rfl
   generalize ([.int .i64 x0, .int .i64 x1, .string s2, .string s3, .int .i64 x4, .int .i64 x5, .int .i64 x6, .string s7, .string s8] : List Value) = cs9 at hP hcs
   have hgg : gv ≠ g := by omega
   have hO9 : ∀ D ∈ ([.int, .int, .str, .str, .int, .int, .int, .str, .str] : List Cod), Cod.Ok D := (okc Cod.int_ok (okc Cod.int_ok (okc Cod.str_ok (okc Cod.str_ok (okc Cod.int_ok (okc Cod.int_ok (okc Cod.int_ok (okc Cod.str_ok (okc Cod.str_ok okn)))))))))
   clear hTx hBx hGx hLx hy0 hy1 hy2 hy3 hy4 hy5 hy6 hy7 hy8
   have hA9x := range_gb hA9 hP.gb hq1 hq2_
   repeat' (first | (refine wpList_load_mid rfl 98 _ rfl bq (oq + 36) rfl (fC p9 a9 k9_) _ hA9x Tryz.underlying98 rfl fld_sz ?_) | go_skip | go_guarded | go_step)
   refine (origin_b _ g b8_ p9 a9 k9_ hP.bk (rF_gb hr9 hP.gb) hc9 hz9).mono ?_
   rintro e v9 ⟨c9, rfl, y9, b9_, hB9, hG9, r9, m9, n9⟩
   dsimp only
   have hl9 : c9.length = 3 := Cod.origin_ok.len r9
   have ho9 : c9.toArray.all (·.oneCell') = true := by simpa using Cod.origin_ok.one _ _ _ _ r9
   have hi9 : (Tryz.prog.info? 23).map (·.size) = some c9.toArray.size := by rw [List.size_toArray, hl9]; kernel_rfl
   have hth9 := hP.there (n := c9.toArray.size) hcs hg5 hG9 (by rw [List.size_toArray, hl9]; rfl)
   obtain ⟨cs9, hcs9, hPn⟩ := hP.next hcs hO9 Cod.origin_ok hg5 hB9 hG9 r9 m9 n9 (by rw [hl9]; rfl) (show 9 + c9.length = 12 by rw [hl9])
   replace hi9 := Lib.hid hi9
   replace hl9 := Lib.hid hl9
   clear r9 m9 n9 hB9 hG9 hP hcs
   go_upto_region 8 with (first | (refine wpList_store_mid rfl 23 _ _ rfl gv 9 c9.toArray rfl rfl hth9 hi9.out ho9 ?_))
   generalize hx_ : World.setCells _ _ _ _ = u9
   have hx2 : v9.setCells gv 9 c9 = u9 := hx_
   rw [hx2] at hPn
   have hcs := hcs9
   have hP := hPn
   have hO10 := ok_snoc hO9 Cod.origin_ok
   clear hx2 hx_ hPn hcs9 hO9 hth9 hi9 ho9
   have hA10x := range_gb hA10 hP.gb hq1 hq2_
   repeat' (first | (refine wpList_load_mid rfl 98 _ rfl bq (oq + 40) rfl (fC p10 a10 k10_) _ hA10x Tryz.underlying98 rfl fld_sz ?_) | go_skip | go_guarded | go_step)
   refine (vars_b _ g b9_ p10 a10 k10_ hP.bk (rF_gb hr10 hP.gb) hc10 hz10).mono ?_
   rintro e v10 ⟨u10, rfl, y10, b10_, hB10, hG10, r10, m10, n10⟩
   dsimp only
   obtain ⟨L10, B10, e10, he10, hv, hl10⟩ := r10
   injection hv with hv
   subst hv
   have r10 : (Cod.list Cod.vari).rp v10 (Fresh _ v10) y10 [.slice B10 L10.length e10] := ⟨L10, B10, e10, he10, rfl, hl10⟩
   obtain ⟨hc_, hf_⟩ := hP.cell hcs hg5 hG10
   obtain ⟨cs10, hcs10, hPn⟩ := hP.next hcs hO10 (Cod.list_ok Cod.vari_ok) hg5 hB10 hG10 r10 m10 n10 rfl (show 12 + 1 = 13 from rfl)
   clear r10 m10 n10 hB10 hG10 hP hcs he10 hl10
   go_upto_region 9 with (fail)
   generalize hx_ : World.setCell _ _ _ = u10
   have hx2 : v10.setCells gv 12 [.slice B10 L10.length e10] = u10 := hx_
   rw [hx2] at hPn
   have hcs := hcs10
   have hP := hPn
   have hO11 := ok_snoc hO10 (Cod.list_ok Cod.vari_ok)
   clear hx2 hx_ hPn hcs10 hO10 hc_ hf_
   have hA11x := range_gb hA11 hP.gb hq1 hq2_
   repeat' (first | (refine wpList_load_mid rfl 98 _ rfl bq (oq + 44) rfl (fC p11 a11 k11_) _ hA11x Tryz.underlying98 rfl fld_sz ?_) | go_skip | go_guarded | go_step)
   refine (times_b _ g b10_ p11 a11 k11_ hP.bk (rF_gb hr11 hP.gb) hc11 hz11).mono ?_
   rintro e v11 ⟨u11, rfl, y11, b11_, hB11, hG11, r11, m11, n11⟩
   dsimp only
   obtain ⟨L11, B11, e11, he11, hv, hl11⟩ := r11
   injection hv with hv
   subst hv
   have r11 : (Cod.list Cod.timing).rp v11 (Fresh _ v11) y11 [.slice B11 L11.length e11] := ⟨L11, B11, e11, he11, rfl, hl11⟩
   obtain ⟨hc_, hf_⟩ := hP.cell hcs hg5 hG11
   obtain ⟨cs11, hcs11, hPn⟩ := hP.next hcs hO11 (Cod.list_ok Cod.timing_ok) hg5 hB11 hG11 r11 m11 n11 rfl (show 13 + 1 = 14 from rfl)
   clear r11 m11 n11 hB11 hG11 hP hcs he11 hl11
   go_upto_region 10 with (fail)
   generalize hx_ : World.setCell _ _ _ = u11
   have hx2 : v11.setCells gv 13 [.slice B11 L11.length e11] = u11 := hx_
   rw [hx2] at hPn
   have hcs := hcs11
   have hP := hPn
   have hO12 := ok_snoc hO11 (Cod.list_ok Cod.timing_ok)
   clear hx2 hx_ hPn hcs11 hO11 hc_ hf_
   have hA12x := range_gb hA12 hP.gb hq1 hq2_
   repeat' (first | (refine wpList_load_mid rfl 98 _ rfl bq (oq + 48) rfl (fC p12 a12 k12_) _ hA12x Tryz.underlying98 rfl fld_sz ?_) | go_skip | go_guarded | go_step)
   refine (result_b _ g b11_ p12 a12 k12_ hP.bk (rF_gb hr12 hP.gb) hc12 hz12).mono ?_
   rintro e v12 ⟨c12, rfl, y12, b12_, hB12, hG12, r12, m12, n12⟩
   dsimp only
   have hl12 : c12.length = 6 := Cod.result_ok.len r12
   have ho12 : c12.toArray.all (·.oneCell') = true := by simpa using Cod.result_ok.one _ _ _ _ r12
   have hi12 : (Tryz.prog.info? 29).map (·.size) = some c12.toArray.size := by rw [List.size_toArray, hl12]; kernel_rfl
   have hth12 := hP.there (n := c12.toArray.size) hcs hg5 hG12 (by rw [List.size_toArray, hl12]; rfl)
   obtain ⟨cs12, hcs12, hPn⟩ := hP.next hcs hO12 Cod.result_ok hg5 hB12 hG12 r12 m12 n12 (by rw [hl12]; rfl) (show 14 + c12.length = 20 by rw [hl12])
   replace hi12 := Lib.hid hi12
   replace hl12 := Lib.hid hl12
   clear r12 m12 n12 hB12 hG12 hP hcs
   go_upto_region 11 with (first | (refine wpList_store_mid rfl 29 _ _ rfl gv 14 c12.toArray rfl rfl hth12 hi12.out ho12 ?_))
   generalize hx_ : World.setCells _ _ _ _ = u12
   have hx2 : v12.setCells gv 14 c12 = u12 := hx_
   rw [hx2] at hPn
   have hcs := hcs12
   have hP := hPn
   have hO13 := ok_snoc hO12 Cod.result_ok
   clear hx2 hx_ hPn hcs12 hO12 hth12 hi12 ho12
   have hA13x := range_gb hA13 hP.gb hq1 hq2_
   repeat' (first | (refine wpList_load_mid rfl 98 _ rfl bq (oq + 52) rfl (fC p13 a13 k13_) _ hA13x Tryz.underlying98 rfl fld_sz ?_) | go_skip | go_guarded | go_step)
   refine (worker_b _ g b12_ p13 a13 k13_ hP.bk (rF_gb hr13 hP.gb) hc13 hz13).mono ?_
   rintro e v13 ⟨c13, rfl, y13, b13_, hB13, hG13, r13, m13, n13⟩
   dsimp only
   have hl13 : c13.length = 9 := Cod.machine_ok.len r13
   have ho13 : c13.toArray.all (·.oneCell') = true := by simpa using Cod.machine_ok.one _ _ _ _ r13
   have hi13 : (Tryz.prog.info? 33).map (·.size) = some c13.toArray.size := by rw [List.size_toArray, hl13]; kernel_rfl
   have hth13 := hP.there (n := c13.toArray.size) hcs hg5 hG13 (by rw [List.size_toArray, hl13]; rfl)
   obtain ⟨cs13, hcs13, hPn⟩ := hP.next hcs hO13 Cod.machine_ok hg5 hB13 hG13 r13 m13 n13 (by rw [hl13]; rfl) (show 20 + c13.length = 29 by rw [hl13])
   replace hi13 := Lib.hid hi13
   replace hl13 := Lib.hid hl13
   clear r13 m13 n13 hB13 hG13 hP hcs
   go_upto_region 12 with (first | (refine wpList_store_mid rfl 33 _ _ rfl gv 20 c13.toArray rfl rfl hth13 hi13.out ho13 ?_))
   generalize hx_ : World.setCells _ _ _ _ = u13
   have hx2 : v13.setCells gv 20 c13 = u13 := hx_
   rw [hx2] at hPn
   have hcs := hcs13
   have hP := hPn
   have hO14 := ok_snoc hO13 Cod.machine_ok
   clear hx2 hx_ hPn hcs13 hO13 hth13 hi13 ho13
   have hA14x := range_gb hA14 hP.gb hq1 hq2_
   repeat' (first | (refine wpList_load_mid rfl 98 _ rfl bq (oq + 56) rfl (fC p14 a14 k14_) _ hA14x Tryz.underlying98 rfl fld_sz ?_) | go_skip | go_guarded | go_step)
   refine (secret_b _ g b13_ p14 a14 k14_ hP.bk (rF_gb hr14 hP.gb) hc14 hz14).mono ?_
   rintro e v14 ⟨c14, rfl, y14, b14_, hB14, hG14, r14, m14, n14⟩
   dsimp only
   have hl14 : c14.length = 5 := Cod.secret_ok.len r14
   have ho14 : c14.toArray.all (·.oneCell') = true := by simpa using Cod.secret_ok.one _ _ _ _ r14
   have hi14 : (Tryz.prog.info? 35).map (·.size) = some c14.toArray.size := by rw [List.size_toArray, hl14]; kernel_rfl
   have hth14 := hP.there (n := c14.toArray.size) hcs hg5 hG14 (by rw [List.size_toArray, hl14]; rfl)
   obtain ⟨cs14, hcs14, hPn⟩ := hP.next hcs hO14 Cod.secret_ok hg5 hB14 hG14 r14 m14 n14 (by rw [hl14]; rfl) (show 29 + c14.length = 34 by rw [hl14])
   replace hi14 := Lib.hid hi14
   replace hl14 := Lib.hid hl14
   clear r14 m14 n14 hB14 hG14 hP hcs
   go_upto_region 13 with (first | (refine wpList_store_mid rfl 35 _ _ rfl gv 29 c14.toArray rfl rfl hth14 hi14.out ho14 ?_))
   generalize hx_ : World.setCells _ _ _ _ = u14
   have hx2 : v14.setCells gv 29 c14 = u14 := hx_
   rw [hx2] at hPn
   have hcs := hcs14
   have hP := hPn
   have hO15 := ok_snoc hO14 Cod.secret_ok
   clear hx2 hx_ hPn hcs14 hO14 hth14 hi14 ho14
   have hA15x := range_gb hA15 hP.gb hq1 hq2_
   repeat' (first | (refine wpList_load_mid rfl 98 _ rfl bq (oq + 60) rfl (fC p15 a15 k15_) _ hA15x Tryz.underlying98 rfl fld_sz ?_) | go_skip | go_guarded | go_step)
   refine (entry_b _ g b14_ p15 a15 k15_ hP.bk (rF_gb hr15 hP.gb) hc15 hz15).mono ?_
   rintro e v15 ⟨c15, rfl, y15, b15_, hB15, hG15, r15, m15, n15⟩
   dsimp only
   have hl15 : c15.length = 8 := Cod.entry_ok.len r15
   have ho15 : c15.toArray.all (·.oneCell') = true := by simpa using Cod.entry_ok.one _ _ _ _ r15
   have hi15 : (Tryz.prog.info? 41).map (·.size) = some c15.toArray.size := by rw [List.size_toArray, hl15]; kernel_rfl
   have hth15 := hP.there (n := c15.toArray.size) hcs hg5 hG15 (by rw [List.size_toArray, hl15]; rfl)
   obtain ⟨cs15, hcs15, hPn⟩ := hP.next hcs hO15 Cod.entry_ok hg5 hB15 hG15 r15 m15 n15 (by rw [hl15]; rfl) (show 34 + c15.length = 42 by rw [hl15])
   replace hi15 := Lib.hid hi15
   replace hl15 := Lib.hid hl15
   clear r15 m15 n15 hB15 hG15 hP hcs
   go_upto_region 14 with (first | (refine wpList_store_mid rfl 41 _ _ rfl gv 34 c15.toArray rfl rfl hth15 hi15.out ho15 ?_))
   generalize hx_ : World.setCells _ _ _ _ = u15
   have hx2 : v15.setCells gv 34 c15 = u15 := hx_
   rw [hx2] at hPn
   have hcs := hcs15
   have hP := hPn
   have hO16 := ok_snoc hO15 Cod.entry_ok
   clear hx2 hx_ hPn hcs15 hO15 hth15 hi15 ho15
   have hP : PE w5 u15 g gv b2 evC evP [p0, p1, p2, p3, p4, p5, p6, p7, p8, p9, p10, p11, p12, p13, p14, p15] [y0, y1, y2, y3, y4, y5, y6, y7, y8, y9, y10, y11, y12, y13, y14, y15] cs15 [] b15_ := hP
   have hZz := (hZ5.f2 hP.gb (by omega))
   have hbwz : Below w.heap.size w u15 := hbw5.trans (GB.below hP.gb (by omega) hbw5.size)
   have hgvz := hP.tg.lt
   have hAz : u15.rangeAt gv 0 cs15 := by have q := hP.tg.at_; rwa [List.append_nil] at q
   have hfit := hP.fit (f := f) q1.out (fun h1 h2 h3 => q2.out h1 h2 h3)
   have hty := hP.ty
   have hbkc := hP.bk.c
   have hbkf := hP.bk.fr
   have hE1 : cs15.toArray.all (·.oneCell') = true := by simpa using hty.one evC_ok
   have hiE := Lib.hid (ev_info hcs)
   have hth := hZz.there (n := Zc.toArray.size) (Nat.le_refl _)
   have hfin : (u15.setCells w.heap.size 0 Zc.toArray.toList).rangeAt w.heap.size 0 Zc := World.rangeAt_setCells_same u15 w.heap.size 0 Zc hth
   have hbf : Below w.heap.size w (u15.setCells w.heap.size 0 Zc.toArray.toList) := setCells_below (Nat.le_refl _) _ _ _ hbwz
   generalize ([y0, y1, y2, y3, y4, y5, y6, y7, y8, y9, y10, y11, y12, y13, y14, y15] : List FV) = fsE at *
   clear hP hZ5 hbw5 hr0 hA0 hc0 hz0 hr1 hA1 hc1 hz1 hr2 hA2 hc2 hz2 hr3 hA3 hc3 hz3 hr4 hA4 hc4 hz4 hr5 hA5 hc5 hz5 hr6 hA6 hc6 hz6 hr7 hA7 hc7 hz7 hr8 hA8 hc8 hz8 hr9 hA9 hc9 hz9 hr10 hA10 hc10 hz10 hr11 hA11 hc11 hz11 hr12 hA12 hc12 hz12 hr13 hA13 hc13 hz13 hr14 hA14 hc14 hz14 hr15 hA15 hc15 hz15
   replace hcs := Lib.hid hcs
   cases b15_ with
   | true =>
    have hnf := Lib.hid (hfit.2 rfl)
    clear hfit
    repeat' (first | (refine wpList_build1 rfl 43 _ rfl (cells := Zc.toArray) (hbt _) ?_) | (refine wpList_store_mid rfl 43 _ _ rfl w.heap.size 0 Zc.toArray rfl rfl hth hiz.out hz1 ?_) | go_skip | go_guarded | go_step)
    refine bodyPost_ret (v := .tuple #[.agg Zc.toArray, .int .i64 5]) (run_res_two 2 3 43 w.heap.size 0 Zc _ _ rfl rfl rfl hfin Tryz.underlying43 rfl hiz.out) rfl ?_
    exact ⟨Zc, 5, rfl, hbf, Or.inr ⟨by decide, Or.inr ⟨f, hq2, Or.inl ⟨hnf.out, rfl⟩⟩, hZc.out⟩⟩
   | false =>
    obtain ⟨hfa, rfl⟩ := hfit.1 rfl
    have hER : EvR u15 (toL f) cs15 := ⟨hty.map evC_ok (fun _ _ => rfl) (fun x hx => hx.2.1), by omega⟩
    have CV := Lib.hid (rvalid_ev (toL f) cs15 u15 hER (by omega))
    replace hfa := Lib.hid hfa
    replace hty := Lib.hid hty
    replace hlz := Lib.hid hlz
    clear hfit hER hth hfin hbf
    repeat' (first | (refine wpList_load_mid rfl 43 _ rfl gv 0 rfl cs15 _ hAz Tryz.underlying43 rfl hiE.out ?_) | go_skip | go_guarded | go_step)
    refine CV.out.mono ?_
    clear CV
    rintro e w6 ⟨rfl, hb6⟩
    dsimp only
    have hZ6 := hZz.below hb6
    have hbw6 : Below w.heap.size w w6 := hbwz.trans (hb6.mono hbwz.size)
    have hth6 := hZ6.there (n := Zc.toArray.size) (Nat.le_refl _)
    have hA6 : w6.rangeAt gv 0 cs15 := range_up hAz hb6 hgvz
    by_cases hv : validF (toL f) = 0
    ·have z1 : (validF (toL f) == 0) = true := by simpa using hv
     have z2 : (validF (toL f) != 0) = false := by simp [hv]
     have hthE := hZ6.there (n := cs15.toArray.size) (by simp [hcs.out, hz42])
     have hfin6 : (w6.setCells w.heap.size 0 cs15.toArray.toList).rangeAt w.heap.size 0 cs15 := World.rangeAt_setCells_same w6 w.heap.size 0 cs15 hthE
     have hbf6 : Below w.heap.size w (w6.setCells w.heap.size 0 cs15.toArray.toList) := setCells_below (Nat.le_refl _) _ _ _ hbw6
     replace hv := Lib.hid hv
     repeat' (first | (refine wpList_load_mid rfl 43 _ rfl gv 0 rfl cs15 _ hA6 Tryz.underlying43 rfl hiE.out ?_) | (refine wpList_store_mid rfl 43 _ _ rfl w.heap.size 0 cs15.toArray rfl rfl hthE hiE.out hE1 ?_) | go_skip | go_guarded | go_step)
     refine bodyPost_ret (v := .tuple #[.agg cs15.toArray, .int .i64 0]) (run_res_two 2 3 43 w.heap.size 0 cs15 _ _ rfl rfl rfl hfin6 Tryz.underlying43 rfl hiE.out) rfl ?_
     refine ⟨cs15, 0, rfl, hbf6, Or.inl ⟨rfl, toL f, Or.inr ⟨f, hq2, Or.inr (Or.inr ⟨hfa.out, hv.out, rfl⟩)⟩, ?_⟩⟩
     refine hty.out.map evC_ok (fun p hp => ?_) (fun b hb => ⟨by have := hb.1; omega, ?_⟩)
     ·obtain ⟨j1, j2, _⟩ := hp
      exact (World.cell?_setCells_out w.heap.size cs15.toArray.toList 0 w6 p (fun h => absurd h (by omega))).trans (hb6.cell j2)
     ·have hb1 : b < u15.heap.size := hb.2.1
      rw [setCells_size2]
      exact Nat.lt_of_lt_of_le hb1 hb6.size
    ·have z1 : (validF (toL f) == 0) = false := by simpa using hv
     have z2 : (validF (toL f) != 0) = true := by simpa using hv
     have hfin6 : (w6.setCells w.heap.size 0 Zc.toArray.toList).rangeAt w.heap.size 0 Zc := World.rangeAt_setCells_same w6 w.heap.size 0 Zc hth6
     have hbf6 : Below w.heap.size w (w6.setCells w.heap.size 0 Zc.toArray.toList) := setCells_below (Nat.le_refl _) _ _ _ hbw6
     replace hv := Lib.hid hv
     repeat' (first | (refine wpList_build1 rfl 43 _ rfl (cells := Zc.toArray) (hbt _) ?_) | (refine wpList_store_mid rfl 43 _ _ rfl w.heap.size 0 Zc.toArray rfl rfl hth6 hiz.out hz1 ?_) | go_skip | go_guarded | go_step)
     refine bodyPost_ret (v := .tuple #[.agg Zc.toArray, .int .i64 (validF (toL f))]) (run_res_two 2 3 43 w.heap.size 0 Zc _ _ rfl rfl rfl hfin6 Tryz.underlying43 rfl hiz.out) rfl ?_
     exact ⟨Zc, validF (toL f), rfl, hbf6, Or.inr ⟨hv.out, Or.inr ⟨f, hq2, Or.inr (Or.inl ⟨hfa.out, hv.out, rfl⟩)⟩, hZc.out⟩⟩
end Go.Proofs.YtgdapkglofchjaaGreatDoor
