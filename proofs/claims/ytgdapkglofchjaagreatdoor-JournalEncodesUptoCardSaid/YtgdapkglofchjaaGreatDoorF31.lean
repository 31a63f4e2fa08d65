/- Joined: JnU JEncodes. -/
import Derived.Test.YtgdapkglofchjaaGreatDoorF30
set_option maxRecDepth 100000
set_option maxHeartbeats 2000000
set_option linter.unusedVariables false
namespace Go.Proofs.YtgdapkglofchjaaGreatDoor
open Go.RowKit
theorem encodes_law (fs fs' : List FV) (E E' : List Value) (w : World) (h : EvR w fs E) (h' : EvR w fs' E') (hz : lsz fs ≤ 9000000) : Calls Tryz.prog 3 #[.agg E.toArray, .agg E'.toArray] w fun e w' => e = .returned (.bool true) ∧ Below w.heap.size w w' := by
 go_enter Tryz.func3, Tryz.ntmps3
 go_upto_region 1 with (fail)
 obtain ⟨hA, hA', hlt1, hb0⟩ := two_allocs w E E' 43
 generalize World.alloc (World.alloc w _) _ = w1 at *
 have hlt0 : w.heap.size < w1.heap.size := by omega
 have hi := ev_info h.len
 have hi' := ev_info h'.len
 have hlen := Lib.hid (encF_len h)
 replace h := Lib.hid h
 replace h' := Lib.hid h'
 replace hz := Lib.hid hz
 repeat' (first | (refine wpList_load_mid rfl 43 _ rfl w.heap.size 0 rfl E _ hA Tryz.underlying43 rfl hi ?_) | go_skip | go_guarded | go_step)
 refine (great_any fs E w1 (h.out.up hb0)).mono ?_
 rintro e w2 ⟨b1, rfl, hb2⟩
 dsimp only
 have hA2 := range_up hA hb2 hlt0
 have hA2' := range_up hA' hb2 hlt1
 have hbw2 : Below w.heap.size w w2 := hb0.trans (hb2.mono hb0.size)
 cases b1 with
 | true =>
  repeat' (first | go_skip | go_guarded | go_step)
  refine (lives_any w2).mono ?_
  rintro e w3 ⟨rfl, hbq⟩
  dsimp only
  repeat' (first | go_skip | go_guarded | go_step)
  go_ret
  exact ⟨rfl, hbw2.trans (hbq.mono hbw2.size)⟩
 | false =>
  repeat' (first | (refine wpList_load_midG 43 _ rfl (w.heap.size + 1) 0 rfl (by rfl) E' _ hA2' Tryz.underlying43 rfl hi' ?_) | go_skip | go_guarded | go_step)
  refine (great_any fs' E' w2 (h'.out.up hbw2)).mono ?_
  rintro e w3 ⟨b2, rfl, hb3⟩
  dsimp only
  have hA3 := range_up hA2 hb3 (Nat.lt_of_lt_of_le hlt0 hb2.size)
  have hA3' := range_up hA2' hb3 (Nat.lt_of_lt_of_le hlt1 hb2.size)
  have hbw3 : Below w.heap.size w w3 := hbw2.trans (hb3.mono hbw2.size)
  have hs3 : w1.heap.size ≤ w3.heap.size := Nat.le_trans hb2.size hb3.size
  clear hA hA' hA2 hA2' hb0 hb2 hb3 hbw2
  cases b2 with
  | true =>
   repeat' (first | go_skip | go_guarded | go_step)
   refine (lives_any w3).mono ?_
   rintro e w4 ⟨rfl, hbq⟩
   dsimp only
   repeat' (first | go_skip | go_guarded | go_step)
   go_ret
   exact ⟨rfl, hbw3.trans (hbq.mono hbw3.size)⟩
  | false =>
   repeat' (first | (refine wpList_load_mid rfl 43 _ rfl w.heap.size 0 rfl E _ hA3 Tryz.underlying43 rfl hi ?_) | go_skip | go_guarded | go_step)
   refine (rvalid_ev fs E w3 (h.out.up hbw3) (by have := hz.out; omega)).mono ?_
   rintro e w4 ⟨rfl, hb4⟩
   dsimp only
   have hA4 := range_up hA3 hb4 (by omega)
   have hA4' := range_up hA3' hb4 (by omega)
   have hbw4 : Below w.heap.size w w4 := hbw3.trans (hb4.mono hbw3.size)
   have hs4 : w1.heap.size ≤ w4.heap.size := Nat.le_trans hs3 hb4.size
   clear hA3 hA3' hb4 hbw3 hs3
   repeat' (first | (refine wpList_load_mid rfl 43 _ rfl w.heap.size 0 rfl E _ hA4 Tryz.underlying43 rfl hi ?_) | go_skip | go_guarded | go_step)
   refine (penc_any fs E w4 (h.out.up hbw4) (by have := hz.out; omega)).mono ?_
   rintro e w5 ⟨A, c, he, hB⟩
   have hb5 := hB.2
   have hsq := hB.seq
   have hcp := hB.cap_le
   obtain ⟨n, hn⟩ : ∃ n, n = (encF fs).length := ⟨_, rfl⟩
   rw [← hn] at he hsq hcp
   replace hn := Lib.hid hn
   subst he
   dsimp only
   have hA5 := range_up hA4 hb5 (by omega)
   have hA5' := range_up hA4' hb5 (by omega)
   have hbw5 : Below w.heap.size w w5 := hbw4.trans (hb5.mono hbw4.size)
   have hs5 : w1.heap.size ≤ w5.heap.size := Nat.le_trans hs4 hb5.size
   clear hA4 hA4' hb5 hbw4 hs4 hB
   have hlt5 : w.heap.size < w5.heap.size := by omega
   have hlt5' : w.heap.size + 1 < w5.heap.size := by omega
   go_upto_region 5 with (fail)
   have hS0 : (Below w5.heap.size w5 w5 ∧ w5.rangeAt w.heap.size 0 E ∧ w5.rangeAt (w.heap.size + 1) 0 E') := ⟨Below.refl _ _, hA5, hA5'⟩
   have keepS : ∀ v1 v2 : World, (Below w5.heap.size w5 v1 ∧ v1.rangeAt w.heap.size 0 E ∧ v1.rangeAt (w.heap.size + 1) 0 E') → Below v1.heap.size v1 v2 → (Below w5.heap.size w5 v2 ∧ v2.rangeAt w.heap.size 0 E ∧ v2.rangeAt (w.heap.size + 1) 0 E') := fun v1 v2 h hb => ⟨h.1.trans (hb.mono h.1.size), range_up h.2.1 hb (Nat.lt_of_lt_of_le hlt5 h.1.size), range_up h.2.2 hb (Nat.lt_of_lt_of_le hlt5' h.1.size)⟩
   have hS1 : (Below w5.heap.size w5 w5.drew ∧ w5.drew.rangeAt w.heap.size 0 E ∧ w5.drew.rangeAt (w.heap.size + 1) 0 E') := keepS _ _ hS0 ((Below.refl _ _).drew)
   replace keepS := Lib.hid keepS
   clear hS0
   refine wp_region_held_drew (S := fun w' => Below w5.heap.size w5 w' ∧ w'.rangeAt w.heap.size 0 E ∧ w'.rangeAt (w.heap.size + 1) 0 E') (by kernel_rfl) ?_ (fun hHeld => ?_)
   ·(try dsimp only)
    exact hS1
   refine tkV 0 (v := .agg E.toArray) rfl (yieldsIf_load_mid (by rfl) 43 _ rfl w.heap.size 0 rfl E _ (fun v h => h.2.1) Tryz.underlying43 rfl hi) ?_
   refine tkQ 2 ?_
   refine rdO 1 fun K hK => ?_
   go_simp
   go_at_call 13
   refine (pvalid_any fs E _ (h.out.up (hbw5.trans (hHeld.1.mono hbw5.size))) (by have := hz.out; omega)).mono ?_
   rintro e z1 ⟨rfl, hbq⟩
   dsimp only
   refine hkO hK (keepS.out _ _ hHeld hbq) fun hHeld => ?_
   clear hK K
   refine tkQ 3 ?_
   refine tkQ 4 ?_
   refine tkQ 5 ?_
   refine tkV 6 (v := .agg E.toArray) rfl (yieldsIf_load_mid (by rfl) 43 _ rfl w.heap.size 0 rfl E _ (fun v h => h.2.1) Tryz.underlying43 rfl hi) ?_
   refine rdO 7 fun K hK => ?_
   go_simp
   go_at_call 15
   refine (renc_any fs E _ (h.out.up (hbw5.trans (hHeld.1.mono hbw5.size))) (by have := hz.out; omega)).mono ?_
   rintro e z2 ⟨A2, c2, rfl, hB2⟩
   dsimp only
   have hbq := hB2.2
   refine hkO hK (keepS.out _ _ hHeld hbq) fun hHeld => ?_
   clear hK K
   refine rdO 8 fun K hK => ?_
   go_simp
   go_at_call 14
   refine (bytesEq_any _ _ _ _ _ _ (encF fs) (encF fs) _ _ ((hsq.below hHeld.1).more hHeld.1.size) hB2.seq).mono ?_
   rintro e z3 ⟨rfl, rfl⟩
   dsimp only
   have hbq := Below.refl z2.heap.size z2
   rw [beq_self_eq_true]
   refine hkO hK (keepS.out _ _ hHeld hbq) fun hHeld => ?_
   clear hK K
   refine tkQ 9 ?_
   refine tkQ 10 ?_
   refine tkQ 11 ?_
   refine tkV 12 (v := .agg E.toArray) rfl (yieldsIf_load_mid (by rfl) 43 _ rfl w.heap.size 0 rfl E _ (fun v h => h.2.1) Tryz.underlying43 rfl hi) ?_
   refine tkV 13 (v := .agg E'.toArray) rfl (yieldsIf_load_mid (by rfl) 43 _ rfl (w.heap.size + 1) 0 rfl E' _ (fun v h => h.2.2) Tryz.underlying43 rfl hi') ?_
   refine tkV 15 (v := .agg E.toArray) rfl (yieldsIf_load_mid (by rfl) 43 _ rfl w.heap.size 0 rfl E _ (fun v h => h.2.1) Tryz.underlying43 rfl hi) ?_
   refine tkV 16 (v := .agg E'.toArray) rfl (yieldsIf_load_mid (by rfl) 43 _ rfl (w.heap.size + 1) 0 rfl E' _ (fun v h => h.2.2) Tryz.underlying43 rfl hi') ?_
   refine rdO 14 fun K hK => ?_
   go_simp
   go_at_call 16
   refine (psame_ev fs fs' E E' _ (h.out.up (hbw5.trans (hHeld.1.mono hbw5.size))) (h'.out.up (hbw5.trans (hHeld.1.mono hbw5.size)))).mono ?_
   rintro e z4 ⟨rfl, hbq⟩
   dsimp only
   refine hkO hK (keepS.out _ _ hHeld hbq) fun hHeld => ?_
   clear hK K
   refine rdO 17 fun K hK => ?_
   go_simp
   go_at_call 17
   refine (rsame_ev fs fs' E E' _ (h.out.up (hbw5.trans (hHeld.1.mono hbw5.size))) (h'.out.up (hbw5.trans (hHeld.1.mono hbw5.size)))).mono ?_
   rintro e z5 ⟨rfl, hbq⟩
   dsimp only
   refine hkO hK (keepS.out _ _ hHeld hbq) fun hHeld => ?_
   clear hK K
   refine tkQ 18 ?_
   refine tkQ 19 ?_
   refine tkQ 20 ?_
   refine tkV 21 (v := .agg E.toArray) rfl (yieldsIf_load_mid (by rfl) 43 _ rfl w.heap.size 0 rfl E _ (fun v h => h.2.1) Tryz.underlying43 rfl hi) ?_
   refine tkV 22 (v := .agg E.toArray) rfl (yieldsIf_load_mid (by rfl) 43 _ rfl w.heap.size 0 rfl E _ (fun v h => h.2.1) Tryz.underlying43 rfl hi) ?_
   refine rdO 23 fun K hK => ?_
   go_simp
   go_at_call 16
   refine (psame_ev fs fs E E _ (h.out.up (hbw5.trans (hHeld.1.mono hbw5.size))) (h.out.up (hbw5.trans (hHeld.1.mono hbw5.size)))).mono ?_
   rintro e z6 ⟨rfl, hbq⟩
   dsimp only
   rw [eqF_refl]
   refine hkO hK (keepS.out _ _ hHeld hbq) fun hHeld => ?_
   clear hK K
   refine tkQ 24 ?_
   refine tkQ 25 ?_
   refine wpAnyH_done (by kernel_rfl) ?_ _
   have hbW := hHeld.1
   clear hHeld hS1 keepS
   have hbw6 : Below w.heap.size w _ := hbw5.trans (hbW.mono hbw5.size)
   have hA6 := range_up hA5 hbW hlt5
   replace hsq := (hsq.below hbW).more hbW.size
   have hlt6 : w.heap.size < z6.heap.size := Nat.lt_of_lt_of_le hlt5 hbW.size
   clear hbW hbw5 hA5 hA5' hs5 hlt5 hlt5' hlt0 hlt1
   by_cases hv : validF fs = 0
   ·have z0 : (validF fs == 0) = true := by simpa using hv
    have z1 : (validF fs != 0) = false := by simp [hv]
    have C := pdec_any (encF fs) A n c z6 z6.heap.size hn.out.symm (by have := hlen.out; have := hz.out; have := hn.out; omega) hcp (Nat.le_refl _) hsq
    replace C := Lib.hid C
    replace hv := Lib.hid hv
    repeat' (first | go_skip | go_guarded | go_step)
    refine C.out.mono ?_
    clear C
    rintro e w7 ⟨E2, code, rfl, hb7, hcase⟩
    dsimp only
    have hcase : code = 0 ∧ RecL evC w7 (Fresh z6 w7) fs E2 := by
     rcases hcase with ⟨h0, gs, h1, h2⟩ | ⟨h0, h1, h2⟩
     ·have := h1.uniq (enc_back h.out hv.out).2.2
      injection this with this
      subst this
      exact ⟨h0, h2⟩
     ·have := h1.uniq (enc_back h.out hv.out).2.2
      cases this
    obtain ⟨rfl, hR⟩ := hcase
    have hE42 : E2.length = 42 := (hR.len evC_ok).1
    have hE1 : E2.toArray.all (·.oneCell') = true := by simpa using hR.one evC_ok
    have hEV : EvR w7 fs E2 := ⟨hR.map evC_ok (fun _ _ => rfl) (fun b hb => hb.2), h.out.sz⟩
    have hA7 := range_up hA6 hb7 hlt6
    clear hR hA6
    have hiE := Lib.hid (ev_info hE42)
    have hZ : Tgt (w7.alloc (.cells evZ.toArray 43)) w7.heap.size 0 evZ := Tgt.new w7 evZ.toArray _
    have hb8 : Below w7.heap.size w7 (w7.alloc (.cells evZ.toArray 43)) := (Below.refl _ _).alloc (Nat.le_refl _) _
    have hth := hZ.there (n := E2.toArray.size) (by rw [List.size_toArray, hE42]; decide)
    have hAE : ((w7.alloc (.cells evZ.toArray 43)).setCells w7.heap.size 0 E2.toArray.toList).rangeAt w7.heap.size 0 E2 := World.rangeAt_setCells_same _ w7.heap.size 0 E2 hth
    have hbE : Below w7.heap.size w7 ((w7.alloc (.cells evZ.toArray 43)).setCells w7.heap.size 0 E2.toArray.toList) := setCells_below (Nat.le_refl _) _ _ _ hb8
    go_upto_region 10 with (first | (refine wpList_store_mid rfl 43 _ _ rfl w7.heap.size 0 E2.toArray rfl rfl hth hiE.out hE1 ?_))
    generalize hx_ : World.setCells _ _ _ _ = w8
    have hx2 : (w7.alloc (.cells evZ.toArray 43)).setCells w7.heap.size 0 E2.toArray.toList = w8 := hx_
    rw [hx2] at hAE hbE
    clear hx2 hx_ hth hZ hb8
    have hA8 := range_up hA7 hbE (Nat.lt_of_lt_of_le hlt6 hb7.size)
    have hbw8 : Below w.heap.size w w8 := (hbw6.trans (hb7.mono hbw6.size)).trans (hbE.mono (Nat.le_trans hbw6.size hb7.size))
    have hEV8 := hEV.up hbE
    repeat' ((fail_if_success at_builtin); (first | (refine wpList_load_midG 43 _ rfl w.heap.size 0 rfl (by rfl) E _ hA8 Tryz.underlying43 rfl hi ?_) | (refine wpList_load_midG 43 _ rfl w7.heap.size 0 rfl (by rfl) E2 _ hAE Tryz.underlying43 rfl hiE.out ?_) | go_skip | go_guarded | go_step))
    have CS := rsame_ev fs fs E E2 w8 (h.out.up hbw8) hEV8
    rw [eqF_refl] at CS
    refine CS.mono ?_
    clear CS
    rintro e w9 ⟨rfl, hb9⟩
    dsimp only
    have hbw9 : Below w.heap.size w w9 := hbw8.trans (hb9.mono hbw8.size)
    repeat' (first | go_skip | go_guarded | go_step)
    refine (lives_any w9).mono ?_
    rintro e w10 ⟨rfl, hbq⟩
    dsimp only
    repeat' (first | go_skip | go_guarded | go_step)
    go_ret
    exact ⟨rfl, hbw9.trans (hbq.mono hbw9.size)⟩
   ·have z0 : (validF fs == 0) = false := by simpa using hv
    have z1 : (validF fs != 0) = true := by simpa using hv
    have hn0 : n = 0 := by rw [hn.out, encF_nil hv]; rfl
    subst hn0
    replace hv := Lib.hid hv
    repeat' (first | go_skip | go_guarded | go_step)
    refine (lives_any z6).mono ?_
    rintro e w10 ⟨rfl, hbq⟩
    dsimp only
    repeat' (first | go_skip | go_guarded | go_step)
    go_ret
    exact ⟨rfl, hbw6.trans (hbq.mono hbw6.size)⟩
end Go.Proofs.YtgdapkglofchjaaGreatDoor
namespace Go.Proofs.YtgdapkglofchjaaGreatDoor
open Go.ChangeShapes Go.WideShapes Go.ChangeAt Go.RowKit
open Go.ChangeMaps (open_string shut_string)
set_option linter.unusedVariables false
namespace jenc
theorem witness_row (os : Os) {H : Type} (enc : TypeId × Value → H) :
  (Rows.OpenSpec.upto Rows.journalEncodesSpec).preRow enc Tryz.prog Tryz.f3 Rows.journalEncodesUptoRow.domain false Rows.journalEncodesUptoRow.laid ((laidWorld os).forCall (fun _ _ => 0) ⟨#[], #[.agg evZ.toArray, .agg evZ.toArray], []⟩).memory #[.agg evZ.toArray, .agg evZ.toArray] := by
 have hw : (DataW.whole enc Tryz.prog ((laidWorld os).forCall (fun _ _ => 0) ⟨#[], #[.agg evZ.toArray, .agg evZ.toArray], []⟩).memory Tryz.f3.params.toList Rows.journalEncodesSpec.vars false (#[.agg evZ.toArray, .agg evZ.toArray] : Array Value).toList 8).map (fun x => (x.1, x.2.1)) =
   some ([evD, evD], []) := by kernel_rfl
 obtain ⟨⟨x1, x2, x3⟩, hx, hx1⟩ := Option.map_eq_some_iff.1 hw
 simp only [Prod.mk.injEq] at hx1
 obtain ⟨rfl, rfl⟩ := hx1
 exact OpenSpec.preRow_of_cond 8 hx (by kernel_rfl) (fun k hk => by cases hk; kernel_rfl) (by kernel_rfl) (laid_met os _)
theorem lifted (os : Os) (started : os.Started) (H : Type) (enc : TypeId × Value → H) (F : Stop.Interp) :
  ReturnsInHanded {} Tryz.checked os 3 .any ((Rows.OpenSpec.upto Rows.journalEncodesSpec).preRow enc Tryz.prog Tryz.f3 Rows.journalEncodesUptoRow.domain false Rows.journalEncodesUptoRow.laid) (((Rows.OpenSpec.upto Rows.journalEncodesSpec).at F).post enc Tryz.prog Tryz.f3 false true false false) := by
 refine returnsInHanded_of_row (C := Tryz.checked) (s := Rows.OpenSpec.upto Rows.journalEncodesSpec) ownK started (by kernel_rfl) Tryz.func3
  (witness_row_atRef (enc := enc) (C := Tryz.checked) false (laidWorld os) #[.agg evZ.toArray, .agg evZ.toArray] rfl (by kernel_rfl) (by kernel_rfl) (by kernel_rfl) (witness_row os enc)) ?_
 intro W base args ds gs before hval0 hW _ hcond _ hL hShape _
 have hval : ∀ (j : Nat) t v, Tryz.f3.params[j]? = some t → args[j]? = some v → Value.okWide Tryz.prog W .any base t v := hval0
 have hW' := hW
 obtain ⟨p, q, hA0, hV, rfl, hfz, hnd⟩ := hW
 have hA : DataW.TrodAll enc Tryz.prog W 0 (fun _ => true) true Tryz.f3.params.toList args.toList ds p := hA0
 rw [Tryz.params3] at hA hval
 obtain ⟨v0, vs0, d0, ds0, p0, q0, hargs, rfl, rfl, h0, r0⟩ := trodAll_cons hA
 obtain ⟨v1, vs1, d1, ds1, p1, q1, rfl, rfl, rfl, h1, r1⟩ := trodAll_cons r0
 obtain ⟨rfl, rfl, rfl⟩ := trodAll_nil r1
 obtain rfl : args = #[v0, v1] := by cases args; simp_all
 obtain ⟨rfl, rfl⟩ := trodVars_none hV
 obtain ⟨ca0, rfl, hca0⟩ := okWide_struct Tryz.underlying43 (hval 0 43 v0 rfl rfl)
 have k0 := h0
 have lt0 : ∀ x ∈ p0, x.block < W.heap.size := by obtain ⟨m, hm⟩ := k0; exact DataW.trod_lt m _ _ _ hm
 obtain ⟨fuel0, hf0⟩ := h0
 obtain ⟨gs0, hrd0, hzz0⟩ := open_event (by rw [cells_ev] at hca0; simpa [Value.cells] using hca0) hf0
 replace hzz0 : lsz gs0 + 1 ≤ 2 * Rows.uptoBulk d0 := hzz0
 have hrd0 : RecL evC W (fun b => b < W.heap.size) gs0 ca0.toList := hrd0
 obtain ⟨ca1, rfl, hca1⟩ := okWide_struct Tryz.underlying43 (hval 1 43 v1 rfl rfl)
 have k1 := h1
 have lt1 : ∀ x ∈ p1, x.block < W.heap.size := by obtain ⟨m, hm⟩ := k1; exact DataW.trod_lt m _ _ _ hm
 obtain ⟨fuel1, hf1⟩ := h1
 obtain ⟨gs1, hrd1, hzz1⟩ := open_event (by rw [cells_ev] at hca1; simpa [Value.cells] using hca1) hf1
 replace hzz1 : lsz gs1 + 1 ≤ 2 * Rows.uptoBulk d1 := hzz1
 have hrd1 : RecL evC W (fun b => b < W.heap.size) gs1 ca1.toList := hrd1
 have hb := of_decide_eq_true (hcond _ rfl)
 simp only [List.append_nil, Rows.uptoBulkAll] at hb
 have hev0 : EvR W gs0 ca0.toList := ⟨hrd0, by omega⟩
 have hev1 : EvR W gs1 ca1.toList := ⟨hrd1, by omega⟩
 refine (show Calls Tryz.prog 3 #[.agg ca0, .agg ca1] W _ from encodes_law gs0 gs1 ca0.toList ca1.toList W hev0 hev1 (by omega)).mono fun e W' ⟨he, bel⟩ => ?_
 clear hA0 hval0
 subst he
 exact ⟨_, rfl, _, _, _, [], _, [], hW', trodAll_mk1 (shut_bool Tryz.underlying4 _), (trodAll_cons_mk (Below.trod laidOut (by kernel_rfl) (of_decide_eq_true (by kernel_rfl)) k0 bel lt0) (trodAll_cons_mk (Below.trod laidOut (by kernel_rfl) (of_decide_eq_true (by kernel_rfl)) k1 bel lt1) trodAll_mk0)), rfl, bel.frame _, fun h => by cases h⟩
theorem said : Rows.JournalEncodesUptoSaid :=
 OpenClaim.holds_of_cond 3 Tryz.f3 rfl rfl rfl rfl rfl rfl rfl ⟨rfl, rfl, rfl, rfl, rfl⟩ rfl rfl rfl rfl rfl (by kernel_rfl) Tryz.func3 (by kernel_rfl)
  (of_decide_eq_true (by kernel_rfl)) (by unfold Func.isWrapper; first | (rw [if_pos (by decide +kernel)]; kernel_rfl) | (rw [if_neg (by decide +kernel)]; exact ⟨rfl, rfl⟩))
  (fun os started H enc _ F => by rw [OpenClaim.pre_eq_preRow]; exact lifted os started H enc F)
theorem plain (f : FuncId) (fn : Func) (hf : Tryz.pinned.checked.prog.funcNamed Rows.journalEncodesUptoRow.func = some f) (hfn : Tryz.pinned.checked.prog.funcs[f]? = some fn) :
  false = Tryz.pinned.checked.prog.looks [] ∧ ∀ (j : Nat) t, fn.params[j]? = some t → Tryz.pinned.checked.prog.wantsStandIn t = false := by
 obtain rfl : f = 3 := Option.some.inj ((show Tryz.prog.funcNamed Rows.journalEncodesUptoRow.func = some 3 by kernel_rfl).symm.trans hf) |>.symm
 obtain rfl : fn = Tryz.f3 := (Option.some.inj (Tryz.func3.symm.trans hfn)).symm
 refine ⟨by kernel_rfl, fun j t ht => ?_⟩
 rw [Tryz.params3] at ht
 have hm := Array.mem_of_getElem? ht
 simp only [List.mem_toArray, List.mem_cons, List.not_mem_nil, or_false] at hm
 rcases hm with rfl | rfl
 all_goals
  change Tryz.prog.wantsStandIn _ = false
  kernel_rfl
end jenc
theorem journalEncodes_cardUpto : Rows.JournalEncodesUptoCardSaid :=
 Claim7.holds_tied_plain_at .later [] _ _ _ _ jenc.said (fun _ h => by cases h) (by kernel_rfl) (fun _ h => by cases h) journalEncodesUpto_row_tie rfl ⟨rfl, rfl⟩ (by kernel_rfl) rfl jenc.plain (by kernel_rfl)
end Go.Proofs.YtgdapkglofchjaaGreatDoor
