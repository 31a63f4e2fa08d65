/- Joined: JnRl JReads. -/
import Derived.Test.YtgdapkglofchjaaGreatDoorF33
set_option maxRecDepth 100000
set_option maxHeartbeats 4000000
set_option linter.unusedVariables false
namespace Go.Proofs.YtgdapkglofchjaaGreatDoor
open Go.RowKit
theorem RdR.len {l : List UInt8} {es : List (List FV)} {n : Nat} {c : Int} (h : RdR l es n c) : es.length ≤ l.length := by
 induction h with
 | nil => exact Nat.le_refl _
 | stop => exact Nat.zero_le _
 | bad => exact Nat.zero_le _
 | more _ h2 _ _ ih =>
  have := tk_len h2
  rw [List.length_drop] at ih
  rw [List.length_cons]
  omega
theorem reads_law (l : List UInt8) (A : Option Addr) (n c : Nat) (w : World) (hl : l.length = n) (hc : n ≤ c) (hs : Seq w w.heap.size 1 A n (l.map bv)) : Calls Tryz.prog 6 #[.slice A n c] w fun e w' => e = .returned (.bool true) ∧ Below w.heap.size w w' := by
 go_enter Tryz.func6, Tryz.ntmps6
 by_cases hm : n ≤ 20000
 ·have hd : (decide ((20000 : Int) < n)) = false := by simp; omega
  have C := Lib.hid (pread_any l A n c w hl (by omega) hc hs)
  replace hl := Lib.hid hl
  repeat' (first | go_skip | go_guarded | go_step)
  refine C.out.mono ?_
  clear C
  rintro e w1 ⟨A1, c1, es, k1, code1, rfl, hR1, hQ1, hb1⟩
  dsimp only
  replace hR1 := Lib.hid hR1
  have C := Lib.hid (rread_any l A n c w1 hl.out (by omega) hc ((hs.below hb1).more hb1.size))
  repeat' (first | go_skip | go_guarded | go_step)
  refine C.out.mono ?_
  clear C
  rintro e w2 ⟨A2, c2, es2, k2, code2, rfl, hR2, hQ2, hb2⟩
  obtain ⟨rfl, rfl, rfl⟩ := hR1.out.uniq hR2
  dsimp only
  clear hR2
  replace hQ1 := hQ1.up hb2
  have hbw2 : Below w.heap.size w w2 := hb1.trans (hb2.mono hb1.size)
  obtain ⟨x, hx_⟩ : ∃ x, x = es.length := ⟨_, rfl⟩
  rw [← hx_] at hQ1 hQ2 ⊢
  have hxn : x ≤ 20000 := by have h8 := hR1.out.len; have h9 := hl.out; omega
  replace hx_ := Lib.hid hx_
  have y0 : ((x : Int) == (x : Int)) = true := by simp
  have y1 : ((x : Int) != (x : Int)) = false := by simp
  have y2 : ((k1 : Int) == (k1 : Int)) = true := by simp
  have y3 : ((k1 : Int) != (k1 : Int)) = false := by simp
  have y4 : (code1 == code1) = true := by simp
  have y5 : (code1 != code1) = false := by simp
  repeat' (first | go_skip | go_guarded | go_step)
  go_loopw [9] (fun u9 wr => ∃ q : Nat, q ≤ x ∧ u9 = .int .i64 (q : Int) ∧ Below w2.heap.size w2 wr) (fun u9 _ => x - (intOf u9).toNat)
  case atStart => exact ⟨0, by omega, rfl, Below.refl _ _⟩
  case round =>
   obtain ⟨q, hqx, rfl, hbq0⟩ := hrel
   have hbwr : Below w.heap.size w wr := hbw2.trans (hbq0.mono hbw2.size)
   by_cases hqm : q < x
   ·have hdq : (decide ((q : Int) < x)) = true := decide_eq_true (Int.ofNat_lt.2 hqm)
    obtain ⟨fs, hxf⟩ : ∃ fs, es[q]? = some fs := ⟨es[q]'(by have := hx_.out; omega), List.getElem?_eq_getElem _⟩
    obtain ⟨b1, o1, E1, rfl, hlt1, hE1, hA1⟩ := hQ1.ev hxf
    obtain ⟨b2, o2, E2, rfl, hlt2, hE2, hA2⟩ := hQ2.ev hxf
    have hA1 := range_up hA1 hbq0 hlt1
    have hA2 := range_up hA2 hbq0 hlt2
    have hE1 := hE1.up hbq0
    have hE2 := hE2.up hbq0
    have hlt1 := Nat.lt_of_lt_of_le hlt1 hbq0.size
    have hlt2 := Nat.lt_of_lt_of_le hlt2 hbq0.size
    have hi1 := ev_info hE1.len
    have hi2 := ev_info hE2.len
    have hx1 : (q : Int) < (x : Int) := Int.ofNat_lt.2 hqm
    replace hxf := Lib.hid hxf
    have hS0 : (Below wr.heap.size wr wr ∧ wr.rangeAt b1 (o1 + q * 42) E1 ∧ wr.rangeAt b2 (o2 + q * 42) E2) := ⟨Below.refl _ _, hA1, hA2⟩
    have keepS : ∀ v1 v2 : World, (Below wr.heap.size wr v1 ∧ v1.rangeAt b1 (o1 + q * 42) E1 ∧ v1.rangeAt b2 (o2 + q * 42) E2) → Below v1.heap.size v1 v2 → (Below wr.heap.size wr v2 ∧ v2.rangeAt b1 (o1 + q * 42) E1 ∧ v2.rangeAt b2 (o2 + q * 42) E2) := fun v1 v2 h hb => ⟨h.1.trans (hb.mono h.1.size), range_up h.2.1 hb (Nat.lt_of_lt_of_le hlt1 h.1.size), range_up h.2.2 hb (Nat.lt_of_lt_of_le hlt2 h.1.size)⟩
    have hS1 : (Below wr.heap.size wr wr.drew ∧ wr.drew.rangeAt b1 (o1 + q * 42) E1 ∧ wr.drew.rangeAt b2 (o2 + q * 42) E2) := keepS _ _ hS0 ((Below.refl _ _).drew)
    replace keepS := Lib.hid keepS
    clear hS0
    go_upto_region 10 with (fail)
    refine wp_region_held_drew (S := fun w' => Below wr.heap.size wr w' ∧ w'.rangeAt b1 (o1 + q * 42) E1 ∧ w'.rangeAt b2 (o2 + q * 42) E2) (by kernel_rfl) ?_ (fun hHeld => ?_)
    ·(try dsimp only)
     exact hS1
    refine tkQ 0 ?_
    refine tkQ 1 ?_
    refine tkQ 2 ?_
    refine tkV 3 (v := .agg E1.toArray) rfl (yieldsIf_load_mid (by rfl) 43 _ rfl b1 (o1 + q * 42) rfl E1 _ (fun v h => h.2.1) Tryz.underlying43 rfl hi1) ?_
    refine tkQ 4 ?_
    refine tkQ 5 ?_
    refine tkQ 6 ?_
    refine tkV 7 (v := .agg E2.toArray) rfl (yieldsIf_load_mid (by rfl) 43 _ rfl b2 (o2 + q * 42) rfl E2 _ (fun v h => h.2.2) Tryz.underlying43 rfl hi2) ?_
    refine rdO 8 fun K hK => ?_
    go_simp
    go_at_call 17
    refine (rsame_ev fs fs E1 E2 _ (hE1.up (hHeld.1)) (hE2.up (hHeld.1))).mono ?_
    rintro e z4 ⟨rfl, hbq⟩
    dsimp only
    rw [eqF_refl]
    refine hkO hK (keepS.out _ _ hHeld hbq) fun hHeld => ?_
    clear hK K
    refine tkQ 9 ?_
    refine wpAnyH_done (by kernel_rfl) ?_ _
    have hbW := hHeld.1
    clear hHeld hS1 keepS
    repeat' (first | go_skip | go_guarded | go_step)
    go_roundw
    case rel => exact ⟨q + 1, by omega, by go_num, hbq0.trans (hbW.mono hbq0.size)⟩
    case measure => simp [intOf]; omega
   ·have hdq : (decide ((q : Int) < x)) = false := decide_eq_false (fun h => hqm (Int.ofNat_lt.1 h))
    repeat' (first | go_skip | go_guarded | go_step)
    refine (lives_any wr).mono ?_
    rintro e w9 ⟨rfl, hbq⟩
    dsimp only
    repeat' (first | go_skip | go_guarded | go_step)
    go_ret
    exact ⟨rfl, hbwr.trans (hbq.mono hbwr.size)⟩
 ·have hd : (decide ((20000 : Int) < n)) = true := by simp; omega
  repeat' (first | go_skip | go_guarded | go_step)
  refine (lives_any w).mono ?_
  rintro e w9 ⟨rfl, hbq⟩
  dsimp only
  repeat' (first | go_skip | go_guarded | go_step)
  go_ret
  exact ⟨rfl, (Below.refl w.heap.size w).trans (hbq.mono (Below.refl w.heap.size w).size)⟩
end Go.Proofs.YtgdapkglofchjaaGreatDoor
namespace Go.Proofs.YtgdapkglofchjaaGreatDoor
open Go.ChangeShapes Go.WideShapes Go.ChangeAt Go.RowKit
open Go.ChangeMaps (open_string shut_string)
set_option linter.unusedVariables false
namespace jrds
theorem witness_row (os : Os) {H : Type} (enc : TypeId × Value → H) :
  (OpenSpec.ofChange Rows.journalReadsSpec).preRow enc Tryz.prog Tryz.f6 Rows.journalReadsRow.domain false Rows.journalReadsRow.laid ((laidWorld os).forCall (fun _ _ => 0) ⟨#[], #[.slice none 0 0], []⟩).memory #[.slice none 0 0] := by
 have hw : (DataW.whole enc Tryz.prog ((laidWorld os).forCall (fun _ _ => 0) ⟨#[], #[.slice none 0 0], []⟩).memory Tryz.f6.params.toList Rows.journalReadsSpec.vars false (#[.slice none 0 0] : Array Value).toList 8).map (fun x => (x.1, x.2.1)) =
   some ([.nil], []) := by kernel_rfl
 obtain ⟨⟨x1, x2, x3⟩, hx, hx1⟩ := Option.map_eq_some_iff.1 hw
 simp only [Prod.mk.injEq] at hx1
 obtain ⟨rfl, rfl⟩ := hx1
 exact OpenSpec.preRow_of_cond 8 hx (by kernel_rfl) (fun k hk => by cases hk) (by kernel_rfl) (laid_met os _)
theorem lifted (os : Os) (started : os.Started) (H : Type) (enc : TypeId × Value → H) (F : Stop.Interp) :
  ReturnsInHanded {} Tryz.checked os 6 .any ((OpenSpec.ofChange Rows.journalReadsSpec).preRow enc Tryz.prog Tryz.f6 Rows.journalReadsRow.domain false Rows.journalReadsRow.laid) (((OpenSpec.ofChange Rows.journalReadsSpec).at F).post enc Tryz.prog Tryz.f6 false true false false) := by
 refine returnsInHanded_of_row (C := Tryz.checked) (s := OpenSpec.ofChange Rows.journalReadsSpec) ownK started (by kernel_rfl) Tryz.func6
  (witness_row_atRef (enc := enc) (C := Tryz.checked) false (laidWorld os) #[.slice none 0 0] rfl (by kernel_rfl) (by kernel_rfl) (by kernel_rfl) (witness_row os enc)) ?_
 intro W base args ds gs before hval0 hW _ hcond _ hL hShape _
 have hval : ∀ (j : Nat) t v, Tryz.f6.params[j]? = some t → args[j]? = some v → Value.okWide Tryz.prog W .any base t v := hval0
 have hW' := hW
 obtain ⟨p, q, hA0, hV, rfl, hfz, hnd⟩ := hW
 have hA : DataW.TrodAll enc Tryz.prog W 0 (fun _ => true) true Tryz.f6.params.toList args.toList ds p := hA0
 rw [Tryz.params6] at hA hval
 obtain ⟨v0, vs0, d0, ds0, p0, q0, hargs, rfl, rfl, h0, r0⟩ := trodAll_cons hA
 obtain ⟨rfl, rfl, rfl⟩ := trodAll_nil r0
 obtain rfl : args = #[v0] := by cases args; simp_all
 obtain ⟨rfl, rfl⟩ := trodVars_none hV
 obtain ⟨a0, len0, cap0, rfl⟩ := okWide_slice Tryz.underlying47 (hval 0 47 v0 rfl rfl)
 have k0 := h0
 have lt0 : ∀ x ∈ p0, x.block < W.heap.size := by obtain ⟨m, hm⟩ := k0; exact DataW.trod_lt m _ _ _ hm
 obtain ⟨l, hl_l, hc_l, hm_l, hn_l, hs_l⟩ := open_bytes Tryz.underlying47 Tryz.underlying5 (by kernel_rfl) h0
 unfold maxLen at hm_l
 refine (reads_law l a0 len0 cap0 W hl_l hc_l hs_l).mono fun e W' ⟨he, bel⟩ => ?_
 clear hA0 hval0
 subst he
 exact ⟨_, rfl, _, _, _, [], _, [], hW', trodAll_mk1 (shut_bool Tryz.underlying4 _), (trodAll_cons_mk (Below.trod laidOut (by kernel_rfl) (of_decide_eq_true (by kernel_rfl)) k0 bel lt0) trodAll_mk0), rfl, bel.frame _, fun h => by cases h⟩
theorem said : Rows.JournalReadsSaid :=
 OpenClaim.holds_of_cond 6 Tryz.f6 rfl rfl rfl rfl rfl rfl rfl ⟨rfl, rfl, rfl, rfl, rfl⟩ rfl rfl rfl rfl rfl (by kernel_rfl) Tryz.func6 (by kernel_rfl)
  (of_decide_eq_true (by kernel_rfl)) (by unfold Func.isWrapper; first | (rw [if_pos (by decide +kernel)]; kernel_rfl) | (rw [if_neg (by decide +kernel)]; exact ⟨rfl, rfl⟩))
  (fun os started H enc _ F => by rw [OpenClaim.pre_eq_preRow]; exact lifted os started H enc F)
theorem plain (f : FuncId) (fn : Func) (hf : Tryz.pinned.checked.prog.funcNamed Rows.journalReadsRow.func = some f) (hfn : Tryz.pinned.checked.prog.funcs[f]? = some fn) :
  false = Tryz.pinned.checked.prog.looks [] ∧ ∀ (j : Nat) t, fn.params[j]? = some t → Tryz.pinned.checked.prog.wantsStandIn t = false := by
 obtain rfl : f = 6 := Option.some.inj ((show Tryz.prog.funcNamed Rows.journalReadsRow.func = some 6 by kernel_rfl).symm.trans hf) |>.symm
 obtain rfl : fn = Tryz.f6 := (Option.some.inj (Tryz.func6.symm.trans hfn)).symm
 refine ⟨by kernel_rfl, fun j t ht => ?_⟩
 rw [Tryz.params6] at ht
 have hm := Array.mem_of_getElem? ht
 simp only [List.mem_toArray, List.mem_cons, List.not_mem_nil, or_false] at hm
 obtain rfl := hm
 change Tryz.prog.wantsStandIn _ = false
 kernel_rfl
end jrds
theorem journalReads_card : Rows.JournalReadsCardSaid :=
 Claim7.holds_tied_plain_at .later [] _ _ _ _ jrds.said (fun _ h => by cases h) (by kernel_rfl) (fun _ h => by cases h) journalReads_row_tie rfl ⟨rfl, rfl⟩ (by kernel_rfl) rfl jrds.plain (by kernel_rfl)
end Go.Proofs.YtgdapkglofchjaaGreatDoor
