/- Joined: JnDl JDecodes. -/
import Derived.Test.YtgdapkglofchjaaGreatDoorF23
import Derived.Test.YtgdapkglofchjaaGreatDoorF29
set_option maxRecDepth 100000
set_option maxHeartbeats 4000000
set_option linter.unusedVariables false
namespace Go.Proofs.YtgdapkglofchjaaGreatDoor
open Go.RowKit
def DecE (l : List UInt8) (gs : List FV) (code : Int) : Prop := (code = 0 ∧ DecR l (.inr gs)) ∨ (code ≠ 0 ∧ DecR l (.inl code) ∧ gs = zeroFs)
theorem dec_ev {w w1 : World} {l : List UInt8} {E : List Value} {code : Int} (h : (code = 0 ∧ ∃ fs, DecR l (.inr fs) ∧ RecL evC w1 (Fresh w w1) fs E) ∨ (code ≠ 0 ∧ DecR l (.inl code) ∧ E = evZ)) (hl : l.length ≤ 20000) : ∃ gs, EvR w1 gs E ∧ DecE l gs code ∧ lsz gs ≤ 20000 := by
 rcases h with ⟨h0, fs, h1, h2⟩ | ⟨h0, h1, rfl⟩
 ·have hs := (dec_back h1).2.2
  exact ⟨fs, ⟨h2.map evC_ok (fun _ _ => rfl) (fun b hb => hb.2), by omega⟩, Or.inl ⟨h0, h1⟩, by omega⟩
 ·exact ⟨zeroFs, ⟨evZ_rd, by decide +kernel⟩, Or.inr ⟨h0, h1, rfl⟩, by decide +kernel⟩
theorem DecE.uniq {l : List UInt8} {gs gs' : List FV} {c c' : Int} (h : DecE l gs c) (h' : DecE l gs' c') : gs = gs' ∧ c = c' := by
 rcases h with ⟨h0, h1⟩ | ⟨h0, h1, rfl⟩ <;> rcases h' with ⟨k0, k1⟩ | ⟨k0, k1, rfl⟩ <;> have hu := h1.uniq k1
 ·injection hu with hu; exact ⟨hu, by rw [h0, k0]⟩
 ·cases hu
 ·cases hu
 ·injection hu with hu; exact ⟨rfl, hu⟩
theorem decodes_law (l : List UInt8) (A : Option Addr) (n c : Nat) (w : World) (hl : l.length = n) (hc : n ≤ c) (hs : Seq w w.heap.size 1 A n (l.map bv)) : Calls Tryz.prog 4 #[.slice A n c] w fun e w' => e = .returned (.bool true) ∧ Below w.heap.size w w' := by
 go_enter Tryz.func4, Tryz.ntmps4
 by_cases hm : n ≤ 20000
 ·have hd : (decide ((20000 : Int) < n)) = false := by simp; omega
  have C := Lib.hid (pdec_any l A n c w w.heap.size hl (by omega) hc (Nat.le_refl _) hs)
  replace hl := Lib.hid hl
  repeat' (first | go_skip | go_guarded | go_step)
  refine C.out.mono ?_
  clear C
  rintro e w1 ⟨E1, k1, rfl, hb1, hcase1⟩
  obtain ⟨gs, hE1, hD1, hz1⟩ := dec_ev hcase1 (by have := hl.out; omega)
  dsimp only
  clear hcase1
  replace hD1 := Lib.hid hD1
  have hi1 := Lib.hid (ev_info hE1.len)
  have hone1 : E1.toArray.all (·.oneCell') = true := by simpa using hE1.rd.one evC_ok
  have hT_ : Tgt (w1.alloc (.cells evZ.toArray 43)) w1.heap.size 0 evZ := Tgt.new w1 evZ.toArray _
  have hb5 : Below w1.heap.size w1 (w1.alloc (.cells evZ.toArray 43)) := (Below.refl _ _).alloc (Nat.le_refl _) _
  have hthT := hT_.there (n := E1.toArray.size) (by rw [List.size_toArray, hE1.len]; decide)
  have hA1 : ((w1.alloc (.cells evZ.toArray 43)).setCells w1.heap.size 0 E1.toArray.toList).rangeAt w1.heap.size 0 E1 := World.rangeAt_setCells_same _ w1.heap.size 0 E1 hthT
  have hbE1 : Below w1.heap.size w1 ((w1.alloc (.cells evZ.toArray 43)).setCells w1.heap.size 0 E1.toArray.toList) := setCells_below (Nat.le_refl _) _ _ _ hb5
  have hltE1 : w1.heap.size < ((w1.alloc (.cells evZ.toArray 43)).setCells w1.heap.size 0 E1.toArray.toList).heap.size := by rw [setCells_size2]; exact hT_.lt
  go_upto_region 4 with (first | (refine wpList_store_mid rfl 43 _ _ rfl w1.heap.size 0 E1.toArray rfl rfl hthT hi1.out hone1 ?_))
  generalize hx_ : World.setCells _ _ _ _ = w2
  have hx2 : (w1.alloc (.cells evZ.toArray 43)).setCells w1.heap.size 0 E1.toArray.toList = w2 := hx_
  rw [hx2] at hA1 hbE1 hltE1
  clear hx2 hx_ hthT hT_ hb5
  replace hE1 := hE1.up hbE1
  have hbw2 : Below w.heap.size w w2 := hb1.trans (hbE1.mono hb1.size)
  have hs2 := (hs.below hbw2).more hbw2.size
  have C := Lib.hid (rdec_any l A n c w2 w2.heap.size hl.out (by omega) hc (Nat.le_refl _) hs2)
  repeat' (first | go_skip | go_guarded | go_step)
  refine C.out.mono ?_
  clear C
  rintro e w3 ⟨E2, k2, rfl, hb3, hcase2⟩
  obtain ⟨gs2, hE2, hD2, _⟩ := dec_ev hcase2 (by have := hl.out; omega)
  obtain ⟨rfl, rfl⟩ := hD1.out.uniq hD2
  dsimp only
  clear hcase2 hD2
  have hE1 := hE1.up hb3
  have hA1 := range_up hA1 hb3 hltE1
  have hlt1 := Nat.lt_of_lt_of_le hltE1 hb3.size
  have hi2 := Lib.hid (ev_info hE2.len)
  have hone2 : E2.toArray.all (·.oneCell') = true := by simpa using hE2.rd.one evC_ok
  have hT_ : Tgt (w3.alloc (.cells evZ.toArray 43)) w3.heap.size 0 evZ := Tgt.new w3 evZ.toArray _
  have hb5 : Below w3.heap.size w3 (w3.alloc (.cells evZ.toArray 43)) := (Below.refl _ _).alloc (Nat.le_refl _) _
  have hthT := hT_.there (n := E2.toArray.size) (by rw [List.size_toArray, hE2.len]; decide)
  have hA2 : ((w3.alloc (.cells evZ.toArray 43)).setCells w3.heap.size 0 E2.toArray.toList).rangeAt w3.heap.size 0 E2 := World.rangeAt_setCells_same _ w3.heap.size 0 E2 hthT
  have hbE2 : Below w3.heap.size w3 ((w3.alloc (.cells evZ.toArray 43)).setCells w3.heap.size 0 E2.toArray.toList) := setCells_below (Nat.le_refl _) _ _ _ hb5
  have hltE2 : w3.heap.size < ((w3.alloc (.cells evZ.toArray 43)).setCells w3.heap.size 0 E2.toArray.toList).heap.size := by rw [setCells_size2]; exact hT_.lt
  go_upto_region 5 with (first | (refine wpList_store_mid rfl 43 _ _ rfl w3.heap.size 0 E2.toArray rfl rfl hthT hi2.out hone2 ?_))
  generalize hx_ : World.setCells _ _ _ _ = w4
  have hx2 : (w3.alloc (.cells evZ.toArray 43)).setCells w3.heap.size 0 E2.toArray.toList = w4 := hx_
  rw [hx2] at hA2 hbE2 hltE2
  clear hx2 hx_ hthT hT_ hb5
  replace hE2 := hE2.up hbE2
  have hE1 := hE1.up hbE2
  have hA1 := range_up hA1 hbE2 hlt1
  have hlt1 := Nat.lt_of_lt_of_le hlt1 hbE2.size
  have hbw4 : Below w.heap.size w w4 := (hbw2.trans (hb3.mono hbw2.size)).trans (hbE2.mono (Nat.le_trans hbw2.size hb3.size))
  have z0 : (k1 == k1) = true := by simp
  have z1 : (k1 != k1) = false := by simp
  clear hbE1 hbE2 hb1 hb3 hs2 hbw2 hltE1
  repeat' ((fail_if_success at_builtin); (first | (refine wpList_load_midG 43 _ rfl w1.heap.size 0 rfl (by rfl) E1 _ hA1 Tryz.underlying43 rfl hi1.out ?_) | (refine wpList_load_midG 43 _ rfl w3.heap.size 0 rfl (by rfl) E2 _ hA2 Tryz.underlying43 rfl hi2.out ?_) | go_skip | go_guarded | go_step))
  have CS := rsame_ev gs gs E1 E2 w4 hE1 hE2
  rw [eqF_refl] at CS
  refine CS.mono ?_
  clear CS
  rintro e z1 ⟨rfl, hbW⟩
  dsimp only
  have hbw5 : Below w.heap.size w z1 := hbw4.trans (hbW.mono hbw4.size)
  have hE1 := hE1.up hbW
  have hA1 := range_up hA1 hbW hlt1
  have hlt1 := Nat.lt_of_lt_of_le hlt1 hbW.size
  have hs5 := (hs.below hbw5).more hbw5.size
  clear hE2 hA2 hbW hbw4 hltE2
  obtain ⟨w5, hw5⟩ : ∃ w5, w5 = z1 := ⟨_, rfl⟩
  rw [← hw5] at hbw5 hE1 hA1 hlt1 hs5 ⊢
  clear hw5
  by_cases h0 : k1 = 0
  ·have hbk : encF gs = l := by
    rcases hD1.out with ⟨_, h1⟩ | ⟨h1, _⟩
    ·exact (dec_back h1).1
    ·exact absurd h0 h1
   subst h0
   replace hbk := Lib.hid hbk
   repeat' (first | (refine wpList_load_midG 43 _ rfl w1.heap.size 0 rfl (by rfl) E1 _ hA1 Tryz.underlying43 rfl hi1.out ?_) | go_skip | go_guarded | go_step)
   refine (penc_any gs E1 w5 hE1 (by omega)).mono ?_
   rintro e w6 ⟨A2, c2, he, hB2⟩
   rw [hbk.out, hl.out] at he
   rw [hbk.out] at hB2
   have hb6 := hB2.2
   have hq6 := hB2.seq
   rw [hl.out] at hq6
   subst he
   dsimp only
   have hs6 := (hs5.below hb6).more hb6.size
   have hbw6 : Below w.heap.size w w6 := hbw5.trans (hb6.mono hbw5.size)
   clear hB2
   repeat' (first | go_skip | go_guarded | go_step)
   refine (bytesEq_any A2 A n c2 n c l l w6 w6.heap.size hq6 hs6).mono ?_
   rintro e w7 ⟨rfl, rfl⟩
   dsimp only
   rw [beq_self_eq_true]
   repeat' (first | go_skip | go_guarded | go_step)
   refine (lives_any w6).mono ?_
   rintro e w9 ⟨rfl, hbq⟩
   dsimp only
   repeat' (first | go_skip | go_guarded | go_step)
   go_ret
   exact ⟨rfl, hbw6.trans (hbq.mono hbw6.size)⟩
  ·have z2 : (k1 == 0) = false := by simpa using h0
   have z3 : (k1 != 0) = true := by simpa using h0
   repeat' (first | go_skip | go_guarded | go_step)
   refine (lives_any w5).mono ?_
   rintro e w9 ⟨rfl, hbq⟩
   dsimp only
   repeat' (first | go_skip | go_guarded | go_step)
   go_ret
   exact ⟨rfl, hbw5.trans (hbq.mono hbw5.size)⟩
 ·have hd : (decide ((20000 : Int) < n)) = true := by simp; omega
  repeat' (first | go_skip | go_guarded | go_step)
  refine (lives_any w).mono ?_
  rintro e w9 ⟨rfl, hbq⟩
  dsimp only
  repeat' (first | go_skip | go_guarded | go_step)
  go_ret
  exact ⟨rfl, (Below.refl w.heap.size w).trans (hbq.mono (Below.refl w.heap.size w).size)⟩
end Go.Proofs.YtgdapkglofchjaaGreatDoor
namespace Go.Proofs.YtgdapkglofchjaaGreatDoor
open Go.ChangeShapes Go.WideShapes Go.ChangeAt Go.RowKit
open Go.ChangeMaps (open_string shut_string)
set_option linter.unusedVariables false
namespace jdec
theorem witness_row (os : Os) {H : Type} (enc : TypeId × Value → H) :
  (OpenSpec.ofChange Rows.journalDecodesSpec).preRow enc Tryz.prog Tryz.f4 Rows.journalDecodesRow.domain false Rows.journalDecodesRow.laid ((laidWorld os).forCall (fun _ _ => 0) ⟨#[], #[.slice none 0 0], []⟩).memory #[.slice none 0 0] := by
 have hw : (DataW.whole enc Tryz.prog ((laidWorld os).forCall (fun _ _ => 0) ⟨#[], #[.slice none 0 0], []⟩).memory Tryz.f4.params.toList Rows.journalDecodesSpec.vars false (#[.slice none 0 0] : Array Value).toList 8).map (fun x => (x.1, x.2.1)) =
   some ([.nil], []) := by kernel_rfl
 obtain ⟨⟨x1, x2, x3⟩, hx, hx1⟩ := Option.map_eq_some_iff.1 hw
 simp only [Prod.mk.injEq] at hx1
 obtain ⟨rfl, rfl⟩ := hx1
 exact OpenSpec.preRow_of_cond 8 hx (by kernel_rfl) (fun k hk => by cases hk) (by kernel_rfl) (laid_met os _)
theorem lifted (os : Os) (started : os.Started) (H : Type) (enc : TypeId × Value → H) (F : Stop.Interp) :
  ReturnsInHanded {} Tryz.checked os 4 .any ((OpenSpec.ofChange Rows.journalDecodesSpec).preRow enc Tryz.prog Tryz.f4 Rows.journalDecodesRow.domain false Rows.journalDecodesRow.laid) (((OpenSpec.ofChange Rows.journalDecodesSpec).at F).post enc Tryz.prog Tryz.f4 false true false false) := by
 refine returnsInHanded_of_row (C := Tryz.checked) (s := OpenSpec.ofChange Rows.journalDecodesSpec) ownK started (by kernel_rfl) Tryz.func4
  (witness_row_atRef (enc := enc) (C := Tryz.checked) false (laidWorld os) #[.slice none 0 0] rfl (by kernel_rfl) (by kernel_rfl) (by kernel_rfl) (witness_row os enc)) ?_
 intro W base args ds gs before hval0 hW _ hcond _ hL hShape _
 have hval : ∀ (j : Nat) t v, Tryz.f4.params[j]? = some t → args[j]? = some v → Value.okWide Tryz.prog W .any base t v := hval0
 have hW' := hW
 obtain ⟨p, q, hA0, hV, rfl, hfz, hnd⟩ := hW
 have hA : DataW.TrodAll enc Tryz.prog W 0 (fun _ => true) true Tryz.f4.params.toList args.toList ds p := hA0
 rw [Tryz.params4] at hA hval
 obtain ⟨v0, vs0, d0, ds0, p0, q0, hargs, rfl, rfl, h0, r0⟩ := trodAll_cons hA
 obtain ⟨rfl, rfl, rfl⟩ := trodAll_nil r0
 obtain rfl : args = #[v0] := by cases args; simp_all
 obtain ⟨rfl, rfl⟩ := trodVars_none hV
 obtain ⟨a0, len0, cap0, rfl⟩ := okWide_slice Tryz.underlying47 (hval 0 47 v0 rfl rfl)
 have k0 := h0
 have lt0 : ∀ x ∈ p0, x.block < W.heap.size := by obtain ⟨m, hm⟩ := k0; exact DataW.trod_lt m _ _ _ hm
 obtain ⟨l, hl_l, hc_l, hm_l, hn_l, hs_l⟩ := open_bytes Tryz.underlying47 Tryz.underlying5 (by kernel_rfl) h0
 unfold maxLen at hm_l
 refine (decodes_law l a0 len0 cap0 W hl_l hc_l hs_l).mono fun e W' ⟨he, bel⟩ => ?_
 clear hA0 hval0
 subst he
 exact ⟨_, rfl, _, _, _, [], _, [], hW', trodAll_mk1 (shut_bool Tryz.underlying4 _), (trodAll_cons_mk (Below.trod laidOut (by kernel_rfl) (of_decide_eq_true (by kernel_rfl)) k0 bel lt0) trodAll_mk0), rfl, bel.frame _, fun h => by cases h⟩
theorem said : Rows.JournalDecodesSaid :=
 OpenClaim.holds_of_cond 4 Tryz.f4 rfl rfl rfl rfl rfl rfl rfl ⟨rfl, rfl, rfl, rfl, rfl⟩ rfl rfl rfl rfl rfl (by kernel_rfl) Tryz.func4 (by kernel_rfl)
  (of_decide_eq_true (by kernel_rfl)) (by unfold Func.isWrapper; first | (rw [if_pos (by decide +kernel)]; kernel_rfl) | (rw [if_neg (by decide +kernel)]; exact ⟨rfl, rfl⟩))
  (fun os started H enc _ F => by rw [OpenClaim.pre_eq_preRow]; exact lifted os started H enc F)
theorem plain (f : FuncId) (fn : Func) (hf : Tryz.pinned.checked.prog.funcNamed Rows.journalDecodesRow.func = some f) (hfn : Tryz.pinned.checked.prog.funcs[f]? = some fn) :
  false = Tryz.pinned.checked.prog.looks [] ∧ ∀ (j : Nat) t, fn.params[j]? = some t → Tryz.pinned.checked.prog.wantsStandIn t = false := by
 obtain rfl : f = 4 := Option.some.inj ((show Tryz.prog.funcNamed Rows.journalDecodesRow.func = some 4 by kernel_rfl).symm.trans hf) |>.symm
 obtain rfl : fn = Tryz.f4 := (Option.some.inj (Tryz.func4.symm.trans hfn)).symm
 refine ⟨by kernel_rfl, fun j t ht => ?_⟩
 rw [Tryz.params4] at ht
 have hm := Array.mem_of_getElem? ht
 simp only [List.mem_toArray, List.mem_cons, List.not_mem_nil, or_false] at hm
 obtain rfl := hm
 change Tryz.prog.wantsStandIn _ = false
 kernel_rfl
end jdec
theorem journalDecodes_card : Rows.JournalDecodesCardSaid :=
 Claim7.holds_tied_plain_at .later [] _ _ _ _ jdec.said (fun _ h => by cases h) (by kernel_rfl) (fun _ h => by cases h) journalDecodes_row_tie rfl ⟨rfl, rfl⟩ (by kernel_rfl) rfl jdec.plain (by kernel_rfl)
end Go.Proofs.YtgdapkglofchjaaGreatDoor
