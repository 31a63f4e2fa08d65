/- For all values and types: a valid list or map fits a type exactly if its elements fit the element type. -/
import Derived.Test.YtgcpffbaejodiaaDoorCardW
import Derived.Test.YtgcpffbaejodiaaDoorTyOp
import Derived.Test.YtgcpffbaejodiaaDoorTyL5
namespace Go.Proofs.YtgcpffbaejodiaaDoor
open Go.ChangeShapes Go.WideShapes Go.ChangeAt Go.RowKit
open Go.ChangeMaps (open_string shut_string)
set_option linter.unusedVariables false
namespace elementss
theorem witness_row (os : Os) {H : Type} (enc : TypeId × Value → H) :
    (OpenSpec.ofChange Rows.typingElementsSpec).preRow enc Tryd.prog Tryd.f7 Rows.typingElementsRow.domain false Rows.typingElementsRow.laid ((laidWorld os).forCall (fun _ _ => 0) ⟨#[], #[.agg #[.int .i64 0, .bool false, .int .i64 0, .string ⟨#[]⟩, .slice none 0 0, .slice none 0 0], .agg #[.int .i64 0, .slice none 0 0]], []⟩).memory #[.agg #[.int .i64 0, .bool false, .int .i64 0, .string ⟨#[]⟩, .slice none 0 0, .slice none 0 0], .agg #[.int .i64 0, .slice none 0 0]] := by
  have hw : (DataW.whole enc Tryd.prog ((laidWorld os).forCall (fun _ _ => 0) ⟨#[], #[.agg #[.int .i64 0, .bool false, .int .i64 0, .string ⟨#[]⟩, .slice none 0 0, .slice none 0 0], .agg #[.int .i64 0, .slice none 0 0]], []⟩).memory Tryd.f7.params.toList Rows.typingElementsSpec.vars false (#[.agg #[.int .i64 0, .bool false, .int .i64 0, .string ⟨#[]⟩, .slice none 0 0, .slice none 0 0], .agg #[.int .i64 0, .slice none 0 0]] : Array Value).toList 8).map (fun x => (x.1, x.2.1)) =
      some ([.agg [.lit (.int .i64 0), .lit (.bool false), .lit (.int .i64 0), .lit (.string []), .nil, .nil], .agg [.lit (.int .i64 0), .nil]], []) := by kernel_rfl
  obtain ⟨⟨x1, x2, x3⟩, hx, hx1⟩ := Option.map_eq_some_iff.1 hw
  simp only [Prod.mk.injEq] at hx1
  obtain ⟨rfl, rfl⟩ := hx1
  exact OpenSpec.preRow_of_cond 8 hx (by kernel_rfl) (fun k hk => by cases hk) (by kernel_rfl) (laid_met os _)
set_option maxRecDepth 100000 in
set_option maxHeartbeats 2000000 in
theorem lifted (os : Os) (started : os.Started) (H : Type) (enc : TypeId × Value → H) (F : Stop.Interp) :
    ReturnsInHanded {} Tryd.checked os 7 .any ((OpenSpec.ofChange Rows.typingElementsSpec).preRow enc Tryd.prog Tryd.f7 Rows.typingElementsRow.domain false Rows.typingElementsRow.laid) (((OpenSpec.ofChange Rows.typingElementsSpec).at F).post enc Tryd.prog Tryd.f7 false true false false) := by
  refine returnsInHanded_of_row (C := Tryd.checked) (s := OpenSpec.ofChange Rows.typingElementsSpec) ownK started (by kernel_rfl) Tryd.func7
    (witness_row_atRef (enc := enc) (C := Tryd.checked) false (laidWorld os) #[.agg #[.int .i64 0, .bool false, .int .i64 0, .string ⟨#[]⟩, .slice none 0 0, .slice none 0 0], .agg #[.int .i64 0, .slice none 0 0]] rfl (by kernel_rfl) (by kernel_rfl) (by kernel_rfl) (witness_row os enc)) ?_
  intro W base args ds gs before hval0 hW _ hcond _ hL hShape _
  have hval : ∀ (j : Nat) t v, Tryd.f7.params[j]? = some t → args[j]? = some v → Value.okWide Tryd.prog W .any base t v := hval0
  have hW' := hW
  obtain ⟨p, q, hA0, hV, rfl, hfz, hnd⟩ := hW
  have hA : DataW.TrodAll enc Tryd.prog W 0 (fun _ => true) true Tryd.f7.params.toList args.toList ds p := hA0
  rw [Tryd.params7] at hA hval
  obtain ⟨v0, vs0, d0, ds0, p0, q0, hargs, rfl, rfl, h0, r0⟩ := trodAll_cons hA
  obtain ⟨v1, vs1, d1, ds1, p1, q1, rfl, rfl, rfl, h1, r1⟩ := trodAll_cons r0
  obtain ⟨rfl, rfl, rfl⟩ := trodAll_nil r1
  obtain rfl : args = #[v0, v1] := by cases args; simp_all
  obtain ⟨rfl, rfl⟩ := trodVars_none hV
  obtain ⟨ca0, rfl, hca0⟩ := okWide_struct Tryd.underlying33 (hval 0 33 v0 rfl rfl)
  have k0 := h0
  have lt0 : ∀ x ∈ p0, x.block < W.heap.size := by obtain ⟨m, hm⟩ := k0; exact DataW.trod_lt m _ _ _ hm
  obtain ⟨fuel0, hf0⟩ := h0
  obtain ⟨u0, hu0⟩ := open_vl fuel0 _ _ (by rw [cells_vl] at hca0; simpa [Value.cells] using hca0) hf0
  obtain ⟨vk0, vb0, vi0, vs0, VA0, vn0, vc0, VB0, vm0, vd0, hcs0⟩ := vl_form hu0
  obtain rfl : ca0 = #[.int .i64 vk0, .bool vb0, .int .i64 vi0, .string vs0, .slice VA0 vn0 vc0, .slice VB0 vm0 vd0] := by
    have : ca0.toList = (#[.int .i64 vk0, .bool vb0, .int .i64 vi0, .string vs0, .slice VA0 vn0 vc0, .slice VB0 vm0 vd0] : Array Value).toList := by simpa [Value.cells] using hcs0
    rw [← Array.toList_inj]; exact this
  have hvl0 : RVl fuel0 W (fun b => b < W.heap.size) u0 [.int .i64 vk0, .bool vb0, .int .i64 vi0, .string vs0, .slice VA0 vn0 vc0, .slice VB0 vm0 vd0] := hu0
  obtain ⟨ca1, rfl, hca1⟩ := okWide_struct Tryd.underlying24 (hval 1 24 v1 rfl rfl)
  have k1 := h1
  have lt1 : ∀ x ∈ p1, x.block < W.heap.size := by obtain ⟨m, hm⟩ := k1; exact DataW.trod_lt m _ _ _ hm
  obtain ⟨fuel1, hf1⟩ := h1
  obtain ⟨t1, ht1⟩ := open_ty fuel1 _ _ (by rw [cells_ty] at hca1; simpa [Value.cells] using hca1) hf1
  obtain ⟨kt1, At1, nt1, ct1, hcs1⟩ := ty_form ht1
  obtain rfl : ca1 = #[.int .i64 kt1, .slice At1 nt1 ct1] := by
    have : ca1.toList = (#[.int .i64 kt1, .slice At1 nt1 ct1] : Array Value).toList := by simpa [Value.cells] using hcs1
    rw [← Array.toList_inj]; exact this
  have hty1 : RTf fuel1 W (fun b => b < W.heap.size) t1 [.int .i64 kt1, .slice At1 nt1 ct1] := ht1
  refine (elements_law fuel0 u0 vk0 vb0 vi0 vs0 VA0 vn0 vc0 VB0 vm0 vd0 fuel1 t1 kt1 At1 nt1 ct1 W hvl0 hty1).mono fun e W' ⟨he, bel⟩ => ?_
  clear hA0 hval0
  subst he
  exact ⟨_, rfl, _, _, _, [], _, [], hW', trodAll_mk1 (shut_bool Tryd.underlying4 _), (trodAll_cons_mk (Below.trod laidOut (by kernel_rfl) (of_decide_eq_true (by kernel_rfl)) k0 bel lt0) (trodAll_cons_mk (Below.trod laidOut (by kernel_rfl) (of_decide_eq_true (by kernel_rfl)) k1 bel lt1) trodAll_mk0)), rfl, bel.frame _, fun h => by cases h⟩

theorem said : Rows.TypingElementsSaid :=
  OpenClaim.holds_of_cond 7 Tryd.f7 rfl rfl rfl rfl rfl rfl rfl ⟨rfl, rfl, rfl, rfl, rfl⟩ rfl rfl rfl rfl rfl (by kernel_rfl) Tryd.func7 (by kernel_rfl)
    (of_decide_eq_true (by kernel_rfl)) (by unfold Func.isWrapper; first | (rw [if_pos (by decide +kernel)]; kernel_rfl) | (rw [if_neg (by decide +kernel)]; exact ⟨rfl, rfl⟩))
    (fun os started H enc _ F => by rw [OpenClaim.pre_eq_preRow]; exact lifted os started H enc F)
theorem plain (f : FuncId) (fn : Func) (hf : Tryd.pinned.checked.prog.funcNamed Rows.typingElementsRow.func = some f) (hfn : Tryd.pinned.checked.prog.funcs[f]? = some fn) :
    false = Tryd.pinned.checked.prog.looks [] ∧ ∀ (j : Nat) t, fn.params[j]? = some t → Tryd.pinned.checked.prog.wantsStandIn t = false := by
  obtain rfl : f = 7 := Option.some.inj ((show Tryd.prog.funcNamed Rows.typingElementsRow.func = some 7 by kernel_rfl).symm.trans hf) |>.symm
  obtain rfl : fn = Tryd.f7 := (Option.some.inj (Tryd.func7.symm.trans hfn)).symm
  refine ⟨by kernel_rfl, fun j t ht => ?_⟩
  rw [Tryd.params7] at ht
  have hm := Array.mem_of_getElem? ht
  simp only [List.mem_toArray, List.mem_cons, List.not_mem_nil, or_false] at hm
  rcases hm with rfl | rfl
  all_goals
    change Tryd.prog.wantsStandIn _ = false
    kernel_rfl
end elementss
theorem typingElements_card : Rows.TypingElementsCardSaid :=
  Claim7.holds_tied_plain_at .later [] _ _ _ _ elementss.said (fun _ h => by cases h) (by kernel_rfl) (fun _ h => by cases h) typingElements_row_tie rfl ⟨rfl, rfl⟩ (by kernel_rfl) rfl elementss.plain (by kernel_rfl)
end Go.Proofs.YtgcpffbaejodiaaDoor
