/- For all three types and values: Join and Meet are a lattice on the valid types, and fitting follows it. -/
import Derived.Test.YtgcpffbaejodiaaDoorCardW
import Derived.Test.YtgcpffbaejodiaaDoorTyOp
import Derived.Test.YtgcpffbaejodiaaDoorTyL4
import Derived.Test.YtgcpffbaejodiaaDoorTyArr
namespace Go.Proofs.YtgcpffbaejodiaaDoor
open Go.ChangeShapes Go.WideShapes Go.ChangeAt Go.RowKit
open Go.ChangeMaps (open_string shut_string)
set_option linter.unusedVariables false
namespace lattices
theorem witness_row (os : Os) {H : Type} (enc : TypeId × Value → H) :
    (OpenSpec.ofChange Rows.typingLatticeSpec).preRow enc Tryd.prog Tryd.f6 Rows.typingLatticeRow.domain false Rows.typingLatticeRow.laid ((laidWorld os).forCall (fun _ _ => 0) ⟨#[], #[.agg #[.int .i64 0, .slice none 0 0, .int .i64 0, .slice none 0 0, .int .i64 0, .slice none 0 0], .agg #[.int .i64 0, .bool false, .int .i64 0, .string ⟨#[]⟩, .slice none 0 0, .slice none 0 0]], []⟩).memory #[.agg #[.int .i64 0, .slice none 0 0, .int .i64 0, .slice none 0 0, .int .i64 0, .slice none 0 0], .agg #[.int .i64 0, .bool false, .int .i64 0, .string ⟨#[]⟩, .slice none 0 0, .slice none 0 0]] := by
  have hw : (DataW.whole enc Tryd.prog ((laidWorld os).forCall (fun _ _ => 0) ⟨#[], #[.agg #[.int .i64 0, .slice none 0 0, .int .i64 0, .slice none 0 0, .int .i64 0, .slice none 0 0], .agg #[.int .i64 0, .bool false, .int .i64 0, .string ⟨#[]⟩, .slice none 0 0, .slice none 0 0]], []⟩).memory Tryd.f6.params.toList Rows.typingLatticeSpec.vars false (#[.agg #[.int .i64 0, .slice none 0 0, .int .i64 0, .slice none 0 0, .int .i64 0, .slice none 0 0], .agg #[.int .i64 0, .bool false, .int .i64 0, .string ⟨#[]⟩, .slice none 0 0, .slice none 0 0]] : Array Value).toList 8).map (fun x => (x.1, x.2.1)) =
      some ([.agg [.agg [.lit (.int .i64 0), .nil], .agg [.lit (.int .i64 0), .nil], .agg [.lit (.int .i64 0), .nil]], .agg [.lit (.int .i64 0), .lit (.bool false), .lit (.int .i64 0), .lit (.string []), .nil, .nil]], []) := by kernel_rfl
  obtain ⟨⟨x1, x2, x3⟩, hx, hx1⟩ := Option.map_eq_some_iff.1 hw
  simp only [Prod.mk.injEq] at hx1
  obtain ⟨rfl, rfl⟩ := hx1
  exact OpenSpec.preRow_of_cond 8 hx (by kernel_rfl) (fun k hk => by cases hk) (by kernel_rfl) (laid_met os _)
set_option maxRecDepth 100000 in
set_option maxHeartbeats 2000000 in
theorem lifted (os : Os) (started : os.Started) (H : Type) (enc : TypeId × Value → H) (F : Stop.Interp) :
    ReturnsInHanded {} Tryd.checked os 6 .any ((OpenSpec.ofChange Rows.typingLatticeSpec).preRow enc Tryd.prog Tryd.f6 Rows.typingLatticeRow.domain false Rows.typingLatticeRow.laid) (((OpenSpec.ofChange Rows.typingLatticeSpec).at F).post enc Tryd.prog Tryd.f6 false true false false) := by
  refine returnsInHanded_of_row (C := Tryd.checked) (s := OpenSpec.ofChange Rows.typingLatticeSpec) ownK started (by kernel_rfl) Tryd.func6
    (witness_row_atRef (enc := enc) (C := Tryd.checked) false (laidWorld os) #[.agg #[.int .i64 0, .slice none 0 0, .int .i64 0, .slice none 0 0, .int .i64 0, .slice none 0 0], .agg #[.int .i64 0, .bool false, .int .i64 0, .string ⟨#[]⟩, .slice none 0 0, .slice none 0 0]] rfl (by kernel_rfl) (by kernel_rfl) (by kernel_rfl) (witness_row os enc)) ?_
  intro W base args ds gs before hval0 hW _ hcond _ hL hShape _
  have hval : ∀ (j : Nat) t v, Tryd.f6.params[j]? = some t → args[j]? = some v → Value.okWide Tryd.prog W .any base t v := hval0
  have hW' := hW
  obtain ⟨p, q, hA0, hV, rfl, hfz, hnd⟩ := hW
  have hA : DataW.TrodAll enc Tryd.prog W 0 (fun _ => true) true Tryd.f6.params.toList args.toList ds p := hA0
  rw [Tryd.params6] at hA hval
  obtain ⟨v0, vs0, d0, ds0, p0, q0, hargs, rfl, rfl, h0, r0⟩ := trodAll_cons hA
  obtain ⟨v1, vs1, d1, ds1, p1, q1, rfl, rfl, rfl, h1, r1⟩ := trodAll_cons r0
  obtain ⟨rfl, rfl, rfl⟩ := trodAll_nil r1
  obtain rfl : args = #[v0, v1] := by cases args; simp_all
  obtain ⟨rfl, rfl⟩ := trodVars_none hV
  obtain ⟨ca0, rfl, hca0⟩ := okWide_array Tryd.underlying38 (hval 0 38 v0 rfl rfl)
  have k0 := h0
  have lt0 : ∀ x ∈ p0, x.block < W.heap.size := by obtain ⟨m, hm⟩ := k0; exact DataW.trod_lt m _ _ _ hm
  obtain ⟨fuel0, hf0⟩ := h0
  obtain ⟨m0, ta, ka, Aa, na, ca, tb, kb, Ab, nb, cb, tc, kc, Ac, nc, cc, hcl0, hta, htb, htc⟩ := open_ty3 (by rw [cells_ty3] at hca0; simpa [Value.cells] using hca0) hf0
  obtain rfl : ca0 = #[.int .i64 ka, .slice Aa na ca, .int .i64 kb, .slice Ab nb cb, .int .i64 kc, .slice Ac nc cc] := by
    have : ca0.toList = (#[.int .i64 ka, .slice Aa na ca, .int .i64 kb, .slice Ab nb cb, .int .i64 kc, .slice Ac nc cc] : Array Value).toList := by simpa [Value.cells] using hcl0
    rw [← Array.toList_inj]; exact this
  obtain ⟨ca1, rfl, hca1⟩ := okWide_struct Tryd.underlying33 (hval 1 33 v1 rfl rfl)
  have k1 := h1
  have lt1 : ∀ x ∈ p1, x.block < W.heap.size := by obtain ⟨m, hm⟩ := k1; exact DataW.trod_lt m _ _ _ hm
  obtain ⟨fuel1, hf1⟩ := h1
  obtain ⟨u1, hu1⟩ := open_vl fuel1 _ _ (by rw [cells_vl] at hca1; simpa [Value.cells] using hca1) hf1
  obtain ⟨vk1, vb1, vi1, vs1, VA1, vn1, vc1, VB1, vm1, vd1, hcs1⟩ := vl_form hu1
  obtain rfl : ca1 = #[.int .i64 vk1, .bool vb1, .int .i64 vi1, .string vs1, .slice VA1 vn1 vc1, .slice VB1 vm1 vd1] := by
    have : ca1.toList = (#[.int .i64 vk1, .bool vb1, .int .i64 vi1, .string vs1, .slice VA1 vn1 vc1, .slice VB1 vm1 vd1] : Array Value).toList := by simpa [Value.cells] using hcs1
    rw [← Array.toList_inj]; exact this
  have hvl1 : RVl fuel1 W (fun b => b < W.heap.size) u1 [.int .i64 vk1, .bool vb1, .int .i64 vi1, .string vs1, .slice VA1 vn1 vc1, .slice VB1 vm1 vd1] := hu1
  refine (lattice_law m0 ta ka Aa na ca m0 tb kb Ab nb cb m0 tc kc Ac nc cc fuel1 u1 vk1 vb1 vi1 vs1 VA1 vn1 vc1 VB1 vm1 vd1 W hta htb htc hvl1).mono fun e W' ⟨he, bel⟩ => ?_
  clear hA0 hval0
  subst he
  exact ⟨_, rfl, _, _, _, [], _, [], hW', trodAll_mk1 (shut_bool Tryd.underlying4 _), (trodAll_cons_mk (Below.trod laidOut (by kernel_rfl) (of_decide_eq_true (by kernel_rfl)) k0 bel lt0) (trodAll_cons_mk (Below.trod laidOut (by kernel_rfl) (of_decide_eq_true (by kernel_rfl)) k1 bel lt1) trodAll_mk0)), rfl, bel.frame _, fun h => by cases h⟩

theorem said : Rows.TypingLatticeSaid :=
  OpenClaim.holds_of_cond 6 Tryd.f6 rfl rfl rfl rfl rfl rfl rfl ⟨rfl, rfl, rfl, rfl, rfl⟩ rfl rfl rfl rfl rfl (by kernel_rfl) Tryd.func6 (by kernel_rfl)
    (of_decide_eq_true (by kernel_rfl)) (by unfold Func.isWrapper; first | (rw [if_pos (by decide +kernel)]; kernel_rfl) | (rw [if_neg (by decide +kernel)]; exact ⟨rfl, rfl⟩))
    (fun os started H enc _ F => by rw [OpenClaim.pre_eq_preRow]; exact lifted os started H enc F)
theorem plain (f : FuncId) (fn : Func) (hf : Tryd.pinned.checked.prog.funcNamed Rows.typingLatticeRow.func = some f) (hfn : Tryd.pinned.checked.prog.funcs[f]? = some fn) :
    false = Tryd.pinned.checked.prog.looks [] ∧ ∀ (j : Nat) t, fn.params[j]? = some t → Tryd.pinned.checked.prog.wantsStandIn t = false := by
  obtain rfl : f = 6 := Option.some.inj ((show Tryd.prog.funcNamed Rows.typingLatticeRow.func = some 6 by kernel_rfl).symm.trans hf) |>.symm
  obtain rfl : fn = Tryd.f6 := (Option.some.inj (Tryd.func6.symm.trans hfn)).symm
  refine ⟨by kernel_rfl, fun j t ht => ?_⟩
  rw [Tryd.params6] at ht
  have hm := Array.mem_of_getElem? ht
  simp only [List.mem_toArray, List.mem_cons, List.not_mem_nil, or_false] at hm
  rcases hm with rfl | rfl
  all_goals
    change Tryd.prog.wantsStandIn _ = false
    kernel_rfl
end lattices
theorem typingLattice_card : Rows.TypingLatticeCardSaid :=
  Claim7.holds_tied_plain_at .later [] _ _ _ _ lattices.said (fun _ h => by cases h) (by kernel_rfl) (fun _ h => by cases h) typingLattice_row_tie rfl ⟨rfl, rfl⟩ (by kernel_rfl) rfl lattices.plain (by kernel_rfl)
end Go.Proofs.YtgcpffbaejodiaaDoor
