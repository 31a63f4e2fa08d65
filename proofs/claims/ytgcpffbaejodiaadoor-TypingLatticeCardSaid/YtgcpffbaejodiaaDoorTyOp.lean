/- Arguments opened: types and values. -/
import Derived.Test.YtgcpffbaejodiaaDoorOpnS
import Derived.Test.YtgcpffbaejodiaaDoorTyQ
namespace Go.Proofs.YtgcpffbaejodiaaDoor
open Go.ChangeShapes Go.WideShapes Go.ChangeAt Go.RowKit
theorem cells_ty : Tryd.prog.cellsOf 24 = 2 := by kernel_rfl
theorem cells_tys : Tryd.prog.cellsOf 22 = 1 := by kernel_rfl
theorem cells_vl : Tryd.prog.cellsOf 33 = 6 := by kernel_rfl
theorem cells_vls : Tryd.prog.cellsOf 30 = 1 := by kernel_rfl
theorem cells_strs : Tryd.prog.cellsOf 31 = 1 := by kernel_rfl
theorem RList.conv {α : Type} {r r' : Rd α} {sz : Nat} {w : World} {S : Nat → Prop} (hr : ∀ x cs, r w S x cs → r' w S x cs) : ∀ {l : List α} {cs : List Value}, RList r sz w S l cs → RList r' sz w S l cs
  | [], _, h => h
  | _ :: _, _, ⟨c1, c2, h1, h2, h3, h4⟩ => ⟨c1, c2, h1, h2, hr _ _ h3, RList.conv hr h4⟩
theorem RTf.up : ∀ {f : Nat} {w : World} {S : Nat → Prop} {t : Ty} {cs : List Value}, RTf f w S t cs → RTf (f + 1) w S t cs
  | 0, _, _, _, _, h => h.elim
  | f + 1, w, S, t, cs, ⟨A, c, h1, h2, h3, h4, ds, h5, h6⟩ => ⟨A, c, h1, h2, h3, h4, ds, h5, RList.conv (fun _ _ hx => RTf.up hx) h6⟩
theorem RVl.up : ∀ {f : Nat} {w : World} {S : Nat → Prop} {v : Vl} {cs : List Value}, RVl f w S v cs → RVl (f + 1) w S v cs
  | 0, _, _, _, _, h => h.elim
  | f + 1, w, S, t, cs, ⟨A, c, A2, c2, h1, ⟨h2, h3, h4, ds, h5, h6⟩, h7, h8⟩ => ⟨A, c, A2, c2, h1, ⟨h2, h3, h4, ds, h5, RList.conv (fun _ _ hx => RVl.up hx) h6⟩, h7, h8⟩
section
variable {H : Type} {enc : TypeId × Value → H} {W : World} {spare : Nat → Bool} {held : Bool}
theorem open_ty : ∀ (fuel : Nat) (cs : List Value) (x : DataW H × List MemPlace), cs.length = 2 → DataW.trod enc Tryd.prog W 0 spare held fuel 24 cs = some x → ∃ t, RTf fuel W (fun b => b < W.heap.size) t cs
  | fuel, cs, x, hl, h => by
    obtain ⟨xs, n', hfu, rfl, _, hxl, hf⟩ := DataW.trod_struct Tryd.underlying24 h
    match cs, hl with
    | [c0, c1], _ =>
      match xs, hxl with
      | [y0, y1], _ =>
        have f0 := field_one hf 0 (t := 3) (o := 0) rfl cells_int rfl rfl
        have f1 := field_one hf 1 (t := 22) (o := 1) rfl cells_tys rfl rfl
        obtain ⟨k, rfl, rfl, w0⟩ := int_val Tryd.underlying3 f0
        obtain ⟨A', len', cap', rfl⟩ := slice_val Tryd.underlying22 f1
        obtain ⟨l, g1, _, _⟩ := open_list (r := RTf n') (sz := 2) (bulk := fun _ => 0) Tryd.underlying22 cells_ty (by omega) (fun n cs y hn hl hy => by
          obtain ⟨t, ht⟩ := open_ty n cs y hl hy
          subst hn
          exact ⟨t, ht.up, Nat.zero_le _⟩) f1
        obtain rfl : len' = l.length := g1.1.symm
        subst hfu
        exact ⟨.mk k l, A', cap', rfl, g1⟩
termination_by fuel => fuel
decreasing_by omega
theorem open_vl : ∀ (fuel : Nat) (cs : List Value) (x : DataW H × List MemPlace), cs.length = 6 → DataW.trod enc Tryd.prog W 0 spare held fuel 33 cs = some x → ∃ v, RVl fuel W (fun b => b < W.heap.size) v cs
  | fuel, cs, x, hl, h => by
    obtain ⟨xs, n', hfu, rfl, _, hxl, hf⟩ := DataW.trod_struct Tryd.underlying33 h
    match cs, hl with
    | [c0, c1, c2, c3, c4, c5], _ =>
      match xs, hxl with
      | [y0, y1, y2, y3, y4, y5], _ =>
        have f0 := field_one hf 0 (t := 3) (o := 0) rfl cells_int rfl rfl
        have f1 := field_one hf 1 (t := 4) (o := 1) rfl cells_bool rfl rfl
        have f2 := field_one hf 2 (t := 3) (o := 2) rfl cells_int rfl rfl
        have f3 := field_one hf 3 (t := 9) (o := 3) rfl cells_str rfl rfl
        have f4 := field_one hf 4 (t := 30) (o := 4) rfl cells_vls rfl rfl
        have f5 := field_one hf 5 (t := 31) (o := 5) rfl cells_strs rfl rfl
        obtain ⟨k, rfl, rfl, w0⟩ := int_val Tryd.underlying3 f0
        obtain ⟨b, rfl, rfl⟩ := bool_val Tryd.underlying4 f1
        obtain ⟨i, rfl, rfl, w2⟩ := int_val Tryd.underlying3 f2
        obtain ⟨s, rfl, rfl, hs⟩ := str_val Tryd.underlying9 f3
        obtain ⟨A', len', cap', rfl⟩ := slice_val Tryd.underlying30 f4
        obtain ⟨A2, len2, cap2, rfl⟩ := slice_val Tryd.underlying31 f5
        obtain ⟨ks, hk1, _, _, _, hk2, _⟩ := open_strs f5
        obtain ⟨l, g1, g2, _⟩ := open_list (r := RVl n') (sz := 6) (bulk := fun _ => 0) Tryd.underlying30 cells_vl (by omega) (fun n cs y hn hl hy => by
          obtain ⟨t, ht⟩ := open_vl n cs y hl hy
          subst hn
          exact ⟨t, ht.up, Nat.zero_le _⟩) f4
        have g3 := g1.2.1
        obtain rfl : len' = l.length := g1.1.symm
        subst hk1
        subst hfu
        unfold maxLen at g2
        exact ⟨.mk k b i s l ks, A', cap', A2, cap2, rfl, g1, hk2, by show l.length ≤ _; omega⟩
termination_by fuel => fuel
decreasing_by omega
end
theorem ty_form {f : Nat} {w : World} {S : Nat → Prop} {t : Ty} {cs : List Value} (h : RTf f w S t cs) : ∃ k A n c, cs = [.int .i64 k, .slice A n c] := by
  cases f with
  | zero => exact h.elim
  | succ f => obtain ⟨A, c, h1, _⟩ := h; exact ⟨_, _, _, _, h1⟩
end Go.Proofs.YtgcpffbaejodiaaDoor
