/- Arguments opened: origins. -/
import Derived.Test.YtpdlapdnjmoaoaaDoorCaOpen
import Derived.Test.YtpdlapdnjmoaoaaDoorCaT
namespace Go.Proofs.YtpdlapdnjmoaoaaDoor
open Go.ChangeShapes Go.WideShapes Go.ChangeAt Go.RowKit
theorem cells_org : Tryd.prog.cellsOf 54 = 3 := by kernel_rfl
def OrgW (o : Org) : Prop := o.prj.size ≤ 9223372036854775807 ∧ o.ref.size ≤ 9223372036854775807
section
variable {H : Type} {enc : TypeId × Value → H} {W : World} {spare : Nat → Bool} {held : Bool}
set_option maxRecDepth 100000 in
theorem open_org {n : Nat} {cs : List Value} {y : DataW H × List MemPlace} (hl : cs.length = 3) (h : DataW.trod enc Tryd.prog W 0 spare held n 54 cs = some y) :
    ∃ o : Org, cs = (ocells o).toList ∧ OrgW o := by
  obtain ⟨xs, n', rfl, rfl, _, hxl, hf⟩ := DataW.trod_struct Tryd.underlying54 h
  match cs, hl with
  | [c0, c1, c2], _ =>
    match xs, hxl with
    | [y0, y1, y2], _ =>
      have f0 := field_one hf 0 (t := 9) (o := 0) rfl cells_str rfl rfl
      have f1 := field_one hf 1 (t := 9) (o := 1) rfl cells_str rfl rfl
      have f2 := field_one hf 2 (t := 4) (o := 2) rfl cells_bool rfl rfl
      obtain ⟨s0, rfl, rfl, hs0⟩ := str_val Tryd.underlying9 f0
      obtain ⟨s1, rfl, rfl, hs1⟩ := str_val Tryd.underlying9 f1
      obtain ⟨b2, rfl, rfl⟩ := bool_val Tryd.underlying4 f2
      unfold maxLen at hs0 hs1
      exact ⟨⟨s0, s1, b2⟩, rfl, by dsimp only; omega, by dsimp only; omega⟩
end
end Go.Proofs.YtpdlapdnjmoaoaaDoor
