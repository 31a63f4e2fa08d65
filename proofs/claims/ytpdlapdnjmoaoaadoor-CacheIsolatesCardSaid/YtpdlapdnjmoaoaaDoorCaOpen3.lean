/- Arguments opened: acts. -/
import Derived.Test.YtpdlapdnjmoaoaaDoorCaOpen2
import Derived.Test.YtpdlapdnjmoaoaaDoorCaI4
namespace Go.Proofs.YtpdlapdnjmoaoaaDoor
open Go.ChangeShapes Go.WideShapes Go.ChangeAt Go.RowKit
theorem cells_act : Tryd.prog.cellsOf 61 = 13 := by kernel_rfl
section
variable {H : Type} {enc : TypeId × Value → H} {W : World} {spare : Nat → Bool} {held : Bool}
set_option maxRecDepth 100000 in
theorem open_act {n : Nat} {cs : List Value} {y : DataW H × List MemPlace} (hl : cs.length = 13) (h : DataW.trod enc Tryd.prog W 0 spare held n 61 cs = some y) :
    ∃ a : Acn, cs = (act13 a).toList ∧ a.text := by
  obtain ⟨xs, n', rfl, rfl, _, hxl, hf⟩ := DataW.trod_struct Tryd.underlying61 h
  match cs, hl with
  | [c0, c1, c2, c3, c4, c5, c6, c7, c8, c9, c10, c11, c12], _ =>
    match xs, hxl with
    | [y0, y1, y2, y3], _ =>
      have f0 := field_one hf 0 (t := 4) (o := 0) rfl cells_bool rfl rfl
      have f1 := field_one hf 1 (t := 3) (o := 1) rfl cells_int rfl rfl
      have f2 := field_wide hf 2 (t := 54) (o := 2) rfl cells_org rfl
      have f3 := field_wide hf 3 (t := 42) (o := 5) rfl cells_ent rfl
      obtain ⟨b, rfl, rfl⟩ := bool_val Tryd.underlying4 f0
      obtain ⟨z, rfl, rfl, wz⟩ := int_val Tryd.underlying3 f1
      obtain ⟨o, e2, ho⟩ := open_org (cs := [c2, c3, c4]) rfl f2
      obtain ⟨x, e3, hx, hn⟩ := open_ent (cs := [c5, c6, c7, c8, c9, c10, c11, c12]) rfl f3
      refine ⟨⟨b, z, o, x⟩, ?_, ho.1, ho.2, hx, hn⟩
      show [_, _] ++ ([c2, c3, c4] ++ [c5, c6, c7, c8, c9, c10, c11, c12]) = _
      rw [e2, e3]
      rfl
def rA : Rd Acn := fun _ _ x cs => cs = (act13 x).toList ∧ x.text
theorem actsC_of {w : World} {S : Nat → Prop} : ∀ {l : List Acn} {cs : List Value}, RList rA 13 w S l cs → cs = actsC l ∧ ∀ x ∈ l, x.text
  | [], _, h => ⟨h, by simp⟩
  | x :: l, cs, h => by
    obtain ⟨c1, c2, rfl, _, ⟨rfl, h1⟩, h3⟩ := h
    obtain ⟨rfl, h4⟩ := actsC_of h3
    refine ⟨rfl, ?_⟩
    intro a ha
    rcases List.mem_cons.1 ha with rfl | ha
    · exact h1
    · exact h4 a ha
theorem open_acts {fuel : Nat} {A : Option Addr} {len cap : Nat} {x : DataW H × List MemPlace} (h : DataW.trod enc Tryd.prog W 0 spare held fuel 59 [.slice A len cap] = some x) :
    ∃ l : List Acn, l.length = len ∧ (A = none → cap = 0) ∧ cap ≤ maxLen ∧ len ≤ cap ∧ Seq W W.heap.size 13 A len (actsC l) ∧ ∀ a ∈ l, a.text := by
  obtain ⟨l, ⟨h1, h2, h3, cs, h4, h5⟩, h6, _⟩ := open_list (r := rA) (sz := 13) (bulk := fun _ => 0) Tryd.underlying59 cells_act (by omega) (fun n cs y _ hl hy => by
    obtain ⟨a, h1, h2⟩ := open_act hl hy
    exact ⟨a, ⟨h1, h2⟩, Nat.zero_le _⟩) h
  obtain ⟨rfl, h7⟩ := actsC_of h5
  exact ⟨l, h1, h3, h6, h2, h4, h7⟩
end
end Go.Proofs.YtpdlapdnjmoaoaaDoor
