/- The votes, opened. -/
import Derived.Test.YtionchkblgpklaaDoorGtOpen
import Derived.Test.YtionchkblgpklaaDoorGtLaw4
namespace Go.Proofs.YtionchkblgpklaaDoor
open Go.ChangeShapes Go.WideShapes Go.ChangeAt Go.RowKit
theorem cells_vote : Tryd.prog.cellsOf 47 = 3 := by kernel_rfl
/-- one vote's cells -/
def rV : Rd Vo := fun _ _ v cs => cs = vcells v ∧ I64 v.at_ ∧ v.who.size ≤ 9223372036854775807
theorem votes_of {w : World} {S : Nat → Prop} : ∀ {l : List Vo} {cs : List Value}, RList rV 3 w S l cs → cs = l.flatMap vcells ∧ ∀ v ∈ l, I64 v.at_ ∧ v.who.size ≤ 9223372036854775807
  | [], _, h => ⟨h, by simp⟩
  | x :: l, cs, h => by
    obtain ⟨c1, c2, rfl, _, ⟨rfl, h1⟩, h3⟩ := h
    obtain ⟨rfl, h4⟩ := votes_of h3
    refine ⟨rfl, ?_⟩
    intro a ha
    rcases List.mem_cons.1 ha with rfl | ha
    · exact h1
    · exact h4 a ha
section
variable {H : Type} {enc : TypeId × Value → H} {W : World} {spare : Nat → Bool} {held : Bool}
set_option maxRecDepth 100000 in
theorem open_votes {fuel : Nat} {A : Option Addr} {len cap : Nat} {x : DataW H × List MemPlace} (h : DataW.trod enc Tryd.prog W 0 spare held fuel 45 [.slice A len cap] = some x) :
    ∃ l : List Vo, l.length = len ∧ Seq W W.heap.size 3 A len (l.flatMap vcells) ∧ ∀ v ∈ l, I64 v.at_ ∧ v.who.size ≤ 9223372036854775807 := by
  obtain ⟨l, ⟨h1, h2, h3, cs, h4, h5⟩, h6, _⟩ := open_list (r := rV) (sz := 3) (bulk := fun _ => 0) Tryd.underlying45 cells_vote (by omega) (fun n cs y _ hl hy => by
    obtain ⟨xs, n', rfl, rfl, _, hxl, hf⟩ := DataW.trod_struct Tryd.underlying47 hy
    match cs, hl with
    | [c0, c1, c2], _ =>
      match xs, hxl with
      | [y0, y1, y2], _ =>
        have f0 := field_one hf 0 (t := 9) (o := 0) rfl cells_str rfl rfl
        have f1 := field_one hf 1 (t := 4) (o := 1) rfl cells_bool rfl rfl
        have f2 := field_one hf 2 (t := 3) (o := 2) rfl cells_int rfl rfl
        obtain ⟨s, rfl, rfl, hs⟩ := str_val Tryd.underlying9 f0
        obtain ⟨q, rfl, rfl⟩ := bool_val Tryd.underlying4 f1
        obtain ⟨z, rfl, rfl, hz⟩ := int_val Tryd.underlying3 f2
        unfold maxLen at hs
        exact ⟨⟨s, q, z⟩, ⟨rfl, bounds_i64 hz, by dsimp only; omega⟩, Nat.zero_le _⟩) h
  obtain ⟨rfl, h7⟩ := votes_of h5
  exact ⟨l, h1, h4, h7⟩
end
end Go.Proofs.YtionchkblgpklaaDoor
