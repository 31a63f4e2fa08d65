/- Arguments opened: strings, lists of strings, fields (as Opn, without Ready). -/
import Derived.Test.YtennhjkhjplmoaaDoorRd
namespace Go.Proofs.YtennhjkhjplmoaaDoor
open Go.ChangeShapes Go.WideShapes Go.ChangeAt Go.RowKit
theorem cells_int : Tryd.prog.cellsOf 3 = 1 := by kernel_rfl
theorem cells_str : Tryd.prog.cellsOf 9 = 1 := by kernel_rfl
theorem cells_bool : Tryd.prog.cellsOf 4 = 1 := by kernel_rfl
def IsI (x : Int) : Prop := -9223372036854775808 ≤ x ∧ x ≤ 9223372036854775807
section
variable {H : Type} {enc : TypeId × Value → H} {P : Program} {W : World} {spare : Nat → Bool} {held : Bool}
theorem field_wide {fs : Array Field} {n : Nat} {cs : List Value} {xs : List (DataW H × List MemPlace)}
    (hf : ∀ (i : Nat) (f : Field), fs[i]? = some f → DataW.trod enc P W 0 spare held n f.type ((cs.drop f.offset).take (P.cellsOf f.type)) = xs[i]?)
    (j : Nat) {t : TypeId} {o k : Nat} {y : DataW H × List MemPlace} (hj : fs[j]?.map (fun f => (f.type, f.offset)) = some (t, o)) (hC : P.cellsOf t = k) (hy : xs[j]? = some y) :
    DataW.trod enc P W 0 spare held n t ((cs.drop o).take k) = some y := by
  obtain ⟨f, hf1, hf2⟩ := Option.map_eq_some_iff.1 hj
  simp only [Prod.mk.injEq] at hf2
  obtain ⟨rfl, rfl⟩ := hf2
  have := hf j f hf1
  rw [hC, hy] at this
  exact this
theorem bool_val {t : TypeId} {n : Nat} {v : Value} {y : DataW H × List MemPlace} (ht : P.underlying t = some .bool) (h : DataW.trod enc P W 0 spare held n t [v] = some y) :
    ∃ b, v = .bool b ∧ y = (.lit (.bool b), []) := by
  obtain ⟨x, e, h1⟩ := DataW.trod_bool ht h
  simp only [List.cons.injEq, and_true] at e
  exact ⟨x, e, h1⟩
end
section
variable {H : Type} {enc : TypeId × Value → H} {W : World} {spare : Nat → Bool} {held : Bool}
/-- one string's cell -/
def rS : Rd ByteArray := fun _ _ s cs => cs = [.string s] ∧ s.size ≤ 9223372036854775807
theorem strs_of {w : World} {S : Nat → Prop} : ∀ {l : List ByteArray} {cs : List Value}, RList rS 1 w S l cs → cs = l.map Value.string ∧ ∀ s ∈ l, s.size ≤ 9223372036854775807
  | [], _, h => ⟨h, by simp⟩
  | x :: l, cs, h => by
    obtain ⟨c1, c2, rfl, _, ⟨rfl, h1⟩, h3⟩ := h
    obtain ⟨rfl, h4⟩ := strs_of h3
    refine ⟨rfl, ?_⟩
    intro a ha
    rcases List.mem_cons.1 ha with rfl | ha
    · exact h1
    · exact h4 a ha
theorem open_strs {fuel : Nat} {A : Option Addr} {len cap : Nat} {x : DataW H × List MemPlace} (h : DataW.trod enc Tryd.prog W 0 spare held fuel 45 [.slice A len cap] = some x) :
    ∃ l : List ByteArray, l.length = len ∧ (A = none → cap = 0) ∧ cap ≤ maxLen ∧ len ≤ cap ∧ Seq W W.heap.size 1 A len (l.map Value.string) ∧ ∀ s ∈ l, s.size ≤ 9223372036854775807 := by
  obtain ⟨l, ⟨h1, h2, h3, cs, h4, h5⟩, h6, _⟩ := open_list (r := rS) (sz := 1) (bulk := fun _ => 0) Tryd.underlying45 cells_str (by omega) (fun n cs y _ hl hy => by
    match cs, hl with
    | [c0], _ =>
      obtain ⟨s, rfl, rfl, hs⟩ := str_val Tryd.underlying9 hy
      unfold maxLen at hs
      exact ⟨s, ⟨rfl, by omega⟩, Nat.zero_le _⟩) h
  obtain ⟨rfl, h7⟩ := strs_of h5
  exact ⟨l, h1, h3, h6, h2, h4, h7⟩
end
end Go.Proofs.YtennhjkhjplmoaaDoor
