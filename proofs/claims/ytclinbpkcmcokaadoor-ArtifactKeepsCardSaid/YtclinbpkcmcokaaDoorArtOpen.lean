/- Arguments opened: artifacts. -/
import Derived.Test.YtclinbpkcmcokaaDoorRd
import Derived.Test.YtclinbpkcmcokaaDoorLaw1
namespace Go.Proofs.YtclinbpkcmcokaaDoor
open Go.ChangeShapes Go.WideShapes Go.ChangeAt Go.RowKit
theorem ready_shaped {W : World} (h : W.ShapedOpen Tryd.prog) : Ready W := by
  obtain ⟨m, hm⟩ := Tryd.laysM146.s1_3 W h
  exact ⟨⟨m, hm⟩, World.block_lt_of_cell? W _ hm⟩
theorem cells_int : Tryd.prog.cellsOf 3 = 1 := by kernel_rfl
theorem cells_str : Tryd.prog.cellsOf 9 = 1 := by kernel_rfl
theorem cells_dig : Tryd.prog.cellsOf 26 = 1 := by kernel_rfl
theorem cells_ref : Tryd.prog.cellsOf 24 = 2 := by kernel_rfl
theorem cells_out : Tryd.prog.cellsOf 28 = 3 := by kernel_rfl
theorem cells_art : Tryd.prog.cellsOf 30 = 8 := by kernel_rfl
def IsI (x : Int) : Prop := -9223372036854775808 ≤ x ∧ x ≤ 9223372036854775807
def Nums (a : Art) : Prop := IsI a.att ∧ IsI a.size ∧ IsI a.created ∧ IsI a.expires ∧ 0 ≤ a.dig ∧ a.dig ≤ 18446744073709551615
section
variable {H : Type} {enc : TypeId × Value → H} {P : Program} {W : World} {spare : Nat → Bool} {held : Bool}
theorem field_wide {fs : Array Field} {n : Nat} {cs : List Value} {xs : List (DataW H × List MemPlace)}
    (hf : ∀ (i : Nat) (f : Field), fs[i]? = some f → DataW.trod enc P W 0 spare held n f.type ((cs.drop f.offset).take (P.cellsOf f.type)) = xs[i]?)
    (j : Nat) {t : TypeId} {o k : Nat} {y : DataW H × List MemPlace} (hj : fs[j]?.map (fun f => (f.type, f.offset)) = some (t, o)) (hC : P.cellsOf t = k) (hy : xs[j]? = some y) :
    DataW.trod enc P W 0 spare held n t ((cs.drop o).take k) = some y := by
  obtain ⟨f, hf1, hf2⟩ := Option.map_eq_some_iff.1 hj
  simp only [Prod.mk.injEq] at hf2
  obtain ⟨rfl, rfl⟩ := hf2
  have := hf j f hf1
  rw [hC, hy] at this
  exact this
end
section
variable {H : Type} {enc : TypeId × Value → H} {W : World} {spare : Nat → Bool} {held : Bool}
theorem open_art {n : Nat} {cs : List Value} {y : DataW H × List MemPlace} (hl : cs.length = 8) (h : DataW.trod enc Tryd.prog W 0 spare held n 30 cs = some y) :
    ∃ a : Art, cs = acl a ∧ Text a ∧ Nums a := by
  obtain ⟨xs, n', rfl, rfl, _, hxl, hf⟩ := DataW.trod_struct Tryd.underlying30 h
  match cs, hl with
  | [c0, c1, c2, c3, c4, c5, c6, c7], _ =>
    match xs, hxl with
    | [y0, y1, y2, y3, y4], _ =>
      have f0 := field_wide hf 0 (t := 24) (o := 0) rfl cells_ref rfl
      have f1 := field_one hf 1 (t := 3) (o := 2) rfl cells_int rfl rfl
      have f2 := field_wide hf 2 (t := 28) (o := 3) rfl cells_out rfl
      have f3 := field_one hf 3 (t := 3) (o := 6) rfl cells_int rfl rfl
      have f4 := field_one hf 4 (t := 3) (o := 7) rfl cells_int rfl rfl
      obtain ⟨i1, rfl, rfl, w1⟩ := int_val Tryd.underlying3 f1
      obtain ⟨i3, rfl, rfl, w3⟩ := int_val Tryd.underlying3 f3
      obtain ⟨i4, rfl, rfl, w4⟩ := int_val Tryd.underlying3 f4
      obtain ⟨xs0, m0, _, _, _, hxl0, hf0⟩ := DataW.trod_struct Tryd.underlying24 f0
      obtain ⟨xs2, m2, _, _, _, hxl2, hf2⟩ := DataW.trod_struct Tryd.underlying28 f2
      match xs0, hxl0 with
      | [z0, z1], _ =>
        match xs2, hxl2 with
        | [v0, v1, v2], _ =>
          have g0 := field_one hf0 0 (t := 9) (o := 0) rfl cells_str rfl rfl
          have g1 := field_one hf0 1 (t := 9) (o := 1) rfl cells_str rfl rfl
          have k0 := field_one hf2 0 (t := 9) (o := 0) rfl cells_str rfl rfl
          have k1 := field_one hf2 1 (t := 26) (o := 1) rfl cells_dig rfl rfl
          have k2 := field_one hf2 2 (t := 3) (o := 2) rfl cells_int rfl rfl
          obtain ⟨s0, rfl, rfl, hs0⟩ := str_val Tryd.underlying9 g0
          obtain ⟨s1, rfl, rfl, hs1⟩ := str_val Tryd.underlying9 g1
          obtain ⟨s2, rfl, rfl, hs2⟩ := str_val Tryd.underlying9 k0
          obtain ⟨d, rfl, rfl, wd⟩ := int_val Tryd.underlying26 k1
          obtain ⟨z, rfl, rfl, wz⟩ := int_val Tryd.underlying3 k2
          unfold maxLen at hs0 hs1 hs2
          refine ⟨⟨s0, s1, i1, s2, d, z, i3, i4⟩, rfl, ⟨by dsimp only; omega, by dsimp only; omega, by dsimp only; omega⟩, ?_, ?_, ?_, ?_, ?_⟩
          · simpa [Lit.wf, IntKind.min, IntKind.max, IntKind.signed, IntKind.bits, IsI] using w1
          · simpa [Lit.wf, IntKind.min, IntKind.max, IntKind.signed, IntKind.bits, IsI] using wz
          · simpa [Lit.wf, IntKind.min, IntKind.max, IntKind.signed, IntKind.bits, IsI] using w3
          · simpa [Lit.wf, IntKind.min, IntKind.max, IntKind.signed, IntKind.bits, IsI] using w4
          · simpa [Lit.wf, IntKind.min, IntKind.max, IntKind.signed, IntKind.bits] using wd
/-- one artifact's cells -/
def rA : Rd Art := fun _ _ a cs => cs = acl a ∧ Text a ∧ Nums a
theorem flat_of {w : World} {S : Nat → Prop} : ∀ {l : List Art} {cs : List Value}, RList rA 8 w S l cs → cs = l.flatMap acl ∧ (∀ a ∈ l, Text a) ∧ ∀ a ∈ l, Nums a
  | [], _, h => ⟨h, by simp, by simp⟩
  | x :: l, cs, h => by
    obtain ⟨c1, c2, rfl, _, ⟨rfl, h1, h2⟩, h3⟩ := h
    obtain ⟨rfl, h4, h5⟩ := flat_of h3
    refine ⟨rfl, ?_, ?_⟩
    · intro a ha
      rcases List.mem_cons.1 ha with rfl | ha
      · exact h1
      · exact h4 a ha
    · intro a ha
      rcases List.mem_cons.1 ha with rfl | ha
      · exact h2
      · exact h5 a ha
theorem open_arts {fuel : Nat} {A : Option Addr} {len cap : Nat} {x : DataW H × List MemPlace} (h : DataW.trod enc Tryd.prog W 0 spare held fuel 22 [.slice A len cap] = some x) :
    ∃ l : List Art, l.length = len ∧ (A = none → cap = 0) ∧ cap ≤ maxLen ∧ len ≤ cap ∧ SeqA W W.heap.size A l ∧ (∀ a ∈ l, Text a) ∧ ∀ a ∈ l, Nums a := by
  obtain ⟨l, ⟨h1, h2, h3, cs, h4, h5⟩, h6, _⟩ := open_list (r := rA) (sz := 8) (bulk := fun _ => 0) Tryd.underlying22 cells_art (by omega) (fun n cs y _ hl hy => by
    obtain ⟨a, h1, h2⟩ := open_art hl hy
    exact ⟨a, ⟨h1, h2⟩, Nat.zero_le _⟩) h
  obtain ⟨rfl, h7, h8⟩ := flat_of h5
  subst h1
  exact ⟨l, rfl, h3, h6, h2, h4, h7, h8⟩
/-- one string's cell -/
def rS : Rd ByteArray := fun _ _ s cs => cs = [.string s] ∧ s.size ≤ 9223372036854775807
theorem strs_of {w : World} {S : Nat → Prop} : ∀ {l : List ByteArray} {cs : List Value}, RList rS 1 w S l cs → cs = l.map Value.string ∧ ∀ s ∈ l, s.size ≤ 9223372036854775807
  | [], _, h => ⟨h, by simp⟩
  | x :: l, cs, h => by
    obtain ⟨c1, c2, rfl, _, ⟨rfl, h1⟩, h3⟩ := h
    obtain ⟨rfl, h4⟩ := strs_of h3
    refine ⟨rfl, ?_⟩
    intro a ha
    rcases List.mem_cons.1 ha with rfl | ha
    · exact h1
    · exact h4 a ha
theorem open_strs {fuel : Nat} {A : Option Addr} {len cap : Nat} {x : DataW H × List MemPlace} (h : DataW.trod enc Tryd.prog W 0 spare held fuel 48 [.slice A len cap] = some x) :
    ∃ l : List ByteArray, l.length = len ∧ (A = none → cap = 0) ∧ cap ≤ maxLen ∧ len ≤ cap ∧ Seq W W.heap.size 1 A len (l.map Value.string) ∧ ∀ s ∈ l, s.size ≤ 9223372036854775807 := by
  obtain ⟨l, ⟨h1, h2, h3, cs, h4, h5⟩, h6, _⟩ := open_list (r := rS) (sz := 1) (bulk := fun _ => 0) Tryd.underlying48 cells_str (by omega) (fun n cs y _ hl hy => by
    match cs, hl with
    | [c0], _ =>
      obtain ⟨s, rfl, rfl, hs⟩ := str_val Tryd.underlying9 hy
      unfold maxLen at hs
      exact ⟨s, ⟨rfl, by omega⟩, Nat.zero_le _⟩) h
  obtain ⟨rfl, h7⟩ := strs_of h5
  exact ⟨l, h1, h3, h6, h2, h4, h7⟩
end
end Go.Proofs.YtclinbpkcmcokaaDoor
