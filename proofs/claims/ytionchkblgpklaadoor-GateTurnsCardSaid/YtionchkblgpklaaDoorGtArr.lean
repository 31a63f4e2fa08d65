/- An array of two strings, opened. -/
import Derived.Test.YtionchkblgpklaaDoorGtOpen
import Derived.Test.YtionchkblgpklaaDoorGtLaw5
namespace Go.Proofs.YtionchkblgpklaaDoor
open Go.ChangeShapes Go.WideShapes Go.ChangeAt Go.RowKit
theorem okWide_array {P : Program} {w : World} {r : Reach} {base : Nat} {t : TypeId} {v : Value} {n : Nat} {e : TypeId} (ht : P.underlying t = some (.array n e)) (h : Value.okWide P w r base t v) : ∃ cs, v = .agg cs ∧ cs.size = P.cellsOf t := by
  simp only [Value.okWide, ht] at h
  obtain ⟨cs, h1, h2, _⟩ := h
  exact ⟨cs, h1, h2⟩
theorem cells_str2 : Tryd.prog.cellsOf 50 = 2 := by kernel_rfl
section
variable {H : Type} {enc : TypeId × Value → H} {W : World} {spare : Nat → Bool} {held : Bool}
set_option maxRecDepth 100000 in
theorem open_str2 {n : Nat} {cs : List Value} {y : DataW H × List MemPlace} (hl : cs.length = 2) (h : DataW.trod enc Tryd.prog W 0 spare held n 50 cs = some y) :
    ∃ a b : ByteArray, cs = [.string a, .string b] := by
  obtain ⟨xs, m, rfl, rfl, _, hxl, hf⟩ := DataW.trod_array Tryd.underlying50 h
  rw [cells_str] at hf
  match cs, hl with
  | [c0, c1], _ =>
    match xs, hxl with
    | [y0, y1], _ =>
      have f0 := hf 0 (by omega)
      have f1 := hf 1 (by omega)
      obtain ⟨a, rfl, _, _⟩ := str_val (v := c0) Tryd.underlying9 f0
      obtain ⟨b, rfl, _, _⟩ := str_val (v := c1) Tryd.underlying9 f1
      exact ⟨a, b, rfl⟩
end
end Go.Proofs.YtionchkblgpklaaDoor
