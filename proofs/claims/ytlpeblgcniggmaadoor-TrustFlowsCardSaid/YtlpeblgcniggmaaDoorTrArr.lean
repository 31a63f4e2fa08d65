/- An array of three origins, opened. -/
import Derived.Test.YtlpeblgcniggmaaDoorTrOpen
import Derived.Test.YtlpeblgcniggmaaDoorTrLaw4
import Derived.OpenShut
namespace Go.Proofs.YtlpeblgcniggmaaDoor
open Go.ChangeShapes Go.WideShapes Go.ChangeAt Go.RowKit
theorem okWide_array {P : Program} {w : World} {r : Reach} {base : Nat} {t : TypeId} {v : Value} {n : Nat} {e : TypeId} (ht : P.underlying t = some (.array n e)) (h : Value.okWide P w r base t v) : ∃ cs, v = .agg cs ∧ cs.size = P.cellsOf t := by
  simp only [Value.okWide, ht] at h
  obtain ⟨cs, h1, h2, _⟩ := h
  exact ⟨cs, h1, h2⟩
theorem cells_org3 : Tryd.prog.cellsOf 39 = 9 := by kernel_rfl
def orgF (o0 o1 o2 : Org) : Nat → Org
  | 0 => o0
  | 1 => o1
  | _ => o2
section
variable {H : Type} {enc : TypeId × Value → H} {W : World} {spare : Nat → Bool} {held : Bool}
set_option maxRecDepth 100000 in
theorem open_org3 {n : Nat} {cs : List Value} {y : DataW H × List MemPlace} (hl : cs.length = 9) (h : DataW.trod enc Tryd.prog W 0 spare held n 39 cs = some y) :
    ∃ o0 o1 o2 : Org, cs = (ocells3 (orgF o0 o1 o2)).toList ∧ OrgW o0 ∧ OrgW o1 ∧ OrgW o2 := by
  obtain ⟨xs, m, rfl, rfl, _, hxl, hf⟩ := DataW.trod_array Tryd.underlying39 h
  rw [cells_org] at hf
  match cs, hl with
  | [c0, c1, c2, c3, c4, c5, c6, c7, c8], _ =>
    match xs, hxl with
    | [y0, y1, y2], _ =>
      have f0 := hf 0 (by omega)
      have f1 := hf 1 (by omega)
      have f2 := hf 2 (by omega)
      obtain ⟨o0, e0, w0⟩ := open_org (cs := [c0, c1, c2]) rfl f0
      obtain ⟨o1, e1, w1⟩ := open_org (cs := [c3, c4, c5]) rfl f1
      obtain ⟨o2, e2, w2⟩ := open_org (cs := [c6, c7, c8]) rfl f2
      refine ⟨o0, o1, o2, ?_, w0, w1, w2⟩
      show [c0, c1, c2] ++ ([c3, c4, c5] ++ [c6, c7, c8]) = _
      rw [e0, e1, e2]
      rfl
end
end Go.Proofs.YtlpeblgcniggmaaDoor
