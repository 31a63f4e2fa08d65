/- Arguments opened: specifications, gates. -/
import Derived.Test.YtionchkblgpklaaDoorOpnS
import Derived.Test.YtionchkblgpklaaDoorGtL
import Derived.OpenShut
namespace Go.Proofs.YtionchkblgpklaaDoor
open Go.ChangeShapes Go.WideShapes Go.ChangeAt Go.RowKit
theorem cells_spec : Tryd.prog.cellsOf 24 = 3 := by kernel_rfl
theorem cells_gate : Tryd.prog.cellsOf 28 = 6 := by kernel_rfl
theorem cells_strs : Tryd.prog.cellsOf 22 = 1 := by kernel_rfl
structure LstW (W : World) (l : List ByteArray) (A : Option Addr) (c : Nat) : Prop where
  seq : Seq W W.heap.size 1 A l.length (cellsS l)
  len : l.length ≤ 9223372036854775807
  cap : l.length ≤ c
  each : ∀ s ∈ l, s.size ≤ 9223372036854775807
structure SpcW (W : World) (s : Gs) (A : Option Addr) (c : Nat) : Prop where
  who : LstW W s.who A c
  app : I64 s.app
  exp : I64 s.exp
section
variable {H : Type} {enc : TypeId × Value → H} {W : World} {spare : Nat → Bool} {held : Bool}
theorem open_lst {n : Nat} {v : Value} {y : DataW H × List MemPlace} (h : DataW.trod enc Tryd.prog W 0 spare held n 22 [v] = some y) : ∃ (l : List ByteArray) (A : Option Addr) (c : Nat), v = .slice A l.length c ∧ LstW W l A c := by
  obtain ⟨A, len, cap, rfl⟩ := slice_val Tryd.underlying22 h
  obtain ⟨l, rfl, hnil, hm, hc, hs, ht⟩ := open_strs h
  unfold maxLen at hm
  exact ⟨l, A, cap, rfl, hs, by omega, hc, ht⟩
set_option maxRecDepth 100000 in
theorem open_spec {n : Nat} {cs : List Value} {y : DataW H × List MemPlace} (hl : cs.length = 3) (h : DataW.trod enc Tryd.prog W 0 spare held n 24 cs = some y) :
    ∃ (s : Gs) (A : Option Addr) (c : Nat), cs = (sarr s A c).toList ∧ SpcW W s A c := by
  obtain ⟨xs, n', rfl, rfl, _, hxl, hf⟩ := DataW.trod_struct Tryd.underlying24 h
  match cs, hl with
  | [c0, c1, c2], _ =>
    match xs, hxl with
    | [y0, y1, y2], _ =>
      have f0 := field_one hf 0 (t := 3) (o := 0) rfl cells_int rfl rfl
      have f1 := field_one hf 1 (t := 22) (o := 1) rfl cells_strs rfl rfl
      have f2 := field_one hf 2 (t := 3) (o := 2) rfl cells_int rfl rfl
      obtain ⟨s0, rfl, rfl, hs0⟩ := int_val Tryd.underlying3 f0
      obtain ⟨l, A, c, rfl, hL⟩ := open_lst f1
      obtain ⟨s2, rfl, rfl, hs2⟩ := int_val Tryd.underlying3 f2
      exact ⟨⟨s0, l, s2⟩, A, c, rfl, hL, bounds_i64 hs0, bounds_i64 hs2⟩
set_option maxRecDepth 100000 in
theorem open_gate {n : Nat} {cs : List Value} {y : DataW H × List MemPlace} (hl : cs.length = 6) (h : DataW.trod enc Tryd.prog W 0 spare held n 28 cs = some y) :
    ∃ (g : Gt) (A : Option Addr) (c : Nat) (A' : Option Addr) (c' : Nat), cs = (garr g A c A' c').toList ∧ SpcW W g.s A c ∧ I64 g.opened ∧ LstW W g.yes A' c' := by
  obtain ⟨xs, n', rfl, rfl, _, hxl, hf⟩ := DataW.trod_struct Tryd.underlying28 h
  match cs, hl with
  | [c0, c1, c2, c3, c4, c5], _ =>
    match xs, hxl with
    | [y0, y1, y2, y3], _ =>
      have f0 := field_wide hf 0 (t := 24) (o := 0) rfl cells_spec rfl
      have f1 := field_one hf 1 (t := 3) (o := 3) rfl cells_int rfl rfl
      have f2 := field_one hf 2 (t := 22) (o := 4) rfl cells_strs rfl rfl
      have f3 := field_one hf 3 (t := 3) (o := 5) rfl cells_int rfl rfl
      obtain ⟨s, A, c, e0, hS⟩ := open_spec (cs := [c0, c1, c2]) rfl f0
      obtain ⟨s1, rfl, rfl, hs1⟩ := int_val Tryd.underlying3 f1
      obtain ⟨l, A', c', rfl, hL⟩ := open_lst f2
      obtain ⟨s3, rfl, rfl, hs3⟩ := int_val Tryd.underlying3 f3
      refine ⟨⟨s, s1, l, s3⟩, A, c, A', c', ?_, hS, bounds_i64 hs1, hL⟩
      show [c0, c1, c2] ++ _ = _
      rw [e0]
      rfl
end
end Go.Proofs.YtionchkblgpklaaDoor
