/- Arguments opened: a slice of fields. -/
import Derived.Test.YtjipnomokggcfaaRd
import Derived.Test.YtjipnomokggcfaaFld
namespace Go.Proofs.Ytjipnomokggcfaa
open Go.ChangeShapes Go.WideShapes Go.ChangeAt Go.RowKit
theorem cellsF : Try.prog.cellsOf 27 = 4 := by kernel_rfl
theorem cells_int : Try.prog.cellsOf 3 = 1 := by kernel_rfl
theorem cells_str : Try.prog.cellsOf 9 = 1 := by kernel_rfl
theorem cells_sl : Try.prog.cellsOf 22 = 1 := by kernel_rfl
/-- one field's cells -/
def rF : Rd (Int × Int × ByteArray × Flds) := fun w S x cs => ∃ A c csub, cs = [.int .i64 x.1, .int .i64 x.2.1, .string x.2.2.1, .slice A x.2.2.2.length c] ∧ IsInt x.1 ∧ IsInt x.2.1 ∧ SeqP w S 4 A x.2.2.2.length csub ∧ RepP w S x.2.2.2 csub
def Flds.of : List (Int × Int × ByteArray × Flds) → Flds
  | [] => .nil
  | x :: l => .cons x.1 x.2.1 x.2.2.1 x.2.2.2 (Flds.of l)
theorem of_length : ∀ l, (Flds.of l).length = l.length
  | [] => rfl
  | x :: l => by simp only [Flds.of, Flds.length, of_length l, List.length_cons]
def fbulk (x : Int × Int × ByteArray × Flds) : Nat := x.2.2.1.size + x.2.2.2.size + 1
theorem of_size : ∀ l, (Flds.of l).size = (l.map fbulk).sum + 1
  | [] => rfl
  | x :: l => by
    simp only [Flds.of, Flds.size, of_size l, List.map_cons, List.sum_cons, fbulk]; omega
theorem of_rep {w : World} {S : Nat → Prop} : ∀ {l : List (Int × Int × ByteArray × Flds)} {cs : List Value}, RList rF 4 w S l cs → RepP w S (Flds.of l) cs
  | [], _, h => h
  | x :: l, cs, h => by
    obtain ⟨c1, c2, rfl, _, ⟨A, c, csub, rfl, h1, h2, h3, h4⟩, h5⟩ := h
    exact ⟨A, c, c2, csub, rfl, h1, h2, h3, h4, of_rep h5⟩
section
variable {H : Type} {enc : TypeId × Value → H} {W : World} {spare : Nat → Bool} {held : Bool}
theorem open_flds : ∀ (fuel : Nat) (A : Option Addr) (len cap : Nat) (x : DataW H × List MemPlace), DataW.trod enc Try.prog W 0 spare held fuel 22 [.slice A len cap] = some x →
    ∃ (f : Flds) (cs : List Value), f.length = len ∧ (A = none → cap = 0) ∧ Seq W W.heap.size 4 A len cs ∧ RepF W W.heap.size f cs ∧ f.size ≤ Rows.uptoBulk x.1
  | fuel, A, len, cap, x, h => by
    obtain ⟨l, ⟨h1, _, h3, cs, h4, h5⟩, _, h7⟩ := open_list (r := rF) (sz := 4) (bulk := fbulk) Try.underlying22 cellsF (by omega) (fun n cs y hn hl hy => by
      obtain ⟨xs, n', rfl, rfl, _, hxl, hf⟩ := DataW.trod_struct Try.underlying27 hy
      match cs, hl with
      | [c0, c1, c2, c3], _ =>
        match xs, hxl with
        | [y0, y1, y2, y3], _ =>
          have f0 := field_one hf 0 (t := 3) (o := 0) rfl cells_int rfl rfl
          have f1 := field_one hf 1 (t := 3) (o := 1) rfl cells_int rfl rfl
          have f2 := field_one hf 2 (t := 9) (o := 2) rfl cells_str rfl rfl
          have f3 := field_one hf 3 (t := 22) (o := 3) rfl cells_sl rfl rfl
          obtain ⟨k, rfl, rfl, w0⟩ := int_val Try.underlying3 f0
          obtain ⟨i, rfl, rfl, w1⟩ := int_val Try.underlying3 f1
          obtain ⟨s, rfl, rfl, hs⟩ := str_val Try.underlying9 f2
          obtain ⟨A', len', cap', rfl⟩ := slice_val Try.underlying22 f3
          obtain ⟨sub, csub, g1, _, g3, g4, g5⟩ := open_flds n' A' len' cap' y3 f3
          subst g1
          refine ⟨(k, i, s, sub), ⟨A', cap', csub, rfl, ?_, ?_, g3, g4⟩, ?_⟩
          · simpa [Lit.wf, IntKind.min, IntKind.max, IntKind.signed, IntKind.bits, IsInt] using w0
          · simpa [Lit.wf, IntKind.min, IntKind.max, IntKind.signed, IntKind.bits, IsInt] using w1
          · simp only [fbulk, List.map_cons, List.map_nil, Rows.uptoBulk, Rows.uptoBulkAll]
            have : s.data.toList.length = s.size := by simp
            omega) h
    exact ⟨Flds.of l, cs, by rw [of_length, h1], h3, h4, of_rep h5, by rw [of_size]; exact h7⟩
termination_by fuel => fuel
decreasing_by omega
end
end Go.Proofs.Ytjipnomokggcfaa
