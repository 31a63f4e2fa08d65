/- Deploy: calls opened. -/
import Derived.Test.YtennhjkhjplmoaaDoorOpnS
import Derived.Test.YtennhjkhjplmoaaDoorDpT5
import Derived.OpenShut
namespace Go.Proofs.YtennhjkhjplmoaaDoor
open Go.ChangeShapes Go.WideShapes Go.ChangeAt Go.RowKit
theorem cells_u8 : Tryd.prog.cellsOf 5 = 1 := by kernel_rfl
theorem cells_call : Tryd.prog.cellsOf 50 = 3 := by kernel_rfl
def CallOk (x : CallV) : Prop := x.k < 256 ∧ x.p < 256 ∧ x.j < 256
section
variable {H : Type} {enc : TypeId × Value → H} {W : World} {spare : Nat → Bool} {held : Bool}
theorem nat_u8 {x : Int} (h : (Lit.int .u8 x).wf = true) : ∃ k : Nat, x = (k : Int) ∧ k < 256 := by
  have := bounds_u8 h
  exact ⟨x.toNat, by omega, by omega⟩
set_option maxRecDepth 100000 in
theorem open_call {n : Nat} {cs : List Value} {y : DataW H × List MemPlace} (hl : cs.length = 3) (h : DataW.trod enc Tryd.prog W 0 spare held n 50 cs = some y) :
    ∃ x : CallV, cs = [.int .u8 (x.k : Int), .int .u8 (x.p : Int), .int .u8 (x.j : Int)] ∧ CallOk x := by
  obtain ⟨xs, n', rfl, rfl, _, hxl, hf⟩ := DataW.trod_struct Tryd.underlying50 h
  match cs, hl with
  | [c0, c1, c2], _ =>
    match xs, hxl with
    | [y0, y1, y2], _ =>
      have f0 := field_one hf 0 (t := 5) (o := 0) rfl cells_u8 rfl rfl
      have f1 := field_one hf 1 (t := 5) (o := 1) rfl cells_u8 rfl rfl
      have f2 := field_one hf 2 (t := 5) (o := 2) rfl cells_u8 rfl rfl
      obtain ⟨v0, rfl, rfl, w0⟩ := int_val Tryd.underlying5 f0
      obtain ⟨v1, rfl, rfl, w1⟩ := int_val Tryd.underlying5 f1
      obtain ⟨v2, rfl, rfl, w2⟩ := int_val Tryd.underlying5 f2
      obtain ⟨k0, rfl, g0⟩ := nat_u8 w0
      obtain ⟨k1, rfl, g1⟩ := nat_u8 w1
      obtain ⟨k2, rfl, g2⟩ := nat_u8 w2
      exact ⟨⟨k0, k1, k2⟩, rfl, g0, g1, g2⟩
def rCallB : Rd CallV := fun w S x cs => rCall w S x cs ∧ CallOk x
theorem calls_of {w : World} {S : Nat → Prop} : ∀ {l : List CallV} {cs : List Value}, RList rCallB 3 w S l cs → RList rCall 3 w S l cs ∧ ∀ x ∈ l, CallOk x
  | [], _, h => ⟨h, by simp⟩
  | x :: l, cs, h => by
    obtain ⟨c1, c2, rfl, hl, ⟨h1, h2⟩, h3⟩ := h
    obtain ⟨h4, h5⟩ := calls_of h3
    refine ⟨⟨c1, c2, rfl, hl, h1, h4⟩, fun y hy => ?_⟩
    rcases List.mem_cons.1 hy with rfl | hy
    · exact h2
    · exact h5 y hy
set_option maxRecDepth 100000 in
theorem open_calls {fuel : Nat} {A : Option Addr} {len cap : Nat} {x : DataW H × List MemPlace} (h : DataW.trod enc Tryd.prog W 0 spare held fuel 44 [.slice A len cap] = some x) : ∃ l : List CallV, RSlice rCall 3 W (fun b => b < W.heap.size) A len cap l ∧ ∀ x ∈ l, x.k < 256 ∧ x.p < 256 ∧ x.j < 256 := by
  obtain ⟨l, ⟨h1, h2, h3, cs, h4, h5⟩, h6, _⟩ := open_list (r := rCallB) (sz := 3) (bulk := fun _ => 0) Tryd.underlying44 cells_call (by omega) (fun n cs y _ hl hy => by
    obtain ⟨x, h1, h2⟩ := open_call hl hy
    exact ⟨x, ⟨h1, h2⟩, Nat.zero_le _⟩) h
  obtain ⟨h7, h8⟩ := calls_of h5
  exact ⟨l, ⟨h1, h2, h3, cs, h4, h7⟩, h8⟩
end
end Go.Proofs.YtennhjkhjplmoaaDoor
