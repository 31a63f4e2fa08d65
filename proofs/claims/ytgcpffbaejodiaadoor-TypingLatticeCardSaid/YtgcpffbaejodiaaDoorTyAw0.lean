/- Typing: what the examples come to. -/
import Derived.Test.YtgcpffbaejodiaaDoorTyRp
import Derived.Test.YtgcpffbaejodiaaDoorTyOf
import Derived.Test.YtgcpffbaejodiaaDoorTyO
import Derived.Test.YtgcpffbaejodiaaDoorTyK
namespace Go.Proofs.YtgcpffbaejodiaaDoor
open Go.RowKit
theorem pv0 : parseV [108, 105, 115, 116, 40, 105, 110, 116, 41] = VT.of 5 (VT.base 3) := by decide +kernel
theorem pe0 : parseE [108, 105, 115, 116, 40, 105, 110, 116, 41] = 0 := by decide +kernel
theorem parse0 (w : World) : Calls Tryd.prog 26 #[.string ⟨#[108, 105, 115, 116, 40, 105, 110, 116, 41]⟩] w fun e w' => ∃ A n c, e = .returned (.tuple #[.agg #[.int .i64 5, .slice A n c], .int .i64 0]) ∧ RVB w' w'.heap.size (VT.of 5 (VT.base 3)) [.int .i64 5, .slice A n c] ∧ Below w.heap.size w w' := by
 have h := tparse_any ⟨#[108, 105, 115, 116, 40, 105, 110, 116, 41]⟩ w
 rw [show parseV (⟨#[108, 105, 115, 116, 40, 105, 110, 116, 41]⟩ : ByteArray).data.toList = VT.of 5 (VT.base 3) from pv0, show parseE (⟨#[108, 105, 115, 116, 40, 105, 110, 116, 41]⟩ : ByteArray).data.toList = 0 from pe0] at h
 refine h.mono ?_
 rintro e w' ⟨A, n, c, he, hr, hb⟩
 exact ⟨A, n, c, he, hr.imp (fun b h => h.2), hb⟩
theorem pv1 : parseV [108, 105, 115, 116, 40, 115, 116, 114, 105, 110, 103, 41] = VT.of 5 (VT.base 4) := by decide +kernel
theorem pe1 : parseE [108, 105, 115, 116, 40, 115, 116, 114, 105, 110, 103, 41] = 0 := by decide +kernel
theorem parse1 (w : World) : Calls Tryd.prog 26 #[.string ⟨#[108, 105, 115, 116, 40, 115, 116, 114, 105, 110, 103, 41]⟩] w fun e w' => ∃ A n c, e = .returned (.tuple #[.agg #[.int .i64 5, .slice A n c], .int .i64 0]) ∧ RVB w' w'.heap.size (VT.of 5 (VT.base 4)) [.int .i64 5, .slice A n c] ∧ Below w.heap.size w w' := by
 have h := tparse_any ⟨#[108, 105, 115, 116, 40, 115, 116, 114, 105, 110, 103, 41]⟩ w
 rw [show parseV (⟨#[108, 105, 115, 116, 40, 115, 116, 114, 105, 110, 103, 41]⟩ : ByteArray).data.toList = VT.of 5 (VT.base 4) from pv1, show parseE (⟨#[108, 105, 115, 116, 40, 115, 116, 114, 105, 110, 103, 41]⟩ : ByteArray).data.toList = 0 from pe1] at h
 refine h.mono ?_
 rintro e w' ⟨A, n, c, he, hr, hb⟩
 exact ⟨A, n, c, he, hr.imp (fun b h => h.2), hb⟩
theorem pv2 : parseV [108, 105, 115, 116, 40, 32, 105, 110, 116, 41] = VT.base 0 := by decide +kernel
theorem pe2 : parseE [108, 105, 115, 116, 40, 32, 105, 110, 116, 41] = 5 := by decide +kernel
theorem parse2 (w : World) : Calls Tryd.prog 26 #[.string ⟨#[108, 105, 115, 116, 40, 32, 105, 110, 116, 41]⟩] w fun e w' => ∃ A n c, e = .returned (.tuple #[.agg #[.int .i64 0, .slice A n c], .int .i64 5]) ∧ RVB w' w'.heap.size (VT.base 0) [.int .i64 0, .slice A n c] ∧ Below w.heap.size w w' := by
 have h := tparse_any ⟨#[108, 105, 115, 116, 40, 32, 105, 110, 116, 41]⟩ w
 rw [show parseV (⟨#[108, 105, 115, 116, 40, 32, 105, 110, 116, 41]⟩ : ByteArray).data.toList = VT.base 0 from pv2, show parseE (⟨#[108, 105, 115, 116, 40, 32, 105, 110, 116, 41]⟩ : ByteArray).data.toList = 5 from pe2] at h
 refine h.mono ?_
 rintro e w' ⟨A, n, c, he, hr, hb⟩
 exact ⟨A, n, c, he, hr.imp (fun b h => h.2), hb⟩
theorem rvl_leaf (w : World) (S : Nat → Prop) (k : Int) (b : Bool) (i : Int) (s : ByteArray) : RVl 1 w S (.mk k b i s [] []) [.int .i64 k, .bool b, .int .i64 i, .string s, .slice none 0 0, .slice none 0 0] :=
 ⟨none, 0, none, 0, rfl, ⟨rfl, Nat.le_refl _, fun _ => rfl, [], SeqP.nil_, rfl⟩, SeqP.nil_, Nat.zero_le _⟩
theorem rvl_two {w : World} {S : Nat → Prop} {g : Nat} {x y : Vl} {cx cy : List Value} (hC : CellsAt w g (cx ++ cy)) (hg : S g) (hlx : cx.length = 6) (hly : cy.length = 6) (hx : RVl 1 w S x cx) (hy : RVl 1 w S y cy) :
  RVl 2 w S (.mk 4 false 0 ⟨#[]⟩ [x, y] []) [.int .i64 4, .bool false, .int .i64 0, .string ⟨#[]⟩, .slice (some ⟨g, 0, none⟩) 2 2, .slice none 0 0] :=
 ⟨some ⟨g, 0, none⟩, 2, none, 0, rfl, ⟨rfl, Nat.le_refl _, (fun h => by cases h), cx ++ cy, ⟨by rw [List.length_append, hlx, hly]; rfl, fun _ => ⟨g, 0, rfl, hg, fun j u hu => by rw [Nat.zero_add]; exact hC.cell j u hu⟩⟩,
  cx, cy, rfl, hlx, hx, cy, [], (by simp), hly, hy, rfl⟩, SeqP.nil_, by show 2 ≤ 9223372036854775807; decide⟩
def vOne : Vl := .mk 2 false 1 ⟨#[]⟩ [] []
def vA : Vl := .mk 3 false 0 ⟨#[97]⟩ [] []
def vTwo : Vl := .mk 4 false 0 ⟨#[]⟩ [vOne, vA] []
def vNil : Vl := .mk 4 false 0 ⟨#[]⟩ [] []
theorem aw1 : boundS VT.join 0 (ofV (VT.of 5 (VT.base 3))) (ofV (VT.of 5 (VT.base 4))) = .of 5 (.base 0) := by decide +kernel
theorem aw2 : boundS VT.meet 7 (ofV (VT.of 5 (VT.base 3))) (ofV (VT.of 5 (VT.base 4))) = .of 5 (.base 7) := by decide +kernel
theorem aw3 : boundS VT.meet 7 (ofV (VT.of 5 (VT.base 3))) (ofV (VT.base 3)) = .base 7 := by decide +kernel
theorem aw4 : showS (ofV (.of 5 (.base 0))) = [108, 105, 115, 116, 40, 97, 110, 121, 41] := by decide +kernel
theorem aw5 : showS (ofV (.of 5 (.base 7))) = [108, 105, 115, 116, 40, 110, 101, 118, 101, 114, 41] := by decide +kernel
theorem aw6 : showS (ofV (.base 7)) = [110, 101, 118, 101, 114] := by decide +kernel
theorem aw7 : ofS vNil = .of 5 (.base 7) := by decide +kernel
theorem aw8 : ofS vTwo = .of 5 (.base 0) := by decide +kernel
theorem aw9 : subS (ofV (.of 5 (.base 7))) (ofV (VT.of 5 (VT.base 3))) = true := by decide +kernel
theorem aw10 : subS (ofV (VT.of 5 (VT.base 3))) (ofV (VT.of 5 (VT.base 4))) = false := by decide +kernel
theorem aw11 : fitsS vTwo (ofV (VT.of 5 (VT.base 3))) = false := by decide +kernel
theorem aw12 : fitsS vOne (ofV (VT.base 3)) = true := by decide +kernel
theorem aw13 : validT (ofV (VT.of 5 (VT.base 3))) = 0 := by decide +kernel
end Go.Proofs.YtgcpffbaejodiaaDoor
