/- An array of three types, opened. -/
import Derived.Test.YtgcpffbaejodiaaDoorTyOp
import Derived.OpenShut
namespace Go.Proofs.YtgcpffbaejodiaaDoor
open Go.ChangeShapes Go.WideShapes Go.ChangeAt Go.RowKit
theorem okWide_array {P : Program} {w : World} {r : Reach} {base : Nat} {t : TypeId} {v : Value} {n : Nat} {e : TypeId} (ht : P.underlying t = some (.array n e)) (h : Value.okWide P w r base t v) : ∃ cs, v = .agg cs ∧ cs.size = P.cellsOf t := by
  simp only [Value.okWide, ht] at h
  obtain ⟨cs, h1, h2, _⟩ := h
  exact ⟨cs, h1, h2⟩
theorem cells_ty3 : Tryd.prog.cellsOf 38 = 6 := by kernel_rfl
section
variable {H : Type} {enc : TypeId × Value → H} {W : World} {spare : Nat → Bool} {held : Bool}
set_option maxRecDepth 100000 in
theorem open_ty3 {n : Nat} {cs : List Value} {y : DataW H × List MemPlace} (hl : cs.length = 6) (h : DataW.trod enc Tryd.prog W 0 spare held n 38 cs = some y) :
    ∃ (m : Nat) (ta : Ty) (ka : Int) (Aa : Option Addr) (na ca : Nat) (tb : Ty) (kb : Int) (Ab : Option Addr) (nb cb : Nat) (tc : Ty) (kc : Int) (Ac : Option Addr) (nc cc : Nat), cs = [.int .i64 ka, .slice Aa na ca, .int .i64 kb, .slice Ab nb cb, .int .i64 kc, .slice Ac nc cc] ∧
      RTf m W (fun b => b < W.heap.size) ta [.int .i64 ka, .slice Aa na ca] ∧ RTf m W (fun b => b < W.heap.size) tb [.int .i64 kb, .slice Ab nb cb] ∧ RTf m W (fun b => b < W.heap.size) tc [.int .i64 kc, .slice Ac nc cc] := by
  obtain ⟨xs, m, rfl, rfl, _, hxl, hf⟩ := DataW.trod_array Tryd.underlying38 h
  rw [cells_ty] at hf
  match cs, hl with
  | [c0, c1, c2, c3, c4, c5], _ =>
    match xs, hxl with
    | [y0, y1, y2], _ =>
      have f0 := hf 0 (by omega)
      have f1 := hf 1 (by omega)
      have f2 := hf 2 (by omega)
      obtain ⟨ta, ra⟩ := open_ty _ [c0, c1] _ rfl f0
      obtain ⟨tb, rb⟩ := open_ty _ [c2, c3] _ rfl f1
      obtain ⟨tc, rc⟩ := open_ty _ [c4, c5] _ rfl f2
      obtain ⟨ka, Aa, na, ca, ea⟩ := ty_form ra
      obtain ⟨kb, Ab, nb, cb, eb⟩ := ty_form rb
      obtain ⟨kc, Ac, nc, cc, ec⟩ := ty_form rc
      injection ea with e0 e1
      injection e1 with e1 _
      injection eb with e2 e3
      injection e3 with e3 _
      injection ec with e4 e5
      injection e5 with e5 _
      subst e0 e1 e2 e3 e4 e5
      exact ⟨_, ta, ka, Aa, na, ca, tb, kb, Ab, nb, cb, tc, kc, Ac, nc, cc, rfl, ra, rb, rc⟩
end
end Go.Proofs.YtgcpffbaejodiaaDoor
