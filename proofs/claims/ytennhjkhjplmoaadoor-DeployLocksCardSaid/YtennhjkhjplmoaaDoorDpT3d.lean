/- Deploy: Locks: expected: kind 3. -/
import Derived.Test.YtennhjkhjplmoaaDoorDpT3p
namespace Go.Proofs.YtennhjkhjplmoaaDoor
open Go.RowKit
set_option maxRecDepth 100000 in
set_option maxHeartbeats 4000000 in
theorem exp30_any (kd pl jb : Nat) (p : Turn × Turn) (A1 : Option Addr) (c1 : Nat) (A2 : Option Addr) (c2 : Nat) (B1 : Option Addr) (d1 : Nat) (B2 : Option Addr) (d2 : Nat) (j : ByteArray) (w : World) (S0 : Nat → Prop) (hS0 : ∀ x, S0 x → x < w.heap.size) (h : TwoS S0 w p A1 c1 A2 c2 B1 d1 B2 d2) (hl1 : p.1.waiting.length ≤ 100000) (hl2 : p.2.waiting.length ≤ 100000) (_hl3 : p.1.held.length ≤ 100000) (_hl4 : p.2.held.length ≤ 100000) (hkd : (kd : Int).tmod 4 = 3) (hpl : (wrap64 (pl : Int)).tmod 2 = 0) (Q : (Turn × Turn) × Bool) (hQ : Q = expT 3 false j p) :
    Calls Tryd.prog 24 #[.agg #[.string p.1.holder, .slice A1 p.1.waiting.length c1, .slice A2 p.1.held.length c2, .string p.2.holder, .slice B1 p.2.waiting.length d1, .slice B2 p.2.held.length d2], .agg #[.int .u8 (kd : Int), .int .u8 (pl : Int), .int .u8 (jb : Int)], .string j] w fun e w' => ∃ (A1' : Option Addr) (c1' : Nat) (A2' : Option Addr) (c2' : Nat) (B1' : Option Addr) (d1' : Nat) (B2' : Option Addr) (d2' : Nat), e = .returned (.tuple #[.agg #[.string Q.1.1.holder, .slice A1' Q.1.1.waiting.length c1', .slice A2' Q.1.1.held.length c2', .string Q.1.2.holder, .slice B1' Q.1.2.waiting.length d1', .slice B2' Q.1.2.held.length d2'], .bool Q.2]) ∧ Below w.heap.size w w' ∧ TwoS (fun x => x < w'.heap.size ∧ (S0 x ∨ w.heap.size ≤ x)) w' Q.1 A1' c1' A2' c2' B1' d1' B2' d2' := by
  go_enter Tryd.func24, Tryd.ntmps24
  go_upto_region 1 with (fail)
  generalize hx_ : World.alloc (World.alloc (World.alloc w _) _) _ = wo1
  have hO1 : OwnB w wo1 [(w.heap.size + 1 + 1, [.string bE, .slice none 0 0, .slice none 0 0, .string bE, .slice none 0 0, .slice none 0 0]), (w.heap.size + 1, [.int .u8 (kd : Int), .int .u8 (pl : Int), .int .u8 (jb : Int)]), (w.heap.size, [.string p.1.holder, .slice A1 p.1.waiting.length c1, .slice A2 p.1.held.length c2, .string p.2.holder, .slice B1 p.2.waiting.length d1, .slice B2 p.2.held.length d2])] := by rw [← hx_]; exact (((OwnB.refl w).new #[.string p.1.holder, .slice A1 p.1.waiting.length c1, .slice A2 p.1.held.length c2, .string p.2.holder, .slice B1 p.2.waiting.length d1, .slice B2 p.2.held.length d2] _ (g := w.heap.size)).new #[.int .u8 (kd : Int), .int .u8 (pl : Int), .int .u8 (jb : Int)] _ (g := w.heap.size + 1)).new #[.string bE, .slice none 0 0, .slice none 0 0, .string bE, .slice none 0 0, .slice none 0 0] _ (g := w.heap.size + 1 + 1)
  have hbn : Below w.heap.size w wo1 := by rw [← hx_]; exact (((Below.refl _ _).alloc (Nat.le_refl _) _).alloc (by simp) _).alloc (by simp; omega) _
  have zwo1 : w.heap.size + 2 < wo1.heap.size := by rw [← hx_]; simp <;> omega
  clear hx_
  have c0_0 : wo1.cell? ⟨w.heap.size + 1 + 1, 0, none⟩ = some (.string bE) := hO1.c 0 0
  have c0_1 : wo1.cell? ⟨w.heap.size + 1 + 1, 1, none⟩ = some (.slice none 0 0) := hO1.c 0 1
  have c0_2 : wo1.cell? ⟨w.heap.size + 1 + 1, 2, none⟩ = some (.slice none 0 0) := hO1.c 0 2
  have c0_3 : wo1.cell? ⟨w.heap.size + 1 + 1, 3, none⟩ = some (.string bE) := hO1.c 0 3
  have c0_4 : wo1.cell? ⟨w.heap.size + 1 + 1, 4, none⟩ = some (.slice none 0 0) := hO1.c 0 4
  have c0_5 : wo1.cell? ⟨w.heap.size + 1 + 1, 5, none⟩ = some (.slice none 0 0) := hO1.c 0 5
  have cf0 := hO1.fr 0
  have c1_0 : wo1.cell? ⟨w.heap.size + 1, 0, none⟩ = some (.int .u8 (kd : Int)) := hO1.c 1 0
  have c1_1 : wo1.cell? ⟨w.heap.size + 1, 1, none⟩ = some (.int .u8 (pl : Int)) := hO1.c 1 1
  have c1_2 : wo1.cell? ⟨w.heap.size + 1, 2, none⟩ = some (.int .u8 (jb : Int)) := hO1.c 1 2
  have cf1 := hO1.fr 1
  have c2_0 : wo1.cell? ⟨w.heap.size, 0, none⟩ = some (.string p.1.holder) := hO1.c 2 0
  have c2_1 : wo1.cell? ⟨w.heap.size, 1, none⟩ = some (.slice A1 p.1.waiting.length c1) := hO1.c 2 1
  have c2_2 : wo1.cell? ⟨w.heap.size, 2, none⟩ = some (.slice A2 p.1.held.length c2) := hO1.c 2 2
  have c2_3 : wo1.cell? ⟨w.heap.size, 3, none⟩ = some (.string p.2.holder) := hO1.c 2 3
  have c2_4 : wo1.cell? ⟨w.heap.size, 4, none⟩ = some (.slice B1 p.2.waiting.length d1) := hO1.c 2 4
  have c2_5 : wo1.cell? ⟨w.heap.size, 5, none⟩ = some (.slice B2 p.2.held.length d2) := hO1.c 2 5
  have cf2 := hO1.fr 2
  clear hbn
  go_upto_region 3 with (fail)
  generalize hx_ : World.alloc wo1 _ = wo2
  have hO2 : OwnB w wo2 [(wo1.heap.size, [.string p.1.holder, .slice A1 p.1.waiting.length c1, .slice A2 p.1.held.length c2]), (w.heap.size + 1 + 1, [.string bE, .slice none 0 0, .slice none 0 0, .string bE, .slice none 0 0, .slice none 0 0]), (w.heap.size + 1, [.int .u8 (kd : Int), .int .u8 (pl : Int), .int .u8 (jb : Int)]), (w.heap.size, [.string p.1.holder, .slice A1 p.1.waiting.length c1, .slice A2 p.1.held.length c2, .string p.2.holder, .slice B1 p.2.waiting.length d1, .slice B2 p.2.held.length d2])] := by rw [← hx_]; exact hO1.new #[.string p.1.holder, .slice A1 p.1.waiting.length c1, .slice A2 p.1.held.length c2] _ (g := wo1.heap.size)
  have hbn : Below wo1.heap.size wo1 wo2 := by rw [← hx_]; exact (Below.refl _ _).alloc (Nat.le_refl _) _
  have zwo2 : wo1.heap.size + 0 < wo2.heap.size := by rw [← hx_]; simp <;> omega
  clear hx_ c0_0 c0_1 c0_2 c0_3 c0_4 c0_5 cf0 c1_0 c1_1 c1_2 cf1 c2_0 c2_1 c2_2 c2_3 c2_4 c2_5 cf2 hO1
  have c0_0 : wo2.cell? ⟨wo1.heap.size, 0, none⟩ = some (.string p.1.holder) := hO2.c 0 0
  have c0_1 : wo2.cell? ⟨wo1.heap.size, 1, none⟩ = some (.slice A1 p.1.waiting.length c1) := hO2.c 0 1
  have c0_2 : wo2.cell? ⟨wo1.heap.size, 2, none⟩ = some (.slice A2 p.1.held.length c2) := hO2.c 0 2
  have cf0 := hO2.fr 0
  have c1_0 : wo2.cell? ⟨w.heap.size + 1 + 1, 0, none⟩ = some (.string bE) := hO2.c 1 0
  have c1_1 : wo2.cell? ⟨w.heap.size + 1 + 1, 1, none⟩ = some (.slice none 0 0) := hO2.c 1 1
  have c1_2 : wo2.cell? ⟨w.heap.size + 1 + 1, 2, none⟩ = some (.slice none 0 0) := hO2.c 1 2
  have c1_3 : wo2.cell? ⟨w.heap.size + 1 + 1, 3, none⟩ = some (.string bE) := hO2.c 1 3
  have c1_4 : wo2.cell? ⟨w.heap.size + 1 + 1, 4, none⟩ = some (.slice none 0 0) := hO2.c 1 4
  have c1_5 : wo2.cell? ⟨w.heap.size + 1 + 1, 5, none⟩ = some (.slice none 0 0) := hO2.c 1 5
  have cf1 := hO2.fr 1
  have c2_0 : wo2.cell? ⟨w.heap.size + 1, 0, none⟩ = some (.int .u8 (kd : Int)) := hO2.c 2 0
  have c2_1 : wo2.cell? ⟨w.heap.size + 1, 1, none⟩ = some (.int .u8 (pl : Int)) := hO2.c 2 1
  have c2_2 : wo2.cell? ⟨w.heap.size + 1, 2, none⟩ = some (.int .u8 (jb : Int)) := hO2.c 2 2
  have cf2 := hO2.fr 2
  have c3_0 : wo2.cell? ⟨w.heap.size, 0, none⟩ = some (.string p.1.holder) := hO2.c 3 0
  have c3_1 : wo2.cell? ⟨w.heap.size, 1, none⟩ = some (.slice A1 p.1.waiting.length c1) := hO2.c 3 1
  have c3_2 : wo2.cell? ⟨w.heap.size, 2, none⟩ = some (.slice A2 p.1.held.length c2) := hO2.c 3 2
  have c3_3 : wo2.cell? ⟨w.heap.size, 3, none⟩ = some (.string p.2.holder) := hO2.c 3 3
  have c3_4 : wo2.cell? ⟨w.heap.size, 4, none⟩ = some (.slice B1 p.2.waiting.length d1) := hO2.c 3 4
  have c3_5 : wo2.cell? ⟨w.heap.size, 5, none⟩ = some (.slice B2 p.2.held.length d2) := hO2.c 3 5
  have cf3 := hO2.fr 3
  clear hbn
  have hbz := hO2.below
  have k1 : SL S0 w.heap.size wo2.heap.size wo2 A1 p.1.waiting.length c1 p.1.waiting := SL.old h.w1 hS0 hbz
  have k2 : SL S0 w.heap.size wo2.heap.size wo2 A2 p.1.held.length c2 p.1.held := SL.old h.h1 hS0 hbz
  have k3 : SL S0 w.heap.size wo2.heap.size wo2 B1 p.2.waiting.length d1 p.2.waiting := SL.old h.w2 hS0 hbz
  have k4 : SL S0 w.heap.size wo2.heap.size wo2 B2 p.2.held.length d2 p.2.held := SL.old h.h2 hS0 hbz
  have hsz : wo2.heap.size ≤ wo2.heap.size := Nat.le_refl _
  clear h hbz
  go_upto_region 23 with (fail)
  repeat' ((fail_if_success at_builtin); (first | go_skip | go_guarded | go_step))
  go_loopw [10] (fun u10 wr => ∃ (i : Nat) (t1 t2 : Turn) (E1 : Option Addr) (e1 : Nat) (E2 : Option Addr) (e2 : Nat) (F1 : Option Addr) (f1 : Nat) (F2 : Option Addr) (f2 : Nat), u10 = .int .i64 (i : Int) ∧ (i = 0 ∧ t1 = p.1 ∧ t2 = p.2 ∨ i = 1 ∧ t1 = leaveT j p.1 ∧ t2 = p.2 ∨ i = 2 ∧ t1 = leaveT j p.1 ∧ t2 = leaveT j p.2) ∧ OwnB w wr [(wo1.heap.size, [.string p.1.holder, .slice A1 p.1.waiting.length c1, .slice A2 p.1.held.length c2]), (w.heap.size + 1 + 1, [.string bE, .slice none 0 0, .slice none 0 0, .string bE, .slice none 0 0, .slice none 0 0]), (w.heap.size + 1, [.int .u8 (kd : Int), .int .u8 (pl : Int), .int .u8 (jb : Int)]), (w.heap.size, [.string t1.holder, .slice E1 t1.waiting.length e1, .slice E2 t1.held.length e2, .string t2.holder, .slice F1 t2.waiting.length f1, .slice F2 t2.held.length f2])] ∧ (SL S0 w.heap.size wo2.heap.size wr E1 t1.waiting.length e1 t1.waiting ∧ SL S0 w.heap.size wo2.heap.size wr E2 t1.held.length e2 t1.held ∧ SL S0 w.heap.size wo2.heap.size wr F1 t2.waiting.length f1 t2.waiting ∧ SL S0 w.heap.size wo2.heap.size wr F2 t2.held.length f2 t2.held) ∧ wo2.heap.size ≤ wr.heap.size) (fun u10 _ => 2 - (intOf u10).toNat)
  case atStart => exact ⟨0, p.1, p.2, A1, c1, A2, c2, B1, d1, B2, d2, rfl, Or.inl ⟨rfl, rfl, rfl⟩, hO2, ⟨k1, k2, k3, k4⟩, hsz⟩
  case round =>
    clear k1 k2 k3 k4 hsz
    obtain ⟨i, t1, t2, E1, e1, E2, e2, F1, f1, F2, f2, rfl, hcase, hOr, ⟨k1, k2, k3, k4⟩, hsz⟩ := hrel
    have hO3 : OwnB w wr [(wo1.heap.size, [.string p.1.holder, .slice A1 p.1.waiting.length c1, .slice A2 p.1.held.length c2]), (w.heap.size + 1 + 1, [.string bE, .slice none 0 0, .slice none 0 0, .string bE, .slice none 0 0, .slice none 0 0]), (w.heap.size + 1, [.int .u8 (kd : Int), .int .u8 (pl : Int), .int .u8 (jb : Int)]), (w.heap.size, [.string t1.holder, .slice E1 t1.waiting.length e1, .slice E2 t1.held.length e2, .string t2.holder, .slice F1 t2.waiting.length f1, .slice F2 t2.held.length f2])] := hOr
    clear c0_0 c0_1 c0_2 cf0 c1_0 c1_1 c1_2 c1_3 c1_4 c1_5 cf1 c2_0 c2_1 c2_2 cf2 c3_0 c3_1 c3_2 c3_3 c3_4 c3_5 cf3 hO2
    have c0_0 : wr.cell? ⟨wo1.heap.size, 0, none⟩ = some (.string p.1.holder) := hO3.c 0 0
    have c0_1 : wr.cell? ⟨wo1.heap.size, 1, none⟩ = some (.slice A1 p.1.waiting.length c1) := hO3.c 0 1
    have c0_2 : wr.cell? ⟨wo1.heap.size, 2, none⟩ = some (.slice A2 p.1.held.length c2) := hO3.c 0 2
    have cf0 := hO3.fr 0
    have c1_0 : wr.cell? ⟨w.heap.size + 1 + 1, 0, none⟩ = some (.string bE) := hO3.c 1 0
    have c1_1 : wr.cell? ⟨w.heap.size + 1 + 1, 1, none⟩ = some (.slice none 0 0) := hO3.c 1 1
    have c1_2 : wr.cell? ⟨w.heap.size + 1 + 1, 2, none⟩ = some (.slice none 0 0) := hO3.c 1 2
    have c1_3 : wr.cell? ⟨w.heap.size + 1 + 1, 3, none⟩ = some (.string bE) := hO3.c 1 3
    have c1_4 : wr.cell? ⟨w.heap.size + 1 + 1, 4, none⟩ = some (.slice none 0 0) := hO3.c 1 4
    have c1_5 : wr.cell? ⟨w.heap.size + 1 + 1, 5, none⟩ = some (.slice none 0 0) := hO3.c 1 5
    have cf1 := hO3.fr 1
    have c2_0 : wr.cell? ⟨w.heap.size + 1, 0, none⟩ = some (.int .u8 (kd : Int)) := hO3.c 2 0
    have c2_1 : wr.cell? ⟨w.heap.size + 1, 1, none⟩ = some (.int .u8 (pl : Int)) := hO3.c 2 1
    have c2_2 : wr.cell? ⟨w.heap.size + 1, 2, none⟩ = some (.int .u8 (jb : Int)) := hO3.c 2 2
    have cf2 := hO3.fr 2
    have c3_0 : wr.cell? ⟨w.heap.size, 0, none⟩ = some (.string t1.holder) := hO3.c 3 0
    have c3_1 : wr.cell? ⟨w.heap.size, 1, none⟩ = some (.slice E1 t1.waiting.length e1) := hO3.c 3 1
    have c3_2 : wr.cell? ⟨w.heap.size, 2, none⟩ = some (.slice E2 t1.held.length e2) := hO3.c 3 2
    have c3_3 : wr.cell? ⟨w.heap.size, 3, none⟩ = some (.string t2.holder) := hO3.c 3 3
    have c3_4 : wr.cell? ⟨w.heap.size, 4, none⟩ = some (.slice F1 t2.waiting.length f1) := hO3.c 3 4
    have c3_5 : wr.cell? ⟨w.heap.size, 5, none⟩ = some (.slice F2 t2.held.length f2) := hO3.c 3 5
    have cf3 := hO3.fr 3
    clear hOr
    rcases hcase with ⟨rfl, h1, h2⟩ | ⟨rfl, h1, h2⟩ | ⟨rfl, h1, h2⟩
    · skip
      have hwl : t1.waiting.length ≤ 100000 := by rw [h1]; assumption
      cases hv : eqB t1.holder j with
      | true =>
        have q1 : (t1.holder.toList == j.toList) = true := hv
        have he : leaveT j t1 = ⟨bE, outB t1.waiting j, t1.held⟩ := by unfold leaveT; rw [hv] <;> rfl
        clear hv
        replace he := Lib.hid he
        replace h1 := Lib.hid h1
        replace h2 := Lib.hid h2
        go_upto_region 28 with (fail)
        generalize hx_ : World.setCell _ _ _ = wo4
        have hO4 : OwnB w wo4 [(wo1.heap.size, [.string p.1.holder, .slice A1 p.1.waiting.length c1, .slice A2 p.1.held.length c2]), (w.heap.size + 1 + 1, [.string bE, .slice none 0 0, .slice none 0 0, .string bE, .slice none 0 0, .slice none 0 0]), (w.heap.size + 1, [.int .u8 (kd : Int), .int .u8 (pl : Int), .int .u8 (jb : Int)]), (w.heap.size, [.string bE, .slice E1 t1.waiting.length e1, .slice E2 t1.held.length e2, .string t2.holder, .slice F1 t2.waiting.length f1, .slice F2 t2.held.length f2])] := by rw [← hx_]; exact hO3.store 3 rfl 0 _
        have zwo4 : wr.heap.size ≤ wo4.heap.size := by rw [← hx_]; simp [World.setCell]
        replace k1 : SL S0 w.heap.size wo2.heap.size wo4 E1 t1.waiting.length e1 t1.waiting := by rw [← hx_]; exact k1.set (by omega) (by omega)
        replace k2 : SL S0 w.heap.size wo2.heap.size wo4 E2 t1.held.length e2 t1.held := by rw [← hx_]; exact k2.set (by omega) (by omega)
        replace k3 : SL S0 w.heap.size wo2.heap.size wo4 F1 t2.waiting.length f1 t2.waiting := by rw [← hx_]; exact k3.set (by omega) (by omega)
        replace k4 : SL S0 w.heap.size wo2.heap.size wo4 F2 t2.held.length f2 t2.held := by rw [← hx_]; exact k4.set (by omega) (by omega)
        replace hsz : wo2.heap.size ≤ wo4.heap.size := by rw [← hx_]; exact szset hsz
        clear hx_ c0_0 c0_1 c0_2 cf0 c1_0 c1_1 c1_2 c1_3 c1_4 c1_5 cf1 c2_0 c2_1 c2_2 cf2 c3_0 c3_1 c3_2 c3_3 c3_4 c3_5 cf3 hO3
        have c0_0 : wo4.cell? ⟨wo1.heap.size, 0, none⟩ = some (.string p.1.holder) := hO4.c 0 0
        have c0_1 : wo4.cell? ⟨wo1.heap.size, 1, none⟩ = some (.slice A1 p.1.waiting.length c1) := hO4.c 0 1
        have c0_2 : wo4.cell? ⟨wo1.heap.size, 2, none⟩ = some (.slice A2 p.1.held.length c2) := hO4.c 0 2
        have cf0 := hO4.fr 0
        have c1_0 : wo4.cell? ⟨w.heap.size + 1 + 1, 0, none⟩ = some (.string bE) := hO4.c 1 0
        have c1_1 : wo4.cell? ⟨w.heap.size + 1 + 1, 1, none⟩ = some (.slice none 0 0) := hO4.c 1 1
        have c1_2 : wo4.cell? ⟨w.heap.size + 1 + 1, 2, none⟩ = some (.slice none 0 0) := hO4.c 1 2
        have c1_3 : wo4.cell? ⟨w.heap.size + 1 + 1, 3, none⟩ = some (.string bE) := hO4.c 1 3
        have c1_4 : wo4.cell? ⟨w.heap.size + 1 + 1, 4, none⟩ = some (.slice none 0 0) := hO4.c 1 4
        have c1_5 : wo4.cell? ⟨w.heap.size + 1 + 1, 5, none⟩ = some (.slice none 0 0) := hO4.c 1 5
        have cf1 := hO4.fr 1
        have c2_0 : wo4.cell? ⟨w.heap.size + 1, 0, none⟩ = some (.int .u8 (kd : Int)) := hO4.c 2 0
        have c2_1 : wo4.cell? ⟨w.heap.size + 1, 1, none⟩ = some (.int .u8 (pl : Int)) := hO4.c 2 1
        have c2_2 : wo4.cell? ⟨w.heap.size + 1, 2, none⟩ = some (.int .u8 (jb : Int)) := hO4.c 2 2
        have cf2 := hO4.fr 2
        have c3_0 : wo4.cell? ⟨w.heap.size, 0, none⟩ = some (.string bE) := hO4.c 3 0
        have c3_1 : wo4.cell? ⟨w.heap.size, 1, none⟩ = some (.slice E1 t1.waiting.length e1) := hO4.c 3 1
        have c3_2 : wo4.cell? ⟨w.heap.size, 2, none⟩ = some (.slice E2 t1.held.length e2) := hO4.c 3 2
        have c3_3 : wo4.cell? ⟨w.heap.size, 3, none⟩ = some (.string t2.holder) := hO4.c 3 3
        have c3_4 : wo4.cell? ⟨w.heap.size, 4, none⟩ = some (.slice F1 t2.waiting.length f1) := hO4.c 3 4
        have c3_5 : wo4.cell? ⟨w.heap.size, 5, none⟩ = some (.slice F2 t2.held.length f2) := hO4.c 3 5
        have cf3 := hO4.fr 3
        have C := out_any t1.waiting j E1 t1.waiting.length e1 wo4 k1.fin (by omega)
        replace C := Lib.hid C
        repeat' ((fail_if_success at_builtin); (first | go_skip | go_guarded | go_step))
        refine C.out.mono ?_
        clear C
        rintro e w5 ⟨A5, c5, rfl, hb5, hs5⟩
        dsimp only
        have n5 : SL S0 w.heap.size wo2.heap.size w5 A5 (outB t1.waiting j).length c5 (outB t1.waiting j) := SL.new hs5 hsz
        clear hs5
        have zw5 := hb5.size
        have hO5 : OwnB w w5 [(wo1.heap.size, [.string p.1.holder, .slice A1 p.1.waiting.length c1, .slice A2 p.1.held.length c2]), (w.heap.size + 1 + 1, [.string bE, .slice none 0 0, .slice none 0 0, .string bE, .slice none 0 0, .slice none 0 0]), (w.heap.size + 1, [.int .u8 (kd : Int), .int .u8 (pl : Int), .int .u8 (jb : Int)]), (w.heap.size, [.string bE, .slice E1 t1.waiting.length e1, .slice E2 t1.held.length e2, .string t2.holder, .slice F1 t2.waiting.length f1, .slice F2 t2.held.length f2])] := hO4.kept hb5
        clear c0_0 c0_1 c0_2 cf0 c1_0 c1_1 c1_2 c1_3 c1_4 c1_5 cf1 c2_0 c2_1 c2_2 cf2 c3_0 c3_1 c3_2 c3_3 c3_4 c3_5 cf3 hO4
        have c0_0 : w5.cell? ⟨wo1.heap.size, 0, none⟩ = some (.string p.1.holder) := hO5.c 0 0
        have c0_1 : w5.cell? ⟨wo1.heap.size, 1, none⟩ = some (.slice A1 p.1.waiting.length c1) := hO5.c 0 1
        have c0_2 : w5.cell? ⟨wo1.heap.size, 2, none⟩ = some (.slice A2 p.1.held.length c2) := hO5.c 0 2
        have cf0 := hO5.fr 0
        have c1_0 : w5.cell? ⟨w.heap.size + 1 + 1, 0, none⟩ = some (.string bE) := hO5.c 1 0
        have c1_1 : w5.cell? ⟨w.heap.size + 1 + 1, 1, none⟩ = some (.slice none 0 0) := hO5.c 1 1
        have c1_2 : w5.cell? ⟨w.heap.size + 1 + 1, 2, none⟩ = some (.slice none 0 0) := hO5.c 1 2
        have c1_3 : w5.cell? ⟨w.heap.size + 1 + 1, 3, none⟩ = some (.string bE) := hO5.c 1 3
        have c1_4 : w5.cell? ⟨w.heap.size + 1 + 1, 4, none⟩ = some (.slice none 0 0) := hO5.c 1 4
        have c1_5 : w5.cell? ⟨w.heap.size + 1 + 1, 5, none⟩ = some (.slice none 0 0) := hO5.c 1 5
        have cf1 := hO5.fr 1
        have c2_0 : w5.cell? ⟨w.heap.size + 1, 0, none⟩ = some (.int .u8 (kd : Int)) := hO5.c 2 0
        have c2_1 : w5.cell? ⟨w.heap.size + 1, 1, none⟩ = some (.int .u8 (pl : Int)) := hO5.c 2 1
        have c2_2 : w5.cell? ⟨w.heap.size + 1, 2, none⟩ = some (.int .u8 (jb : Int)) := hO5.c 2 2
        have cf2 := hO5.fr 2
        have c3_0 : w5.cell? ⟨w.heap.size, 0, none⟩ = some (.string bE) := hO5.c 3 0
        have c3_1 : w5.cell? ⟨w.heap.size, 1, none⟩ = some (.slice E1 t1.waiting.length e1) := hO5.c 3 1
        have c3_2 : w5.cell? ⟨w.heap.size, 2, none⟩ = some (.slice E2 t1.held.length e2) := hO5.c 3 2
        have c3_3 : w5.cell? ⟨w.heap.size, 3, none⟩ = some (.string t2.holder) := hO5.c 3 3
        have c3_4 : w5.cell? ⟨w.heap.size, 4, none⟩ = some (.slice F1 t2.waiting.length f1) := hO5.c 3 4
        have c3_5 : w5.cell? ⟨w.heap.size, 5, none⟩ = some (.slice F2 t2.held.length f2) := hO5.c 3 5
        have cf3 := hO5.fr 3
        replace k1 : SL S0 w.heap.size wo2.heap.size w5 E1 t1.waiting.length e1 t1.waiting := k1.up hb5
        replace k2 : SL S0 w.heap.size wo2.heap.size w5 E2 t1.held.length e2 t1.held := k2.up hb5
        replace k3 : SL S0 w.heap.size wo2.heap.size w5 F1 t2.waiting.length f1 t2.waiting := k3.up hb5
        replace k4 : SL S0 w.heap.size wo2.heap.size w5 F2 t2.held.length f2 t2.held := k4.up hb5
        replace hsz : wo2.heap.size ≤ w5.heap.size := Nat.le_trans hsz hb5.size
        generalize hlq : (outB t1.waiting j).length = lq at *
        repeat' ((fail_if_success at_builtin); (first | go_skip | go_guarded | go_step))
        generalize hx_ : World.setCell _ _ _ = wo6
        have hO6 : OwnB w wo6 [(wo1.heap.size, [.string p.1.holder, .slice A1 p.1.waiting.length c1, .slice A2 p.1.held.length c2]), (w.heap.size + 1 + 1, [.string bE, .slice none 0 0, .slice none 0 0, .string bE, .slice none 0 0, .slice none 0 0]), (w.heap.size + 1, [.int .u8 (kd : Int), .int .u8 (pl : Int), .int .u8 (jb : Int)]), (w.heap.size, [.string bE, .slice A5 lq c5, .slice E2 t1.held.length e2, .string t2.holder, .slice F1 t2.waiting.length f1, .slice F2 t2.held.length f2])] := by rw [← hx_]; exact hO5.store 3 rfl 1 _
        have zwo6 : w5.heap.size ≤ wo6.heap.size := by rw [← hx_]; simp [World.setCell]
        replace k1 : SL S0 w.heap.size wo2.heap.size wo6 E1 t1.waiting.length e1 t1.waiting := by rw [← hx_]; exact k1.set (by omega) (by omega)
        replace k2 : SL S0 w.heap.size wo2.heap.size wo6 E2 t1.held.length e2 t1.held := by rw [← hx_]; exact k2.set (by omega) (by omega)
        replace k3 : SL S0 w.heap.size wo2.heap.size wo6 F1 t2.waiting.length f1 t2.waiting := by rw [← hx_]; exact k3.set (by omega) (by omega)
        replace k4 : SL S0 w.heap.size wo2.heap.size wo6 F2 t2.held.length f2 t2.held := by rw [← hx_]; exact k4.set (by omega) (by omega)
        replace hsz : wo2.heap.size ≤ wo6.heap.size := by rw [← hx_]; exact szset hsz
        replace n5 : SL S0 w.heap.size wo2.heap.size wo6 A5 lq c5 (outB t1.waiting j) := by rw [← hx_]; exact n5.set (by omega) (by omega)
        clear hx_ c0_0 c0_1 c0_2 cf0 c1_0 c1_1 c1_2 c1_3 c1_4 c1_5 cf1 c2_0 c2_1 c2_2 cf2 c3_0 c3_1 c3_2 c3_3 c3_4 c3_5 cf3 hO5
        have c0_0 : wo6.cell? ⟨wo1.heap.size, 0, none⟩ = some (.string p.1.holder) := hO6.c 0 0
        have c0_1 : wo6.cell? ⟨wo1.heap.size, 1, none⟩ = some (.slice A1 p.1.waiting.length c1) := hO6.c 0 1
        have c0_2 : wo6.cell? ⟨wo1.heap.size, 2, none⟩ = some (.slice A2 p.1.held.length c2) := hO6.c 0 2
        have cf0 := hO6.fr 0
        have c1_0 : wo6.cell? ⟨w.heap.size + 1 + 1, 0, none⟩ = some (.string bE) := hO6.c 1 0
        have c1_1 : wo6.cell? ⟨w.heap.size + 1 + 1, 1, none⟩ = some (.slice none 0 0) := hO6.c 1 1
        have c1_2 : wo6.cell? ⟨w.heap.size + 1 + 1, 2, none⟩ = some (.slice none 0 0) := hO6.c 1 2
        have c1_3 : wo6.cell? ⟨w.heap.size + 1 + 1, 3, none⟩ = some (.string bE) := hO6.c 1 3
        have c1_4 : wo6.cell? ⟨w.heap.size + 1 + 1, 4, none⟩ = some (.slice none 0 0) := hO6.c 1 4
        have c1_5 : wo6.cell? ⟨w.heap.size + 1 + 1, 5, none⟩ = some (.slice none 0 0) := hO6.c 1 5
        have cf1 := hO6.fr 1
        have c2_0 : wo6.cell? ⟨w.heap.size + 1, 0, none⟩ = some (.int .u8 (kd : Int)) := hO6.c 2 0
        have c2_1 : wo6.cell? ⟨w.heap.size + 1, 1, none⟩ = some (.int .u8 (pl : Int)) := hO6.c 2 1
        have c2_2 : wo6.cell? ⟨w.heap.size + 1, 2, none⟩ = some (.int .u8 (jb : Int)) := hO6.c 2 2
        have cf2 := hO6.fr 2
        have c3_0 : wo6.cell? ⟨w.heap.size, 0, none⟩ = some (.string bE) := hO6.c 3 0
        have c3_1 : wo6.cell? ⟨w.heap.size, 1, none⟩ = some (.slice A5 lq c5) := hO6.c 3 1
        have c3_2 : wo6.cell? ⟨w.heap.size, 2, none⟩ = some (.slice E2 t1.held.length e2) := hO6.c 3 2
        have c3_3 : wo6.cell? ⟨w.heap.size, 3, none⟩ = some (.string t2.holder) := hO6.c 3 3
        have c3_4 : wo6.cell? ⟨w.heap.size, 4, none⟩ = some (.slice F1 t2.waiting.length f1) := hO6.c 3 4
        have c3_5 : wo6.cell? ⟨w.heap.size, 5, none⟩ = some (.slice F2 t2.held.length f2) := hO6.c 3 5
        have cf3 := hO6.fr 3
        go_roundw
        case rel =>
          subst hlq
          refine ⟨1, leaveT j t1, t2, A5, c5, E2, e2, F1, f1, F2, f2, by first | rfl | go_num, Or.inr (Or.inl ⟨rfl, by rw [h1.out], h2.out⟩), ?_, ?_, hsz⟩
          · rw [he.out]; exact hO6
          · rw [he.out]; exact ⟨n5, k2, k3, k4⟩
        case measure => (try go_num); (try simp [intOf]); (try omega)
      | false =>
        have q1 : (t1.holder.toList == j.toList) = false := hv
        have he : leaveT j t1 = ⟨t1.holder, outB t1.waiting j, t1.held⟩ := by unfold leaveT; rw [hv] <;> rfl
        clear hv
        replace he := Lib.hid he
        replace h1 := Lib.hid h1
        replace h2 := Lib.hid h2
        have C := out_any t1.waiting j E1 t1.waiting.length e1 wr k1.fin (by omega)
        replace C := Lib.hid C
        repeat' ((fail_if_success at_builtin); (first | go_skip | go_guarded | go_step))
        refine C.out.mono ?_
        clear C
        rintro e w5 ⟨A5, c5, rfl, hb5, hs5⟩
        dsimp only
        have n5 : SL S0 w.heap.size wo2.heap.size w5 A5 (outB t1.waiting j).length c5 (outB t1.waiting j) := SL.new hs5 hsz
        clear hs5
        have zw5 := hb5.size
        have hO4 : OwnB w w5 [(wo1.heap.size, [.string p.1.holder, .slice A1 p.1.waiting.length c1, .slice A2 p.1.held.length c2]), (w.heap.size + 1 + 1, [.string bE, .slice none 0 0, .slice none 0 0, .string bE, .slice none 0 0, .slice none 0 0]), (w.heap.size + 1, [.int .u8 (kd : Int), .int .u8 (pl : Int), .int .u8 (jb : Int)]), (w.heap.size, [.string t1.holder, .slice E1 t1.waiting.length e1, .slice E2 t1.held.length e2, .string t2.holder, .slice F1 t2.waiting.length f1, .slice F2 t2.held.length f2])] := hO3.kept hb5
        clear c0_0 c0_1 c0_2 cf0 c1_0 c1_1 c1_2 c1_3 c1_4 c1_5 cf1 c2_0 c2_1 c2_2 cf2 c3_0 c3_1 c3_2 c3_3 c3_4 c3_5 cf3 hO3
        have c0_0 : w5.cell? ⟨wo1.heap.size, 0, none⟩ = some (.string p.1.holder) := hO4.c 0 0
        have c0_1 : w5.cell? ⟨wo1.heap.size, 1, none⟩ = some (.slice A1 p.1.waiting.length c1) := hO4.c 0 1
        have c0_2 : w5.cell? ⟨wo1.heap.size, 2, none⟩ = some (.slice A2 p.1.held.length c2) := hO4.c 0 2
        have cf0 := hO4.fr 0
        have c1_0 : w5.cell? ⟨w.heap.size + 1 + 1, 0, none⟩ = some (.string bE) := hO4.c 1 0
        have c1_1 : w5.cell? ⟨w.heap.size + 1 + 1, 1, none⟩ = some (.slice none 0 0) := hO4.c 1 1
        have c1_2 : w5.cell? ⟨w.heap.size + 1 + 1, 2, none⟩ = some (.slice none 0 0) := hO4.c 1 2
        have c1_3 : w5.cell? ⟨w.heap.size + 1 + 1, 3, none⟩ = some (.string bE) := hO4.c 1 3
        have c1_4 : w5.cell? ⟨w.heap.size + 1 + 1, 4, none⟩ = some (.slice none 0 0) := hO4.c 1 4
        have c1_5 : w5.cell? ⟨w.heap.size + 1 + 1, 5, none⟩ = some (.slice none 0 0) := hO4.c 1 5
        have cf1 := hO4.fr 1
        have c2_0 : w5.cell? ⟨w.heap.size + 1, 0, none⟩ = some (.int .u8 (kd : Int)) := hO4.c 2 0
        have c2_1 : w5.cell? ⟨w.heap.size + 1, 1, none⟩ = some (.int .u8 (pl : Int)) := hO4.c 2 1
        have c2_2 : w5.cell? ⟨w.heap.size + 1, 2, none⟩ = some (.int .u8 (jb : Int)) := hO4.c 2 2
        have cf2 := hO4.fr 2
        have c3_0 : w5.cell? ⟨w.heap.size, 0, none⟩ = some (.string t1.holder) := hO4.c 3 0
        have c3_1 : w5.cell? ⟨w.heap.size, 1, none⟩ = some (.slice E1 t1.waiting.length e1) := hO4.c 3 1
        have c3_2 : w5.cell? ⟨w.heap.size, 2, none⟩ = some (.slice E2 t1.held.length e2) := hO4.c 3 2
        have c3_3 : w5.cell? ⟨w.heap.size, 3, none⟩ = some (.string t2.holder) := hO4.c 3 3
        have c3_4 : w5.cell? ⟨w.heap.size, 4, none⟩ = some (.slice F1 t2.waiting.length f1) := hO4.c 3 4
        have c3_5 : w5.cell? ⟨w.heap.size, 5, none⟩ = some (.slice F2 t2.held.length f2) := hO4.c 3 5
        have cf3 := hO4.fr 3
        replace k1 : SL S0 w.heap.size wo2.heap.size w5 E1 t1.waiting.length e1 t1.waiting := k1.up hb5
        replace k2 : SL S0 w.heap.size wo2.heap.size w5 E2 t1.held.length e2 t1.held := k2.up hb5
        replace k3 : SL S0 w.heap.size wo2.heap.size w5 F1 t2.waiting.length f1 t2.waiting := k3.up hb5
        replace k4 : SL S0 w.heap.size wo2.heap.size w5 F2 t2.held.length f2 t2.held := k4.up hb5
        replace hsz : wo2.heap.size ≤ w5.heap.size := Nat.le_trans hsz hb5.size
        generalize hlq : (outB t1.waiting j).length = lq at *
        repeat' ((fail_if_success at_builtin); (first | go_skip | go_guarded | go_step))
        generalize hx_ : World.setCell _ _ _ = wo5
        have hO5 : OwnB w wo5 [(wo1.heap.size, [.string p.1.holder, .slice A1 p.1.waiting.length c1, .slice A2 p.1.held.length c2]), (w.heap.size + 1 + 1, [.string bE, .slice none 0 0, .slice none 0 0, .string bE, .slice none 0 0, .slice none 0 0]), (w.heap.size + 1, [.int .u8 (kd : Int), .int .u8 (pl : Int), .int .u8 (jb : Int)]), (w.heap.size, [.string t1.holder, .slice A5 lq c5, .slice E2 t1.held.length e2, .string t2.holder, .slice F1 t2.waiting.length f1, .slice F2 t2.held.length f2])] := by rw [← hx_]; exact hO4.store 3 rfl 1 _
        have zwo5 : w5.heap.size ≤ wo5.heap.size := by rw [← hx_]; simp [World.setCell]
        replace k1 : SL S0 w.heap.size wo2.heap.size wo5 E1 t1.waiting.length e1 t1.waiting := by rw [← hx_]; exact k1.set (by omega) (by omega)
        replace k2 : SL S0 w.heap.size wo2.heap.size wo5 E2 t1.held.length e2 t1.held := by rw [← hx_]; exact k2.set (by omega) (by omega)
        replace k3 : SL S0 w.heap.size wo2.heap.size wo5 F1 t2.waiting.length f1 t2.waiting := by rw [← hx_]; exact k3.set (by omega) (by omega)
        replace k4 : SL S0 w.heap.size wo2.heap.size wo5 F2 t2.held.length f2 t2.held := by rw [← hx_]; exact k4.set (by omega) (by omega)
        replace hsz : wo2.heap.size ≤ wo5.heap.size := by rw [← hx_]; exact szset hsz
        replace n5 : SL S0 w.heap.size wo2.heap.size wo5 A5 lq c5 (outB t1.waiting j) := by rw [← hx_]; exact n5.set (by omega) (by omega)
        clear hx_ c0_0 c0_1 c0_2 cf0 c1_0 c1_1 c1_2 c1_3 c1_4 c1_5 cf1 c2_0 c2_1 c2_2 cf2 c3_0 c3_1 c3_2 c3_3 c3_4 c3_5 cf3 hO4
        have c0_0 : wo5.cell? ⟨wo1.heap.size, 0, none⟩ = some (.string p.1.holder) := hO5.c 0 0
        have c0_1 : wo5.cell? ⟨wo1.heap.size, 1, none⟩ = some (.slice A1 p.1.waiting.length c1) := hO5.c 0 1
        have c0_2 : wo5.cell? ⟨wo1.heap.size, 2, none⟩ = some (.slice A2 p.1.held.length c2) := hO5.c 0 2
        have cf0 := hO5.fr 0
        have c1_0 : wo5.cell? ⟨w.heap.size + 1 + 1, 0, none⟩ = some (.string bE) := hO5.c 1 0
        have c1_1 : wo5.cell? ⟨w.heap.size + 1 + 1, 1, none⟩ = some (.slice none 0 0) := hO5.c 1 1
        have c1_2 : wo5.cell? ⟨w.heap.size + 1 + 1, 2, none⟩ = some (.slice none 0 0) := hO5.c 1 2
        have c1_3 : wo5.cell? ⟨w.heap.size + 1 + 1, 3, none⟩ = some (.string bE) := hO5.c 1 3
        have c1_4 : wo5.cell? ⟨w.heap.size + 1 + 1, 4, none⟩ = some (.slice none 0 0) := hO5.c 1 4
        have c1_5 : wo5.cell? ⟨w.heap.size + 1 + 1, 5, none⟩ = some (.slice none 0 0) := hO5.c 1 5
        have cf1 := hO5.fr 1
        have c2_0 : wo5.cell? ⟨w.heap.size + 1, 0, none⟩ = some (.int .u8 (kd : Int)) := hO5.c 2 0
        have c2_1 : wo5.cell? ⟨w.heap.size + 1, 1, none⟩ = some (.int .u8 (pl : Int)) := hO5.c 2 1
        have c2_2 : wo5.cell? ⟨w.heap.size + 1, 2, none⟩ = some (.int .u8 (jb : Int)) := hO5.c 2 2
        have cf2 := hO5.fr 2
        have c3_0 : wo5.cell? ⟨w.heap.size, 0, none⟩ = some (.string t1.holder) := hO5.c 3 0
        have c3_1 : wo5.cell? ⟨w.heap.size, 1, none⟩ = some (.slice A5 lq c5) := hO5.c 3 1
        have c3_2 : wo5.cell? ⟨w.heap.size, 2, none⟩ = some (.slice E2 t1.held.length e2) := hO5.c 3 2
        have c3_3 : wo5.cell? ⟨w.heap.size, 3, none⟩ = some (.string t2.holder) := hO5.c 3 3
        have c3_4 : wo5.cell? ⟨w.heap.size, 4, none⟩ = some (.slice F1 t2.waiting.length f1) := hO5.c 3 4
        have c3_5 : wo5.cell? ⟨w.heap.size, 5, none⟩ = some (.slice F2 t2.held.length f2) := hO5.c 3 5
        have cf3 := hO5.fr 3
        go_roundw
        case rel =>
          subst hlq
          refine ⟨1, leaveT j t1, t2, A5, c5, E2, e2, F1, f1, F2, f2, by first | rfl | go_num, Or.inr (Or.inl ⟨rfl, by rw [h1.out], h2.out⟩), ?_, ?_, hsz⟩
          · rw [he.out]; exact hO5
          · rw [he.out]; exact ⟨n5, k2, k3, k4⟩
        case measure => (try go_num); (try simp [intOf]); (try omega)
    · skip
      have hwl : t2.waiting.length ≤ 100000 := by rw [h2]; assumption
      cases hv : eqB t2.holder j with
      | true =>
        have q1 : (t2.holder.toList == j.toList) = true := hv
        have he : leaveT j t2 = ⟨bE, outB t2.waiting j, t2.held⟩ := by unfold leaveT; rw [hv] <;> rfl
        clear hv
        replace he := Lib.hid he
        replace h1 := Lib.hid h1
        replace h2 := Lib.hid h2
        go_upto_region 28 with (fail)
        generalize hx_ : World.setCell _ _ _ = wo4
        have hO4 : OwnB w wo4 [(wo1.heap.size, [.string p.1.holder, .slice A1 p.1.waiting.length c1, .slice A2 p.1.held.length c2]), (w.heap.size + 1 + 1, [.string bE, .slice none 0 0, .slice none 0 0, .string bE, .slice none 0 0, .slice none 0 0]), (w.heap.size + 1, [.int .u8 (kd : Int), .int .u8 (pl : Int), .int .u8 (jb : Int)]), (w.heap.size, [.string t1.holder, .slice E1 t1.waiting.length e1, .slice E2 t1.held.length e2, .string bE, .slice F1 t2.waiting.length f1, .slice F2 t2.held.length f2])] := by rw [← hx_]; exact hO3.store 3 rfl 3 _
        have zwo4 : wr.heap.size ≤ wo4.heap.size := by rw [← hx_]; simp [World.setCell]
        replace k1 : SL S0 w.heap.size wo2.heap.size wo4 E1 t1.waiting.length e1 t1.waiting := by rw [← hx_]; exact k1.set (by omega) (by omega)
        replace k2 : SL S0 w.heap.size wo2.heap.size wo4 E2 t1.held.length e2 t1.held := by rw [← hx_]; exact k2.set (by omega) (by omega)
        replace k3 : SL S0 w.heap.size wo2.heap.size wo4 F1 t2.waiting.length f1 t2.waiting := by rw [← hx_]; exact k3.set (by omega) (by omega)
        replace k4 : SL S0 w.heap.size wo2.heap.size wo4 F2 t2.held.length f2 t2.held := by rw [← hx_]; exact k4.set (by omega) (by omega)
        replace hsz : wo2.heap.size ≤ wo4.heap.size := by rw [← hx_]; exact szset hsz
        clear hx_ c0_0 c0_1 c0_2 cf0 c1_0 c1_1 c1_2 c1_3 c1_4 c1_5 cf1 c2_0 c2_1 c2_2 cf2 c3_0 c3_1 c3_2 c3_3 c3_4 c3_5 cf3 hO3
        have c0_0 : wo4.cell? ⟨wo1.heap.size, 0, none⟩ = some (.string p.1.holder) := hO4.c 0 0
        have c0_1 : wo4.cell? ⟨wo1.heap.size, 1, none⟩ = some (.slice A1 p.1.waiting.length c1) := hO4.c 0 1
        have c0_2 : wo4.cell? ⟨wo1.heap.size, 2, none⟩ = some (.slice A2 p.1.held.length c2) := hO4.c 0 2
        have cf0 := hO4.fr 0
        have c1_0 : wo4.cell? ⟨w.heap.size + 1 + 1, 0, none⟩ = some (.string bE) := hO4.c 1 0
        have c1_1 : wo4.cell? ⟨w.heap.size + 1 + 1, 1, none⟩ = some (.slice none 0 0) := hO4.c 1 1
        have c1_2 : wo4.cell? ⟨w.heap.size + 1 + 1, 2, none⟩ = some (.slice none 0 0) := hO4.c 1 2
        have c1_3 : wo4.cell? ⟨w.heap.size + 1 + 1, 3, none⟩ = some (.string bE) := hO4.c 1 3
        have c1_4 : wo4.cell? ⟨w.heap.size + 1 + 1, 4, none⟩ = some (.slice none 0 0) := hO4.c 1 4
        have c1_5 : wo4.cell? ⟨w.heap.size + 1 + 1, 5, none⟩ = some (.slice none 0 0) := hO4.c 1 5
        have cf1 := hO4.fr 1
        have c2_0 : wo4.cell? ⟨w.heap.size + 1, 0, none⟩ = some (.int .u8 (kd : Int)) := hO4.c 2 0
        have c2_1 : wo4.cell? ⟨w.heap.size + 1, 1, none⟩ = some (.int .u8 (pl : Int)) := hO4.c 2 1
        have c2_2 : wo4.cell? ⟨w.heap.size + 1, 2, none⟩ = some (.int .u8 (jb : Int)) := hO4.c 2 2
        have cf2 := hO4.fr 2
        have c3_0 : wo4.cell? ⟨w.heap.size, 0, none⟩ = some (.string t1.holder) := hO4.c 3 0
        have c3_1 : wo4.cell? ⟨w.heap.size, 1, none⟩ = some (.slice E1 t1.waiting.length e1) := hO4.c 3 1
        have c3_2 : wo4.cell? ⟨w.heap.size, 2, none⟩ = some (.slice E2 t1.held.length e2) := hO4.c 3 2
        have c3_3 : wo4.cell? ⟨w.heap.size, 3, none⟩ = some (.string bE) := hO4.c 3 3
        have c3_4 : wo4.cell? ⟨w.heap.size, 4, none⟩ = some (.slice F1 t2.waiting.length f1) := hO4.c 3 4
        have c3_5 : wo4.cell? ⟨w.heap.size, 5, none⟩ = some (.slice F2 t2.held.length f2) := hO4.c 3 5
        have cf3 := hO4.fr 3
        have C := out_any t2.waiting j F1 t2.waiting.length f1 wo4 k3.fin (by omega)
        replace C := Lib.hid C
        repeat' ((fail_if_success at_builtin); (first | go_skip | go_guarded | go_step))
        refine C.out.mono ?_
        clear C
        rintro e w5 ⟨A5, c5, rfl, hb5, hs5⟩
        dsimp only
        have n5 : SL S0 w.heap.size wo2.heap.size w5 A5 (outB t2.waiting j).length c5 (outB t2.waiting j) := SL.new hs5 hsz
        clear hs5
        have zw5 := hb5.size
        have hO5 : OwnB w w5 [(wo1.heap.size, [.string p.1.holder, .slice A1 p.1.waiting.length c1, .slice A2 p.1.held.length c2]), (w.heap.size + 1 + 1, [.string bE, .slice none 0 0, .slice none 0 0, .string bE, .slice none 0 0, .slice none 0 0]), (w.heap.size + 1, [.int .u8 (kd : Int), .int .u8 (pl : Int), .int .u8 (jb : Int)]), (w.heap.size, [.string t1.holder, .slice E1 t1.waiting.length e1, .slice E2 t1.held.length e2, .string bE, .slice F1 t2.waiting.length f1, .slice F2 t2.held.length f2])] := hO4.kept hb5
        clear c0_0 c0_1 c0_2 cf0 c1_0 c1_1 c1_2 c1_3 c1_4 c1_5 cf1 c2_0 c2_1 c2_2 cf2 c3_0 c3_1 c3_2 c3_3 c3_4 c3_5 cf3 hO4
        have c0_0 : w5.cell? ⟨wo1.heap.size, 0, none⟩ = some (.string p.1.holder) := hO5.c 0 0
        have c0_1 : w5.cell? ⟨wo1.heap.size, 1, none⟩ = some (.slice A1 p.1.waiting.length c1) := hO5.c 0 1
        have c0_2 : w5.cell? ⟨wo1.heap.size, 2, none⟩ = some (.slice A2 p.1.held.length c2) := hO5.c 0 2
        have cf0 := hO5.fr 0
        have c1_0 : w5.cell? ⟨w.heap.size + 1 + 1, 0, none⟩ = some (.string bE) := hO5.c 1 0
        have c1_1 : w5.cell? ⟨w.heap.size + 1 + 1, 1, none⟩ = some (.slice none 0 0) := hO5.c 1 1
        have c1_2 : w5.cell? ⟨w.heap.size + 1 + 1, 2, none⟩ = some (.slice none 0 0) := hO5.c 1 2
        have c1_3 : w5.cell? ⟨w.heap.size + 1 + 1, 3, none⟩ = some (.string bE) := hO5.c 1 3
        have c1_4 : w5.cell? ⟨w.heap.size + 1 + 1, 4, none⟩ = some (.slice none 0 0) := hO5.c 1 4
        have c1_5 : w5.cell? ⟨w.heap.size + 1 + 1, 5, none⟩ = some (.slice none 0 0) := hO5.c 1 5
        have cf1 := hO5.fr 1
        have c2_0 : w5.cell? ⟨w.heap.size + 1, 0, none⟩ = some (.int .u8 (kd : Int)) := hO5.c 2 0
        have c2_1 : w5.cell? ⟨w.heap.size + 1, 1, none⟩ = some (.int .u8 (pl : Int)) := hO5.c 2 1
        have c2_2 : w5.cell? ⟨w.heap.size + 1, 2, none⟩ = some (.int .u8 (jb : Int)) := hO5.c 2 2
        have cf2 := hO5.fr 2
        have c3_0 : w5.cell? ⟨w.heap.size, 0, none⟩ = some (.string t1.holder) := hO5.c 3 0
        have c3_1 : w5.cell? ⟨w.heap.size, 1, none⟩ = some (.slice E1 t1.waiting.length e1) := hO5.c 3 1
        have c3_2 : w5.cell? ⟨w.heap.size, 2, none⟩ = some (.slice E2 t1.held.length e2) := hO5.c 3 2
        have c3_3 : w5.cell? ⟨w.heap.size, 3, none⟩ = some (.string bE) := hO5.c 3 3
        have c3_4 : w5.cell? ⟨w.heap.size, 4, none⟩ = some (.slice F1 t2.waiting.length f1) := hO5.c 3 4
        have c3_5 : w5.cell? ⟨w.heap.size, 5, none⟩ = some (.slice F2 t2.held.length f2) := hO5.c 3 5
        have cf3 := hO5.fr 3
        replace k1 : SL S0 w.heap.size wo2.heap.size w5 E1 t1.waiting.length e1 t1.waiting := k1.up hb5
        replace k2 : SL S0 w.heap.size wo2.heap.size w5 E2 t1.held.length e2 t1.held := k2.up hb5
        replace k3 : SL S0 w.heap.size wo2.heap.size w5 F1 t2.waiting.length f1 t2.waiting := k3.up hb5
        replace k4 : SL S0 w.heap.size wo2.heap.size w5 F2 t2.held.length f2 t2.held := k4.up hb5
        replace hsz : wo2.heap.size ≤ w5.heap.size := Nat.le_trans hsz hb5.size
        generalize hlq : (outB t2.waiting j).length = lq at *
        repeat' ((fail_if_success at_builtin); (first | go_skip | go_guarded | go_step))
        generalize hx_ : World.setCell _ _ _ = wo6
        have hO6 : OwnB w wo6 [(wo1.heap.size, [.string p.1.holder, .slice A1 p.1.waiting.length c1, .slice A2 p.1.held.length c2]), (w.heap.size + 1 + 1, [.string bE, .slice none 0 0, .slice none 0 0, .string bE, .slice none 0 0, .slice none 0 0]), (w.heap.size + 1, [.int .u8 (kd : Int), .int .u8 (pl : Int), .int .u8 (jb : Int)]), (w.heap.size, [.string t1.holder, .slice E1 t1.waiting.length e1, .slice E2 t1.held.length e2, .string bE, .slice A5 lq c5, .slice F2 t2.held.length f2])] := by rw [← hx_]; exact hO5.store 3 rfl 4 _
        have zwo6 : w5.heap.size ≤ wo6.heap.size := by rw [← hx_]; simp [World.setCell]
        replace k1 : SL S0 w.heap.size wo2.heap.size wo6 E1 t1.waiting.length e1 t1.waiting := by rw [← hx_]; exact k1.set (by omega) (by omega)
        replace k2 : SL S0 w.heap.size wo2.heap.size wo6 E2 t1.held.length e2 t1.held := by rw [← hx_]; exact k2.set (by omega) (by omega)
        replace k3 : SL S0 w.heap.size wo2.heap.size wo6 F1 t2.waiting.length f1 t2.waiting := by rw [← hx_]; exact k3.set (by omega) (by omega)
        replace k4 : SL S0 w.heap.size wo2.heap.size wo6 F2 t2.held.length f2 t2.held := by rw [← hx_]; exact k4.set (by omega) (by omega)
        replace hsz : wo2.heap.size ≤ wo6.heap.size := by rw [← hx_]; exact szset hsz
        replace n5 : SL S0 w.heap.size wo2.heap.size wo6 A5 lq c5 (outB t2.waiting j) := by rw [← hx_]; exact n5.set (by omega) (by omega)
        clear hx_ c0_0 c0_1 c0_2 cf0 c1_0 c1_1 c1_2 c1_3 c1_4 c1_5 cf1 c2_0 c2_1 c2_2 cf2 c3_0 c3_1 c3_2 c3_3 c3_4 c3_5 cf3 hO5
        have c0_0 : wo6.cell? ⟨wo1.heap.size, 0, none⟩ = some (.string p.1.holder) := hO6.c 0 0
        have c0_1 : wo6.cell? ⟨wo1.heap.size, 1, none⟩ = some (.slice A1 p.1.waiting.length c1) := hO6.c 0 1
        have c0_2 : wo6.cell? ⟨wo1.heap.size, 2, none⟩ = some (.slice A2 p.1.held.length c2) := hO6.c 0 2
        have cf0 := hO6.fr 0
        have c1_0 : wo6.cell? ⟨w.heap.size + 1 + 1, 0, none⟩ = some (.string bE) := hO6.c 1 0
        have c1_1 : wo6.cell? ⟨w.heap.size + 1 + 1, 1, none⟩ = some (.slice none 0 0) := hO6.c 1 1
        have c1_2 : wo6.cell? ⟨w.heap.size + 1 + 1, 2, none⟩ = some (.slice none 0 0) := hO6.c 1 2
        have c1_3 : wo6.cell? ⟨w.heap.size + 1 + 1, 3, none⟩ = some (.string bE) := hO6.c 1 3
        have c1_4 : wo6.cell? ⟨w.heap.size + 1 + 1, 4, none⟩ = some (.slice none 0 0) := hO6.c 1 4
        have c1_5 : wo6.cell? ⟨w.heap.size + 1 + 1, 5, none⟩ = some (.slice none 0 0) := hO6.c 1 5
        have cf1 := hO6.fr 1
        have c2_0 : wo6.cell? ⟨w.heap.size + 1, 0, none⟩ = some (.int .u8 (kd : Int)) := hO6.c 2 0
        have c2_1 : wo6.cell? ⟨w.heap.size + 1, 1, none⟩ = some (.int .u8 (pl : Int)) := hO6.c 2 1
        have c2_2 : wo6.cell? ⟨w.heap.size + 1, 2, none⟩ = some (.int .u8 (jb : Int)) := hO6.c 2 2
        have cf2 := hO6.fr 2
        have c3_0 : wo6.cell? ⟨w.heap.size, 0, none⟩ = some (.string t1.holder) := hO6.c 3 0
        have c3_1 : wo6.cell? ⟨w.heap.size, 1, none⟩ = some (.slice E1 t1.waiting.length e1) := hO6.c 3 1
        have c3_2 : wo6.cell? ⟨w.heap.size, 2, none⟩ = some (.slice E2 t1.held.length e2) := hO6.c 3 2
        have c3_3 : wo6.cell? ⟨w.heap.size, 3, none⟩ = some (.string bE) := hO6.c 3 3
        have c3_4 : wo6.cell? ⟨w.heap.size, 4, none⟩ = some (.slice A5 lq c5) := hO6.c 3 4
        have c3_5 : wo6.cell? ⟨w.heap.size, 5, none⟩ = some (.slice F2 t2.held.length f2) := hO6.c 3 5
        have cf3 := hO6.fr 3
        go_roundw
        case rel =>
          subst hlq
          refine ⟨2, t1, leaveT j t2, E1, e1, E2, e2, A5, c5, F2, f2, by first | rfl | go_num, Or.inr (Or.inr ⟨rfl, h1.out, by rw [h2.out]⟩), ?_, ?_, hsz⟩
          · rw [he.out]; exact hO6
          · rw [he.out]; exact ⟨k1, k2, n5, k4⟩
        case measure => (try go_num); (try simp [intOf]); (try omega)
      | false =>
        have q1 : (t2.holder.toList == j.toList) = false := hv
        have he : leaveT j t2 = ⟨t2.holder, outB t2.waiting j, t2.held⟩ := by unfold leaveT; rw [hv] <;> rfl
        clear hv
        replace he := Lib.hid he
        replace h1 := Lib.hid h1
        replace h2 := Lib.hid h2
        have C := out_any t2.waiting j F1 t2.waiting.length f1 wr k3.fin (by omega)
        replace C := Lib.hid C
        repeat' ((fail_if_success at_builtin); (first | go_skip | go_guarded | go_step))
        refine C.out.mono ?_
        clear C
        rintro e w5 ⟨A5, c5, rfl, hb5, hs5⟩
        dsimp only
        have n5 : SL S0 w.heap.size wo2.heap.size w5 A5 (outB t2.waiting j).length c5 (outB t2.waiting j) := SL.new hs5 hsz
        clear hs5
        have zw5 := hb5.size
        have hO4 : OwnB w w5 [(wo1.heap.size, [.string p.1.holder, .slice A1 p.1.waiting.length c1, .slice A2 p.1.held.length c2]), (w.heap.size + 1 + 1, [.string bE, .slice none 0 0, .slice none 0 0, .string bE, .slice none 0 0, .slice none 0 0]), (w.heap.size + 1, [.int .u8 (kd : Int), .int .u8 (pl : Int), .int .u8 (jb : Int)]), (w.heap.size, [.string t1.holder, .slice E1 t1.waiting.length e1, .slice E2 t1.held.length e2, .string t2.holder, .slice F1 t2.waiting.length f1, .slice F2 t2.held.length f2])] := hO3.kept hb5
        clear c0_0 c0_1 c0_2 cf0 c1_0 c1_1 c1_2 c1_3 c1_4 c1_5 cf1 c2_0 c2_1 c2_2 cf2 c3_0 c3_1 c3_2 c3_3 c3_4 c3_5 cf3 hO3
        have c0_0 : w5.cell? ⟨wo1.heap.size, 0, none⟩ = some (.string p.1.holder) := hO4.c 0 0
        have c0_1 : w5.cell? ⟨wo1.heap.size, 1, none⟩ = some (.slice A1 p.1.waiting.length c1) := hO4.c 0 1
        have c0_2 : w5.cell? ⟨wo1.heap.size, 2, none⟩ = some (.slice A2 p.1.held.length c2) := hO4.c 0 2
        have cf0 := hO4.fr 0
        have c1_0 : w5.cell? ⟨w.heap.size + 1 + 1, 0, none⟩ = some (.string bE) := hO4.c 1 0
        have c1_1 : w5.cell? ⟨w.heap.size + 1 + 1, 1, none⟩ = some (.slice none 0 0) := hO4.c 1 1
        have c1_2 : w5.cell? ⟨w.heap.size + 1 + 1, 2, none⟩ = some (.slice none 0 0) := hO4.c 1 2
        have c1_3 : w5.cell? ⟨w.heap.size + 1 + 1, 3, none⟩ = some (.string bE) := hO4.c 1 3
        have c1_4 : w5.cell? ⟨w.heap.size + 1 + 1, 4, none⟩ = some (.slice none 0 0) := hO4.c 1 4
        have c1_5 : w5.cell? ⟨w.heap.size + 1 + 1, 5, none⟩ = some (.slice none 0 0) := hO4.c 1 5
        have cf1 := hO4.fr 1
        have c2_0 : w5.cell? ⟨w.heap.size + 1, 0, none⟩ = some (.int .u8 (kd : Int)) := hO4.c 2 0
        have c2_1 : w5.cell? ⟨w.heap.size + 1, 1, none⟩ = some (.int .u8 (pl : Int)) := hO4.c 2 1
        have c2_2 : w5.cell? ⟨w.heap.size + 1, 2, none⟩ = some (.int .u8 (jb : Int)) := hO4.c 2 2
        have cf2 := hO4.fr 2
        have c3_0 : w5.cell? ⟨w.heap.size, 0, none⟩ = some (.string t1.holder) := hO4.c 3 0
        have c3_1 : w5.cell? ⟨w.heap.size, 1, none⟩ = some (.slice E1 t1.waiting.length e1) := hO4.c 3 1
        have c3_2 : w5.cell? ⟨w.heap.size, 2, none⟩ = some (.slice E2 t1.held.length e2) := hO4.c 3 2
        have c3_3 : w5.cell? ⟨w.heap.size, 3, none⟩ = some (.string t2.holder) := hO4.c 3 3
        have c3_4 : w5.cell? ⟨w.heap.size, 4, none⟩ = some (.slice F1 t2.waiting.length f1) := hO4.c 3 4
        have c3_5 : w5.cell? ⟨w.heap.size, 5, none⟩ = some (.slice F2 t2.held.length f2) := hO4.c 3 5
        have cf3 := hO4.fr 3
        replace k1 : SL S0 w.heap.size wo2.heap.size w5 E1 t1.waiting.length e1 t1.waiting := k1.up hb5
        replace k2 : SL S0 w.heap.size wo2.heap.size w5 E2 t1.held.length e2 t1.held := k2.up hb5
        replace k3 : SL S0 w.heap.size wo2.heap.size w5 F1 t2.waiting.length f1 t2.waiting := k3.up hb5
        replace k4 : SL S0 w.heap.size wo2.heap.size w5 F2 t2.held.length f2 t2.held := k4.up hb5
        replace hsz : wo2.heap.size ≤ w5.heap.size := Nat.le_trans hsz hb5.size
        generalize hlq : (outB t2.waiting j).length = lq at *
        repeat' ((fail_if_success at_builtin); (first | go_skip | go_guarded | go_step))
        generalize hx_ : World.setCell _ _ _ = wo5
        have hO5 : OwnB w wo5 [(wo1.heap.size, [.string p.1.holder, .slice A1 p.1.waiting.length c1, .slice A2 p.1.held.length c2]), (w.heap.size + 1 + 1, [.string bE, .slice none 0 0, .slice none 0 0, .string bE, .slice none 0 0, .slice none 0 0]), (w.heap.size + 1, [.int .u8 (kd : Int), .int .u8 (pl : Int), .int .u8 (jb : Int)]), (w.heap.size, [.string t1.holder, .slice E1 t1.waiting.length e1, .slice E2 t1.held.length e2, .string t2.holder, .slice A5 lq c5, .slice F2 t2.held.length f2])] := by rw [← hx_]; exact hO4.store 3 rfl 4 _
        have zwo5 : w5.heap.size ≤ wo5.heap.size := by rw [← hx_]; simp [World.setCell]
        replace k1 : SL S0 w.heap.size wo2.heap.size wo5 E1 t1.waiting.length e1 t1.waiting := by rw [← hx_]; exact k1.set (by omega) (by omega)
        replace k2 : SL S0 w.heap.size wo2.heap.size wo5 E2 t1.held.length e2 t1.held := by rw [← hx_]; exact k2.set (by omega) (by omega)
        replace k3 : SL S0 w.heap.size wo2.heap.size wo5 F1 t2.waiting.length f1 t2.waiting := by rw [← hx_]; exact k3.set (by omega) (by omega)
        replace k4 : SL S0 w.heap.size wo2.heap.size wo5 F2 t2.held.length f2 t2.held := by rw [← hx_]; exact k4.set (by omega) (by omega)
        replace hsz : wo2.heap.size ≤ wo5.heap.size := by rw [← hx_]; exact szset hsz
        replace n5 : SL S0 w.heap.size wo2.heap.size wo5 A5 lq c5 (outB t2.waiting j) := by rw [← hx_]; exact n5.set (by omega) (by omega)
        clear hx_ c0_0 c0_1 c0_2 cf0 c1_0 c1_1 c1_2 c1_3 c1_4 c1_5 cf1 c2_0 c2_1 c2_2 cf2 c3_0 c3_1 c3_2 c3_3 c3_4 c3_5 cf3 hO4
        have c0_0 : wo5.cell? ⟨wo1.heap.size, 0, none⟩ = some (.string p.1.holder) := hO5.c 0 0
        have c0_1 : wo5.cell? ⟨wo1.heap.size, 1, none⟩ = some (.slice A1 p.1.waiting.length c1) := hO5.c 0 1
        have c0_2 : wo5.cell? ⟨wo1.heap.size, 2, none⟩ = some (.slice A2 p.1.held.length c2) := hO5.c 0 2
        have cf0 := hO5.fr 0
        have c1_0 : wo5.cell? ⟨w.heap.size + 1 + 1, 0, none⟩ = some (.string bE) := hO5.c 1 0
        have c1_1 : wo5.cell? ⟨w.heap.size + 1 + 1, 1, none⟩ = some (.slice none 0 0) := hO5.c 1 1
        have c1_2 : wo5.cell? ⟨w.heap.size + 1 + 1, 2, none⟩ = some (.slice none 0 0) := hO5.c 1 2
        have c1_3 : wo5.cell? ⟨w.heap.size + 1 + 1, 3, none⟩ = some (.string bE) := hO5.c 1 3
        have c1_4 : wo5.cell? ⟨w.heap.size + 1 + 1, 4, none⟩ = some (.slice none 0 0) := hO5.c 1 4
        have c1_5 : wo5.cell? ⟨w.heap.size + 1 + 1, 5, none⟩ = some (.slice none 0 0) := hO5.c 1 5
        have cf1 := hO5.fr 1
        have c2_0 : wo5.cell? ⟨w.heap.size + 1, 0, none⟩ = some (.int .u8 (kd : Int)) := hO5.c 2 0
        have c2_1 : wo5.cell? ⟨w.heap.size + 1, 1, none⟩ = some (.int .u8 (pl : Int)) := hO5.c 2 1
        have c2_2 : wo5.cell? ⟨w.heap.size + 1, 2, none⟩ = some (.int .u8 (jb : Int)) := hO5.c 2 2
        have cf2 := hO5.fr 2
        have c3_0 : wo5.cell? ⟨w.heap.size, 0, none⟩ = some (.string t1.holder) := hO5.c 3 0
        have c3_1 : wo5.cell? ⟨w.heap.size, 1, none⟩ = some (.slice E1 t1.waiting.length e1) := hO5.c 3 1
        have c3_2 : wo5.cell? ⟨w.heap.size, 2, none⟩ = some (.slice E2 t1.held.length e2) := hO5.c 3 2
        have c3_3 : wo5.cell? ⟨w.heap.size, 3, none⟩ = some (.string t2.holder) := hO5.c 3 3
        have c3_4 : wo5.cell? ⟨w.heap.size, 4, none⟩ = some (.slice A5 lq c5) := hO5.c 3 4
        have c3_5 : wo5.cell? ⟨w.heap.size, 5, none⟩ = some (.slice F2 t2.held.length f2) := hO5.c 3 5
        have cf3 := hO5.fr 3
        go_roundw
        case rel =>
          subst hlq
          refine ⟨2, t1, leaveT j t2, E1, e1, E2, e2, A5, c5, F2, f2, by first | rfl | go_num, Or.inr (Or.inr ⟨rfl, h1.out, by rw [h2.out]⟩), ?_, ?_, hsz⟩
          · rw [he.out]; exact hO5
          · rw [he.out]; exact ⟨k1, k2, n5, k4⟩
        case measure => (try go_num); (try simp [intOf]); (try omega)
    · have hm : expT 3 false j p = ((t1, t2), true) := by rw [h1, h2]; rfl
      clear h1 h2
      repeat' ((fail_if_success at_builtin); (first | go_skip | go_guarded | go_step))
      generalize hx_ : World.setCell (World.setCell (World.setCell (World.setCell (World.setCell (World.setCell _ _ _) _ _) _ _) _ _) _ _) _ _ = wo4
      have hO4 : OwnB w wo4 [(wo1.heap.size, [.string p.1.holder, .slice A1 p.1.waiting.length c1, .slice A2 p.1.held.length c2]), (w.heap.size + 1 + 1, [.string t1.holder, .slice E1 t1.waiting.length e1, .slice E2 t1.held.length e2, .string t2.holder, .slice F1 t2.waiting.length f1, .slice F2 t2.held.length f2]), (w.heap.size + 1, [.int .u8 (kd : Int), .int .u8 (pl : Int), .int .u8 (jb : Int)]), (w.heap.size, [.string t1.holder, .slice E1 t1.waiting.length e1, .slice E2 t1.held.length e2, .string t2.holder, .slice F1 t2.waiting.length f1, .slice F2 t2.held.length f2])] := by rw [← hx_]; exact (((((hO3.store 1 rfl 0 _).store 1 rfl 1 _).store 1 rfl 2 _).store 1 rfl 3 _).store 1 rfl 4 _).store 1 rfl 5 _
      have zwo4 : wr.heap.size ≤ wo4.heap.size := by rw [← hx_]; simp [World.setCell]
      replace k1 : SL S0 w.heap.size wo2.heap.size wo4 E1 t1.waiting.length e1 t1.waiting := by rw [← hx_]; exact ((((((k1.set (by omega) (by omega)).set (by omega) (by omega)).set (by omega) (by omega)).set (by omega) (by omega)).set (by omega) (by omega)).set (by omega) (by omega))
      replace k2 : SL S0 w.heap.size wo2.heap.size wo4 E2 t1.held.length e2 t1.held := by rw [← hx_]; exact ((((((k2.set (by omega) (by omega)).set (by omega) (by omega)).set (by omega) (by omega)).set (by omega) (by omega)).set (by omega) (by omega)).set (by omega) (by omega))
      replace k3 : SL S0 w.heap.size wo2.heap.size wo4 F1 t2.waiting.length f1 t2.waiting := by rw [← hx_]; exact ((((((k3.set (by omega) (by omega)).set (by omega) (by omega)).set (by omega) (by omega)).set (by omega) (by omega)).set (by omega) (by omega)).set (by omega) (by omega))
      replace k4 : SL S0 w.heap.size wo2.heap.size wo4 F2 t2.held.length f2 t2.held := by rw [← hx_]; exact ((((((k4.set (by omega) (by omega)).set (by omega) (by omega)).set (by omega) (by omega)).set (by omega) (by omega)).set (by omega) (by omega)).set (by omega) (by omega))
      replace hsz : wo2.heap.size ≤ wo4.heap.size := by rw [← hx_]; exact (szset (szset (szset (szset (szset (szset hsz))))))
      clear hx_ c0_0 c0_1 c0_2 cf0 c1_0 c1_1 c1_2 c1_3 c1_4 c1_5 cf1 c2_0 c2_1 c2_2 cf2 c3_0 c3_1 c3_2 c3_3 c3_4 c3_5 cf3 hO3
      have c0_0 : wo4.cell? ⟨wo1.heap.size, 0, none⟩ = some (.string p.1.holder) := hO4.c 0 0
      have c0_1 : wo4.cell? ⟨wo1.heap.size, 1, none⟩ = some (.slice A1 p.1.waiting.length c1) := hO4.c 0 1
      have c0_2 : wo4.cell? ⟨wo1.heap.size, 2, none⟩ = some (.slice A2 p.1.held.length c2) := hO4.c 0 2
      have cf0 := hO4.fr 0
      have c1_0 : wo4.cell? ⟨w.heap.size + 1 + 1, 0, none⟩ = some (.string t1.holder) := hO4.c 1 0
      have c1_1 : wo4.cell? ⟨w.heap.size + 1 + 1, 1, none⟩ = some (.slice E1 t1.waiting.length e1) := hO4.c 1 1
      have c1_2 : wo4.cell? ⟨w.heap.size + 1 + 1, 2, none⟩ = some (.slice E2 t1.held.length e2) := hO4.c 1 2
      have c1_3 : wo4.cell? ⟨w.heap.size + 1 + 1, 3, none⟩ = some (.string t2.holder) := hO4.c 1 3
      have c1_4 : wo4.cell? ⟨w.heap.size + 1 + 1, 4, none⟩ = some (.slice F1 t2.waiting.length f1) := hO4.c 1 4
      have c1_5 : wo4.cell? ⟨w.heap.size + 1 + 1, 5, none⟩ = some (.slice F2 t2.held.length f2) := hO4.c 1 5
      have cf1 := hO4.fr 1
      have c2_0 : wo4.cell? ⟨w.heap.size + 1, 0, none⟩ = some (.int .u8 (kd : Int)) := hO4.c 2 0
      have c2_1 : wo4.cell? ⟨w.heap.size + 1, 1, none⟩ = some (.int .u8 (pl : Int)) := hO4.c 2 1
      have c2_2 : wo4.cell? ⟨w.heap.size + 1, 2, none⟩ = some (.int .u8 (jb : Int)) := hO4.c 2 2
      have cf2 := hO4.fr 2
      have c3_0 : wo4.cell? ⟨w.heap.size, 0, none⟩ = some (.string t1.holder) := hO4.c 3 0
      have c3_1 : wo4.cell? ⟨w.heap.size, 1, none⟩ = some (.slice E1 t1.waiting.length e1) := hO4.c 3 1
      have c3_2 : wo4.cell? ⟨w.heap.size, 2, none⟩ = some (.slice E2 t1.held.length e2) := hO4.c 3 2
      have c3_3 : wo4.cell? ⟨w.heap.size, 3, none⟩ = some (.string t2.holder) := hO4.c 3 3
      have c3_4 : wo4.cell? ⟨w.heap.size, 4, none⟩ = some (.slice F1 t2.waiting.length f1) := hO4.c 3 4
      have c3_5 : wo4.cell? ⟨w.heap.size, 5, none⟩ = some (.slice F2 t2.held.length f2) := hO4.c 3 5
      have cf3 := hO4.fr 3
      refine bodyPost_ret (v := .tuple #[.agg #[.string t1.holder, .slice E1 t1.waiting.length e1, .slice E2 t1.held.length e2, .string t2.holder, .slice F1 t2.waiting.length f1, .slice F2 t2.held.length f2], .bool true]) (by simp only [results, Tryd.results24]; go_simp; first | done | exact ⟨rfl, rfl, rfl⟩ | rfl) rfl ?_
      have hq : Q = expT 3 false j p := by first | exact hQ.out | exact hQ
      clear hQ
      subst hq
      exact ⟨E1, e1, E2, e2, F1, f1, F2, f2, by rw [hm] <;> first | rfl | simp, hO4.below, by rw [hm]; exact ⟨k1.out (by omega), k2.out (by omega), k3.out (by omega), k4.out (by omega)⟩⟩
set_option maxRecDepth 100000 in
set_option maxHeartbeats 4000000 in
theorem exp31_any (kd pl jb : Nat) (p : Turn × Turn) (A1 : Option Addr) (c1 : Nat) (A2 : Option Addr) (c2 : Nat) (B1 : Option Addr) (d1 : Nat) (B2 : Option Addr) (d2 : Nat) (j : ByteArray) (w : World) (S0 : Nat → Prop) (hS0 : ∀ x, S0 x → x < w.heap.size) (h : TwoS S0 w p A1 c1 A2 c2 B1 d1 B2 d2) (hl1 : p.1.waiting.length ≤ 100000) (hl2 : p.2.waiting.length ≤ 100000) (_hl3 : p.1.held.length ≤ 100000) (_hl4 : p.2.held.length ≤ 100000) (hkd : (kd : Int).tmod 4 = 3) (hpl : (wrap64 (pl : Int)).tmod 2 = 1) (Q : (Turn × Turn) × Bool) (hQ : Q = expT 3 true j p) :
    Calls Tryd.prog 24 #[.agg #[.string p.1.holder, .slice A1 p.1.waiting.length c1, .slice A2 p.1.held.length c2, .string p.2.holder, .slice B1 p.2.waiting.length d1, .slice B2 p.2.held.length d2], .agg #[.int .u8 (kd : Int), .int .u8 (pl : Int), .int .u8 (jb : Int)], .string j] w fun e w' => ∃ (A1' : Option Addr) (c1' : Nat) (A2' : Option Addr) (c2' : Nat) (B1' : Option Addr) (d1' : Nat) (B2' : Option Addr) (d2' : Nat), e = .returned (.tuple #[.agg #[.string Q.1.1.holder, .slice A1' Q.1.1.waiting.length c1', .slice A2' Q.1.1.held.length c2', .string Q.1.2.holder, .slice B1' Q.1.2.waiting.length d1', .slice B2' Q.1.2.held.length d2'], .bool Q.2]) ∧ Below w.heap.size w w' ∧ TwoS (fun x => x < w'.heap.size ∧ (S0 x ∨ w.heap.size ≤ x)) w' Q.1 A1' c1' A2' c2' B1' d1' B2' d2' := by
  go_enter Tryd.func24, Tryd.ntmps24
  go_upto_region 1 with (fail)
  generalize hx_ : World.alloc (World.alloc (World.alloc w _) _) _ = wo1
  have hO1 : OwnB w wo1 [(w.heap.size + 1 + 1, [.string bE, .slice none 0 0, .slice none 0 0, .string bE, .slice none 0 0, .slice none 0 0]), (w.heap.size + 1, [.int .u8 (kd : Int), .int .u8 (pl : Int), .int .u8 (jb : Int)]), (w.heap.size, [.string p.1.holder, .slice A1 p.1.waiting.length c1, .slice A2 p.1.held.length c2, .string p.2.holder, .slice B1 p.2.waiting.length d1, .slice B2 p.2.held.length d2])] := by rw [← hx_]; exact (((OwnB.refl w).new #[.string p.1.holder, .slice A1 p.1.waiting.length c1, .slice A2 p.1.held.length c2, .string p.2.holder, .slice B1 p.2.waiting.length d1, .slice B2 p.2.held.length d2] _ (g := w.heap.size)).new #[.int .u8 (kd : Int), .int .u8 (pl : Int), .int .u8 (jb : Int)] _ (g := w.heap.size + 1)).new #[.string bE, .slice none 0 0, .slice none 0 0, .string bE, .slice none 0 0, .slice none 0 0] _ (g := w.heap.size + 1 + 1)
  have hbn : Below w.heap.size w wo1 := by rw [← hx_]; exact (((Below.refl _ _).alloc (Nat.le_refl _) _).alloc (by simp) _).alloc (by simp; omega) _
  have zwo1 : w.heap.size + 2 < wo1.heap.size := by rw [← hx_]; simp <;> omega
  clear hx_
  have c0_0 : wo1.cell? ⟨w.heap.size + 1 + 1, 0, none⟩ = some (.string bE) := hO1.c 0 0
  have c0_1 : wo1.cell? ⟨w.heap.size + 1 + 1, 1, none⟩ = some (.slice none 0 0) := hO1.c 0 1
  have c0_2 : wo1.cell? ⟨w.heap.size + 1 + 1, 2, none⟩ = some (.slice none 0 0) := hO1.c 0 2
  have c0_3 : wo1.cell? ⟨w.heap.size + 1 + 1, 3, none⟩ = some (.string bE) := hO1.c 0 3
  have c0_4 : wo1.cell? ⟨w.heap.size + 1 + 1, 4, none⟩ = some (.slice none 0 0) := hO1.c 0 4
  have c0_5 : wo1.cell? ⟨w.heap.size + 1 + 1, 5, none⟩ = some (.slice none 0 0) := hO1.c 0 5
  have cf0 := hO1.fr 0
  have c1_0 : wo1.cell? ⟨w.heap.size + 1, 0, none⟩ = some (.int .u8 (kd : Int)) := hO1.c 1 0
  have c1_1 : wo1.cell? ⟨w.heap.size + 1, 1, none⟩ = some (.int .u8 (pl : Int)) := hO1.c 1 1
  have c1_2 : wo1.cell? ⟨w.heap.size + 1, 2, none⟩ = some (.int .u8 (jb : Int)) := hO1.c 1 2
  have cf1 := hO1.fr 1
  have c2_0 : wo1.cell? ⟨w.heap.size, 0, none⟩ = some (.string p.1.holder) := hO1.c 2 0
  have c2_1 : wo1.cell? ⟨w.heap.size, 1, none⟩ = some (.slice A1 p.1.waiting.length c1) := hO1.c 2 1
  have c2_2 : wo1.cell? ⟨w.heap.size, 2, none⟩ = some (.slice A2 p.1.held.length c2) := hO1.c 2 2
  have c2_3 : wo1.cell? ⟨w.heap.size, 3, none⟩ = some (.string p.2.holder) := hO1.c 2 3
  have c2_4 : wo1.cell? ⟨w.heap.size, 4, none⟩ = some (.slice B1 p.2.waiting.length d1) := hO1.c 2 4
  have c2_5 : wo1.cell? ⟨w.heap.size, 5, none⟩ = some (.slice B2 p.2.held.length d2) := hO1.c 2 5
  have cf2 := hO1.fr 2
  clear hbn
  go_upto_region 3 with (fail)
  generalize hx_ : World.alloc wo1 _ = wo2
  have hO2 : OwnB w wo2 [(wo1.heap.size, [.string p.2.holder, .slice B1 p.2.waiting.length d1, .slice B2 p.2.held.length d2]), (w.heap.size + 1 + 1, [.string bE, .slice none 0 0, .slice none 0 0, .string bE, .slice none 0 0, .slice none 0 0]), (w.heap.size + 1, [.int .u8 (kd : Int), .int .u8 (pl : Int), .int .u8 (jb : Int)]), (w.heap.size, [.string p.1.holder, .slice A1 p.1.waiting.length c1, .slice A2 p.1.held.length c2, .string p.2.holder, .slice B1 p.2.waiting.length d1, .slice B2 p.2.held.length d2])] := by rw [← hx_]; exact hO1.new #[.string p.2.holder, .slice B1 p.2.waiting.length d1, .slice B2 p.2.held.length d2] _ (g := wo1.heap.size)
  have hbn : Below wo1.heap.size wo1 wo2 := by rw [← hx_]; exact (Below.refl _ _).alloc (Nat.le_refl _) _
  have zwo2 : wo1.heap.size + 0 < wo2.heap.size := by rw [← hx_]; simp <;> omega
  clear hx_ c0_0 c0_1 c0_2 c0_3 c0_4 c0_5 cf0 c1_0 c1_1 c1_2 cf1 c2_0 c2_1 c2_2 c2_3 c2_4 c2_5 cf2 hO1
  have c0_0 : wo2.cell? ⟨wo1.heap.size, 0, none⟩ = some (.string p.2.holder) := hO2.c 0 0
  have c0_1 : wo2.cell? ⟨wo1.heap.size, 1, none⟩ = some (.slice B1 p.2.waiting.length d1) := hO2.c 0 1
  have c0_2 : wo2.cell? ⟨wo1.heap.size, 2, none⟩ = some (.slice B2 p.2.held.length d2) := hO2.c 0 2
  have cf0 := hO2.fr 0
  have c1_0 : wo2.cell? ⟨w.heap.size + 1 + 1, 0, none⟩ = some (.string bE) := hO2.c 1 0
  have c1_1 : wo2.cell? ⟨w.heap.size + 1 + 1, 1, none⟩ = some (.slice none 0 0) := hO2.c 1 1
  have c1_2 : wo2.cell? ⟨w.heap.size + 1 + 1, 2, none⟩ = some (.slice none 0 0) := hO2.c 1 2
  have c1_3 : wo2.cell? ⟨w.heap.size + 1 + 1, 3, none⟩ = some (.string bE) := hO2.c 1 3
  have c1_4 : wo2.cell? ⟨w.heap.size + 1 + 1, 4, none⟩ = some (.slice none 0 0) := hO2.c 1 4
  have c1_5 : wo2.cell? ⟨w.heap.size + 1 + 1, 5, none⟩ = some (.slice none 0 0) := hO2.c 1 5
  have cf1 := hO2.fr 1
  have c2_0 : wo2.cell? ⟨w.heap.size + 1, 0, none⟩ = some (.int .u8 (kd : Int)) := hO2.c 2 0
  have c2_1 : wo2.cell? ⟨w.heap.size + 1, 1, none⟩ = some (.int .u8 (pl : Int)) := hO2.c 2 1
  have c2_2 : wo2.cell? ⟨w.heap.size + 1, 2, none⟩ = some (.int .u8 (jb : Int)) := hO2.c 2 2
  have cf2 := hO2.fr 2
  have c3_0 : wo2.cell? ⟨w.heap.size, 0, none⟩ = some (.string p.1.holder) := hO2.c 3 0
  have c3_1 : wo2.cell? ⟨w.heap.size, 1, none⟩ = some (.slice A1 p.1.waiting.length c1) := hO2.c 3 1
  have c3_2 : wo2.cell? ⟨w.heap.size, 2, none⟩ = some (.slice A2 p.1.held.length c2) := hO2.c 3 2
  have c3_3 : wo2.cell? ⟨w.heap.size, 3, none⟩ = some (.string p.2.holder) := hO2.c 3 3
  have c3_4 : wo2.cell? ⟨w.heap.size, 4, none⟩ = some (.slice B1 p.2.waiting.length d1) := hO2.c 3 4
  have c3_5 : wo2.cell? ⟨w.heap.size, 5, none⟩ = some (.slice B2 p.2.held.length d2) := hO2.c 3 5
  have cf3 := hO2.fr 3
  clear hbn
  have hbz := hO2.below
  have k1 : SL S0 w.heap.size wo2.heap.size wo2 A1 p.1.waiting.length c1 p.1.waiting := SL.old h.w1 hS0 hbz
  have k2 : SL S0 w.heap.size wo2.heap.size wo2 A2 p.1.held.length c2 p.1.held := SL.old h.h1 hS0 hbz
  have k3 : SL S0 w.heap.size wo2.heap.size wo2 B1 p.2.waiting.length d1 p.2.waiting := SL.old h.w2 hS0 hbz
  have k4 : SL S0 w.heap.size wo2.heap.size wo2 B2 p.2.held.length d2 p.2.held := SL.old h.h2 hS0 hbz
  have hsz : wo2.heap.size ≤ wo2.heap.size := Nat.le_refl _
  clear h hbz
  go_upto_region 23 with (fail)
  repeat' ((fail_if_success at_builtin); (first | go_skip | go_guarded | go_step))
  go_loopw [10] (fun u10 wr => ∃ (i : Nat) (t1 t2 : Turn) (E1 : Option Addr) (e1 : Nat) (E2 : Option Addr) (e2 : Nat) (F1 : Option Addr) (f1 : Nat) (F2 : Option Addr) (f2 : Nat), u10 = .int .i64 (i : Int) ∧ (i = 0 ∧ t1 = p.1 ∧ t2 = p.2 ∨ i = 1 ∧ t1 = leaveT j p.1 ∧ t2 = p.2 ∨ i = 2 ∧ t1 = leaveT j p.1 ∧ t2 = leaveT j p.2) ∧ OwnB w wr [(wo1.heap.size, [.string p.2.holder, .slice B1 p.2.waiting.length d1, .slice B2 p.2.held.length d2]), (w.heap.size + 1 + 1, [.string bE, .slice none 0 0, .slice none 0 0, .string bE, .slice none 0 0, .slice none 0 0]), (w.heap.size + 1, [.int .u8 (kd : Int), .int .u8 (pl : Int), .int .u8 (jb : Int)]), (w.heap.size, [.string t1.holder, .slice E1 t1.waiting.length e1, .slice E2 t1.held.length e2, .string t2.holder, .slice F1 t2.waiting.length f1, .slice F2 t2.held.length f2])] ∧ (SL S0 w.heap.size wo2.heap.size wr E1 t1.waiting.length e1 t1.waiting ∧ SL S0 w.heap.size wo2.heap.size wr E2 t1.held.length e2 t1.held ∧ SL S0 w.heap.size wo2.heap.size wr F1 t2.waiting.length f1 t2.waiting ∧ SL S0 w.heap.size wo2.heap.size wr F2 t2.held.length f2 t2.held) ∧ wo2.heap.size ≤ wr.heap.size) (fun u10 _ => 2 - (intOf u10).toNat)
  case atStart => exact ⟨0, p.1, p.2, A1, c1, A2, c2, B1, d1, B2, d2, rfl, Or.inl ⟨rfl, rfl, rfl⟩, hO2, ⟨k1, k2, k3, k4⟩, hsz⟩
  case round =>
    clear k1 k2 k3 k4 hsz
    obtain ⟨i, t1, t2, E1, e1, E2, e2, F1, f1, F2, f2, rfl, hcase, hOr, ⟨k1, k2, k3, k4⟩, hsz⟩ := hrel
    have hO3 : OwnB w wr [(wo1.heap.size, [.string p.2.holder, .slice B1 p.2.waiting.length d1, .slice B2 p.2.held.length d2]), (w.heap.size + 1 + 1, [.string bE, .slice none 0 0, .slice none 0 0, .string bE, .slice none 0 0, .slice none 0 0]), (w.heap.size + 1, [.int .u8 (kd : Int), .int .u8 (pl : Int), .int .u8 (jb : Int)]), (w.heap.size, [.string t1.holder, .slice E1 t1.waiting.length e1, .slice E2 t1.held.length e2, .string t2.holder, .slice F1 t2.waiting.length f1, .slice F2 t2.held.length f2])] := hOr
    clear c0_0 c0_1 c0_2 cf0 c1_0 c1_1 c1_2 c1_3 c1_4 c1_5 cf1 c2_0 c2_1 c2_2 cf2 c3_0 c3_1 c3_2 c3_3 c3_4 c3_5 cf3 hO2
    have c0_0 : wr.cell? ⟨wo1.heap.size, 0, none⟩ = some (.string p.2.holder) := hO3.c 0 0
    have c0_1 : wr.cell? ⟨wo1.heap.size, 1, none⟩ = some (.slice B1 p.2.waiting.length d1) := hO3.c 0 1
    have c0_2 : wr.cell? ⟨wo1.heap.size, 2, none⟩ = some (.slice B2 p.2.held.length d2) := hO3.c 0 2
    have cf0 := hO3.fr 0
    have c1_0 : wr.cell? ⟨w.heap.size + 1 + 1, 0, none⟩ = some (.string bE) := hO3.c 1 0
    have c1_1 : wr.cell? ⟨w.heap.size + 1 + 1, 1, none⟩ = some (.slice none 0 0) := hO3.c 1 1
    have c1_2 : wr.cell? ⟨w.heap.size + 1 + 1, 2, none⟩ = some (.slice none 0 0) := hO3.c 1 2
    have c1_3 : wr.cell? ⟨w.heap.size + 1 + 1, 3, none⟩ = some (.string bE) := hO3.c 1 3
    have c1_4 : wr.cell? ⟨w.heap.size + 1 + 1, 4, none⟩ = some (.slice none 0 0) := hO3.c 1 4
    have c1_5 : wr.cell? ⟨w.heap.size + 1 + 1, 5, none⟩ = some (.slice none 0 0) := hO3.c 1 5
    have cf1 := hO3.fr 1
    have c2_0 : wr.cell? ⟨w.heap.size + 1, 0, none⟩ = some (.int .u8 (kd : Int)) := hO3.c 2 0
    have c2_1 : wr.cell? ⟨w.heap.size + 1, 1, none⟩ = some (.int .u8 (pl : Int)) := hO3.c 2 1
    have c2_2 : wr.cell? ⟨w.heap.size + 1, 2, none⟩ = some (.int .u8 (jb : Int)) := hO3.c 2 2
    have cf2 := hO3.fr 2
    have c3_0 : wr.cell? ⟨w.heap.size, 0, none⟩ = some (.string t1.holder) := hO3.c 3 0
    have c3_1 : wr.cell? ⟨w.heap.size, 1, none⟩ = some (.slice E1 t1.waiting.length e1) := hO3.c 3 1
    have c3_2 : wr.cell? ⟨w.heap.size, 2, none⟩ = some (.slice E2 t1.held.length e2) := hO3.c 3 2
    have c3_3 : wr.cell? ⟨w.heap.size, 3, none⟩ = some (.string t2.holder) := hO3.c 3 3
    have c3_4 : wr.cell? ⟨w.heap.size, 4, none⟩ = some (.slice F1 t2.waiting.length f1) := hO3.c 3 4
    have c3_5 : wr.cell? ⟨w.heap.size, 5, none⟩ = some (.slice F2 t2.held.length f2) := hO3.c 3 5
    have cf3 := hO3.fr 3
    clear hOr
    rcases hcase with ⟨rfl, h1, h2⟩ | ⟨rfl, h1, h2⟩ | ⟨rfl, h1, h2⟩
    · skip
      have hwl : t1.waiting.length ≤ 100000 := by rw [h1]; assumption
      cases hv : eqB t1.holder j with
      | true =>
        have q1 : (t1.holder.toList == j.toList) = true := hv
        have he : leaveT j t1 = ⟨bE, outB t1.waiting j, t1.held⟩ := by unfold leaveT; rw [hv] <;> rfl
        clear hv
        replace he := Lib.hid he
        replace h1 := Lib.hid h1
        replace h2 := Lib.hid h2
        go_upto_region 28 with (fail)
        generalize hx_ : World.setCell _ _ _ = wo4
        have hO4 : OwnB w wo4 [(wo1.heap.size, [.string p.2.holder, .slice B1 p.2.waiting.length d1, .slice B2 p.2.held.length d2]), (w.heap.size + 1 + 1, [.string bE, .slice none 0 0, .slice none 0 0, .string bE, .slice none 0 0, .slice none 0 0]), (w.heap.size + 1, [.int .u8 (kd : Int), .int .u8 (pl : Int), .int .u8 (jb : Int)]), (w.heap.size, [.string bE, .slice E1 t1.waiting.length e1, .slice E2 t1.held.length e2, .string t2.holder, .slice F1 t2.waiting.length f1, .slice F2 t2.held.length f2])] := by rw [← hx_]; exact hO3.store 3 rfl 0 _
        have zwo4 : wr.heap.size ≤ wo4.heap.size := by rw [← hx_]; simp [World.setCell]
        replace k1 : SL S0 w.heap.size wo2.heap.size wo4 E1 t1.waiting.length e1 t1.waiting := by rw [← hx_]; exact k1.set (by omega) (by omega)
        replace k2 : SL S0 w.heap.size wo2.heap.size wo4 E2 t1.held.length e2 t1.held := by rw [← hx_]; exact k2.set (by omega) (by omega)
        replace k3 : SL S0 w.heap.size wo2.heap.size wo4 F1 t2.waiting.length f1 t2.waiting := by rw [← hx_]; exact k3.set (by omega) (by omega)
        replace k4 : SL S0 w.heap.size wo2.heap.size wo4 F2 t2.held.length f2 t2.held := by rw [← hx_]; exact k4.set (by omega) (by omega)
        replace hsz : wo2.heap.size ≤ wo4.heap.size := by rw [← hx_]; exact szset hsz
        clear hx_ c0_0 c0_1 c0_2 cf0 c1_0 c1_1 c1_2 c1_3 c1_4 c1_5 cf1 c2_0 c2_1 c2_2 cf2 c3_0 c3_1 c3_2 c3_3 c3_4 c3_5 cf3 hO3
        have c0_0 : wo4.cell? ⟨wo1.heap.size, 0, none⟩ = some (.string p.2.holder) := hO4.c 0 0
        have c0_1 : wo4.cell? ⟨wo1.heap.size, 1, none⟩ = some (.slice B1 p.2.waiting.length d1) := hO4.c 0 1
        have c0_2 : wo4.cell? ⟨wo1.heap.size, 2, none⟩ = some (.slice B2 p.2.held.length d2) := hO4.c 0 2
        have cf0 := hO4.fr 0
        have c1_0 : wo4.cell? ⟨w.heap.size + 1 + 1, 0, none⟩ = some (.string bE) := hO4.c 1 0
        have c1_1 : wo4.cell? ⟨w.heap.size + 1 + 1, 1, none⟩ = some (.slice none 0 0) := hO4.c 1 1
        have c1_2 : wo4.cell? ⟨w.heap.size + 1 + 1, 2, none⟩ = some (.slice none 0 0) := hO4.c 1 2
        have c1_3 : wo4.cell? ⟨w.heap.size + 1 + 1, 3, none⟩ = some (.string bE) := hO4.c 1 3
        have c1_4 : wo4.cell? ⟨w.heap.size + 1 + 1, 4, none⟩ = some (.slice none 0 0) := hO4.c 1 4
        have c1_5 : wo4.cell? ⟨w.heap.size + 1 + 1, 5, none⟩ = some (.slice none 0 0) := hO4.c 1 5
        have cf1 := hO4.fr 1
        have c2_0 : wo4.cell? ⟨w.heap.size + 1, 0, none⟩ = some (.int .u8 (kd : Int)) := hO4.c 2 0
        have c2_1 : wo4.cell? ⟨w.heap.size + 1, 1, none⟩ = some (.int .u8 (pl : Int)) := hO4.c 2 1
        have c2_2 : wo4.cell? ⟨w.heap.size + 1, 2, none⟩ = some (.int .u8 (jb : Int)) := hO4.c 2 2
        have cf2 := hO4.fr 2
        have c3_0 : wo4.cell? ⟨w.heap.size, 0, none⟩ = some (.string bE) := hO4.c 3 0
        have c3_1 : wo4.cell? ⟨w.heap.size, 1, none⟩ = some (.slice E1 t1.waiting.length e1) := hO4.c 3 1
        have c3_2 : wo4.cell? ⟨w.heap.size, 2, none⟩ = some (.slice E2 t1.held.length e2) := hO4.c 3 2
        have c3_3 : wo4.cell? ⟨w.heap.size, 3, none⟩ = some (.string t2.holder) := hO4.c 3 3
        have c3_4 : wo4.cell? ⟨w.heap.size, 4, none⟩ = some (.slice F1 t2.waiting.length f1) := hO4.c 3 4
        have c3_5 : wo4.cell? ⟨w.heap.size, 5, none⟩ = some (.slice F2 t2.held.length f2) := hO4.c 3 5
        have cf3 := hO4.fr 3
        have C := out_any t1.waiting j E1 t1.waiting.length e1 wo4 k1.fin (by omega)
        replace C := Lib.hid C
        repeat' ((fail_if_success at_builtin); (first | go_skip | go_guarded | go_step))
        refine C.out.mono ?_
        clear C
        rintro e w5 ⟨A5, c5, rfl, hb5, hs5⟩
        dsimp only
        have n5 : SL S0 w.heap.size wo2.heap.size w5 A5 (outB t1.waiting j).length c5 (outB t1.waiting j) := SL.new hs5 hsz
        clear hs5
        have zw5 := hb5.size
        have hO5 : OwnB w w5 [(wo1.heap.size, [.string p.2.holder, .slice B1 p.2.waiting.length d1, .slice B2 p.2.held.length d2]), (w.heap.size + 1 + 1, [.string bE, .slice none 0 0, .slice none 0 0, .string bE, .slice none 0 0, .slice none 0 0]), (w.heap.size + 1, [.int .u8 (kd : Int), .int .u8 (pl : Int), .int .u8 (jb : Int)]), (w.heap.size, [.string bE, .slice E1 t1.waiting.length e1, .slice E2 t1.held.length e2, .string t2.holder, .slice F1 t2.waiting.length f1, .slice F2 t2.held.length f2])] := hO4.kept hb5
        clear c0_0 c0_1 c0_2 cf0 c1_0 c1_1 c1_2 c1_3 c1_4 c1_5 cf1 c2_0 c2_1 c2_2 cf2 c3_0 c3_1 c3_2 c3_3 c3_4 c3_5 cf3 hO4
        have c0_0 : w5.cell? ⟨wo1.heap.size, 0, none⟩ = some (.string p.2.holder) := hO5.c 0 0
        have c0_1 : w5.cell? ⟨wo1.heap.size, 1, none⟩ = some (.slice B1 p.2.waiting.length d1) := hO5.c 0 1
        have c0_2 : w5.cell? ⟨wo1.heap.size, 2, none⟩ = some (.slice B2 p.2.held.length d2) := hO5.c 0 2
        have cf0 := hO5.fr 0
        have c1_0 : w5.cell? ⟨w.heap.size + 1 + 1, 0, none⟩ = some (.string bE) := hO5.c 1 0
        have c1_1 : w5.cell? ⟨w.heap.size + 1 + 1, 1, none⟩ = some (.slice none 0 0) := hO5.c 1 1
        have c1_2 : w5.cell? ⟨w.heap.size + 1 + 1, 2, none⟩ = some (.slice none 0 0) := hO5.c 1 2
        have c1_3 : w5.cell? ⟨w.heap.size + 1 + 1, 3, none⟩ = some (.string bE) := hO5.c 1 3
        have c1_4 : w5.cell? ⟨w.heap.size + 1 + 1, 4, none⟩ = some (.slice none 0 0) := hO5.c 1 4
        have c1_5 : w5.cell? ⟨w.heap.size + 1 + 1, 5, none⟩ = some (.slice none 0 0) := hO5.c 1 5
        have cf1 := hO5.fr 1
        have c2_0 : w5.cell? ⟨w.heap.size + 1, 0, none⟩ = some (.int .u8 (kd : Int)) := hO5.c 2 0
        have c2_1 : w5.cell? ⟨w.heap.size + 1, 1, none⟩ = some (.int .u8 (pl : Int)) := hO5.c 2 1
        have c2_2 : w5.cell? ⟨w.heap.size + 1, 2, none⟩ = some (.int .u8 (jb : Int)) := hO5.c 2 2
        have cf2 := hO5.fr 2
        have c3_0 : w5.cell? ⟨w.heap.size, 0, none⟩ = some (.string bE) := hO5.c 3 0
        have c3_1 : w5.cell? ⟨w.heap.size, 1, none⟩ = some (.slice E1 t1.waiting.length e1) := hO5.c 3 1
        have c3_2 : w5.cell? ⟨w.heap.size, 2, none⟩ = some (.slice E2 t1.held.length e2) := hO5.c 3 2
        have c3_3 : w5.cell? ⟨w.heap.size, 3, none⟩ = some (.string t2.holder) := hO5.c 3 3
        have c3_4 : w5.cell? ⟨w.heap.size, 4, none⟩ = some (.slice F1 t2.waiting.length f1) := hO5.c 3 4
        have c3_5 : w5.cell? ⟨w.heap.size, 5, none⟩ = some (.slice F2 t2.held.length f2) := hO5.c 3 5
        have cf3 := hO5.fr 3
        replace k1 : SL S0 w.heap.size wo2.heap.size w5 E1 t1.waiting.length e1 t1.waiting := k1.up hb5
        replace k2 : SL S0 w.heap.size wo2.heap.size w5 E2 t1.held.length e2 t1.held := k2.up hb5
        replace k3 : SL S0 w.heap.size wo2.heap.size w5 F1 t2.waiting.length f1 t2.waiting := k3.up hb5
        replace k4 : SL S0 w.heap.size wo2.heap.size w5 F2 t2.held.length f2 t2.held := k4.up hb5
        replace hsz : wo2.heap.size ≤ w5.heap.size := Nat.le_trans hsz hb5.size
        generalize hlq : (outB t1.waiting j).length = lq at *
        repeat' ((fail_if_success at_builtin); (first | go_skip | go_guarded | go_step))
        generalize hx_ : World.setCell _ _ _ = wo6
        have hO6 : OwnB w wo6 [(wo1.heap.size, [.string p.2.holder, .slice B1 p.2.waiting.length d1, .slice B2 p.2.held.length d2]), (w.heap.size + 1 + 1, [.string bE, .slice none 0 0, .slice none 0 0, .string bE, .slice none 0 0, .slice none 0 0]), (w.heap.size + 1, [.int .u8 (kd : Int), .int .u8 (pl : Int), .int .u8 (jb : Int)]), (w.heap.size, [.string bE, .slice A5 lq c5, .slice E2 t1.held.length e2, .string t2.holder, .slice F1 t2.waiting.length f1, .slice F2 t2.held.length f2])] := by rw [← hx_]; exact hO5.store 3 rfl 1 _
        have zwo6 : w5.heap.size ≤ wo6.heap.size := by rw [← hx_]; simp [World.setCell]
        replace k1 : SL S0 w.heap.size wo2.heap.size wo6 E1 t1.waiting.length e1 t1.waiting := by rw [← hx_]; exact k1.set (by omega) (by omega)
        replace k2 : SL S0 w.heap.size wo2.heap.size wo6 E2 t1.held.length e2 t1.held := by rw [← hx_]; exact k2.set (by omega) (by omega)
        replace k3 : SL S0 w.heap.size wo2.heap.size wo6 F1 t2.waiting.length f1 t2.waiting := by rw [← hx_]; exact k3.set (by omega) (by omega)
        replace k4 : SL S0 w.heap.size wo2.heap.size wo6 F2 t2.held.length f2 t2.held := by rw [← hx_]; exact k4.set (by omega) (by omega)
        replace hsz : wo2.heap.size ≤ wo6.heap.size := by rw [← hx_]; exact szset hsz
        replace n5 : SL S0 w.heap.size wo2.heap.size wo6 A5 lq c5 (outB t1.waiting j) := by rw [← hx_]; exact n5.set (by omega) (by omega)
        clear hx_ c0_0 c0_1 c0_2 cf0 c1_0 c1_1 c1_2 c1_3 c1_4 c1_5 cf1 c2_0 c2_1 c2_2 cf2 c3_0 c3_1 c3_2 c3_3 c3_4 c3_5 cf3 hO5
        have c0_0 : wo6.cell? ⟨wo1.heap.size, 0, none⟩ = some (.string p.2.holder) := hO6.c 0 0
        have c0_1 : wo6.cell? ⟨wo1.heap.size, 1, none⟩ = some (.slice B1 p.2.waiting.length d1) := hO6.c 0 1
        have c0_2 : wo6.cell? ⟨wo1.heap.size, 2, none⟩ = some (.slice B2 p.2.held.length d2) := hO6.c 0 2
        have cf0 := hO6.fr 0
        have c1_0 : wo6.cell? ⟨w.heap.size + 1 + 1, 0, none⟩ = some (.string bE) := hO6.c 1 0
        have c1_1 : wo6.cell? ⟨w.heap.size + 1 + 1, 1, none⟩ = some (.slice none 0 0) := hO6.c 1 1
        have c1_2 : wo6.cell? ⟨w.heap.size + 1 + 1, 2, none⟩ = some (.slice none 0 0) := hO6.c 1 2
        have c1_3 : wo6.cell? ⟨w.heap.size + 1 + 1, 3, none⟩ = some (.string bE) := hO6.c 1 3
        have c1_4 : wo6.cell? ⟨w.heap.size + 1 + 1, 4, none⟩ = some (.slice none 0 0) := hO6.c 1 4
        have c1_5 : wo6.cell? ⟨w.heap.size + 1 + 1, 5, none⟩ = some (.slice none 0 0) := hO6.c 1 5
        have cf1 := hO6.fr 1
        have c2_0 : wo6.cell? ⟨w.heap.size + 1, 0, none⟩ = some (.int .u8 (kd : Int)) := hO6.c 2 0
        have c2_1 : wo6.cell? ⟨w.heap.size + 1, 1, none⟩ = some (.int .u8 (pl : Int)) := hO6.c 2 1
        have c2_2 : wo6.cell? ⟨w.heap.size + 1, 2, none⟩ = some (.int .u8 (jb : Int)) := hO6.c 2 2
        have cf2 := hO6.fr 2
        have c3_0 : wo6.cell? ⟨w.heap.size, 0, none⟩ = some (.string bE) := hO6.c 3 0
        have c3_1 : wo6.cell? ⟨w.heap.size, 1, none⟩ = some (.slice A5 lq c5) := hO6.c 3 1
        have c3_2 : wo6.cell? ⟨w.heap.size, 2, none⟩ = some (.slice E2 t1.held.length e2) := hO6.c 3 2
        have c3_3 : wo6.cell? ⟨w.heap.size, 3, none⟩ = some (.string t2.holder) := hO6.c 3 3
        have c3_4 : wo6.cell? ⟨w.heap.size, 4, none⟩ = some (.slice F1 t2.waiting.length f1) := hO6.c 3 4
        have c3_5 : wo6.cell? ⟨w.heap.size, 5, none⟩ = some (.slice F2 t2.held.length f2) := hO6.c 3 5
        have cf3 := hO6.fr 3
        go_roundw
        case rel =>
          subst hlq
          refine ⟨1, leaveT j t1, t2, A5, c5, E2, e2, F1, f1, F2, f2, by first | rfl | go_num, Or.inr (Or.inl ⟨rfl, by rw [h1.out], h2.out⟩), ?_, ?_, hsz⟩
          · rw [he.out]; exact hO6
          · rw [he.out]; exact ⟨n5, k2, k3, k4⟩
        case measure => (try go_num); (try simp [intOf]); (try omega)
      | false =>
        have q1 : (t1.holder.toList == j.toList) = false := hv
        have he : leaveT j t1 = ⟨t1.holder, outB t1.waiting j, t1.held⟩ := by unfold leaveT; rw [hv] <;> rfl
        clear hv
        replace he := Lib.hid he
        replace h1 := Lib.hid h1
        replace h2 := Lib.hid h2
        have C := out_any t1.waiting j E1 t1.waiting.length e1 wr k1.fin (by omega)
        replace C := Lib.hid C
        repeat' ((fail_if_success at_builtin); (first | go_skip | go_guarded | go_step))
        refine C.out.mono ?_
        clear C
        rintro e w5 ⟨A5, c5, rfl, hb5, hs5⟩
        dsimp only
        have n5 : SL S0 w.heap.size wo2.heap.size w5 A5 (outB t1.waiting j).length c5 (outB t1.waiting j) := SL.new hs5 hsz
        clear hs5
        have zw5 := hb5.size
        have hO4 : OwnB w w5 [(wo1.heap.size, [.string p.2.holder, .slice B1 p.2.waiting.length d1, .slice B2 p.2.held.length d2]), (w.heap.size + 1 + 1, [.string bE, .slice none 0 0, .slice none 0 0, .string bE, .slice none 0 0, .slice none 0 0]), (w.heap.size + 1, [.int .u8 (kd : Int), .int .u8 (pl : Int), .int .u8 (jb : Int)]), (w.heap.size, [.string t1.holder, .slice E1 t1.waiting.length e1, .slice E2 t1.held.length e2, .string t2.holder, .slice F1 t2.waiting.length f1, .slice F2 t2.held.length f2])] := hO3.kept hb5
        clear c0_0 c0_1 c0_2 cf0 c1_0 c1_1 c1_2 c1_3 c1_4 c1_5 cf1 c2_0 c2_1 c2_2 cf2 c3_0 c3_1 c3_2 c3_3 c3_4 c3_5 cf3 hO3
        have c0_0 : w5.cell? ⟨wo1.heap.size, 0, none⟩ = some (.string p.2.holder) := hO4.c 0 0
        have c0_1 : w5.cell? ⟨wo1.heap.size, 1, none⟩ = some (.slice B1 p.2.waiting.length d1) := hO4.c 0 1
        have c0_2 : w5.cell? ⟨wo1.heap.size, 2, none⟩ = some (.slice B2 p.2.held.length d2) := hO4.c 0 2
        have cf0 := hO4.fr 0
        have c1_0 : w5.cell? ⟨w.heap.size + 1 + 1, 0, none⟩ = some (.string bE) := hO4.c 1 0
        have c1_1 : w5.cell? ⟨w.heap.size + 1 + 1, 1, none⟩ = some (.slice none 0 0) := hO4.c 1 1
        have c1_2 : w5.cell? ⟨w.heap.size + 1 + 1, 2, none⟩ = some (.slice none 0 0) := hO4.c 1 2
        have c1_3 : w5.cell? ⟨w.heap.size + 1 + 1, 3, none⟩ = some (.string bE) := hO4.c 1 3
        have c1_4 : w5.cell? ⟨w.heap.size + 1 + 1, 4, none⟩ = some (.slice none 0 0) := hO4.c 1 4
        have c1_5 : w5.cell? ⟨w.heap.size + 1 + 1, 5, none⟩ = some (.slice none 0 0) := hO4.c 1 5
        have cf1 := hO4.fr 1
        have c2_0 : w5.cell? ⟨w.heap.size + 1, 0, none⟩ = some (.int .u8 (kd : Int)) := hO4.c 2 0
        have c2_1 : w5.cell? ⟨w.heap.size + 1, 1, none⟩ = some (.int .u8 (pl : Int)) := hO4.c 2 1
        have c2_2 : w5.cell? ⟨w.heap.size + 1, 2, none⟩ = some (.int .u8 (jb : Int)) := hO4.c 2 2
        have cf2 := hO4.fr 2
        have c3_0 : w5.cell? ⟨w.heap.size, 0, none⟩ = some (.string t1.holder) := hO4.c 3 0
        have c3_1 : w5.cell? ⟨w.heap.size, 1, none⟩ = some (.slice E1 t1.waiting.length e1) := hO4.c 3 1
        have c3_2 : w5.cell? ⟨w.heap.size, 2, none⟩ = some (.slice E2 t1.held.length e2) := hO4.c 3 2
        have c3_3 : w5.cell? ⟨w.heap.size, 3, none⟩ = some (.string t2.holder) := hO4.c 3 3
        have c3_4 : w5.cell? ⟨w.heap.size, 4, none⟩ = some (.slice F1 t2.waiting.length f1) := hO4.c 3 4
        have c3_5 : w5.cell? ⟨w.heap.size, 5, none⟩ = some (.slice F2 t2.held.length f2) := hO4.c 3 5
        have cf3 := hO4.fr 3
        replace k1 : SL S0 w.heap.size wo2.heap.size w5 E1 t1.waiting.length e1 t1.waiting := k1.up hb5
        replace k2 : SL S0 w.heap.size wo2.heap.size w5 E2 t1.held.length e2 t1.held := k2.up hb5
        replace k3 : SL S0 w.heap.size wo2.heap.size w5 F1 t2.waiting.length f1 t2.waiting := k3.up hb5
        replace k4 : SL S0 w.heap.size wo2.heap.size w5 F2 t2.held.length f2 t2.held := k4.up hb5
        replace hsz : wo2.heap.size ≤ w5.heap.size := Nat.le_trans hsz hb5.size
        generalize hlq : (outB t1.waiting j).length = lq at *
        repeat' ((fail_if_success at_builtin); (first | go_skip | go_guarded | go_step))
        generalize hx_ : World.setCell _ _ _ = wo5
        have hO5 : OwnB w wo5 [(wo1.heap.size, [.string p.2.holder, .slice B1 p.2.waiting.length d1, .slice B2 p.2.held.length d2]), (w.heap.size + 1 + 1, [.string bE, .slice none 0 0, .slice none 0 0, .string bE, .slice none 0 0, .slice none 0 0]), (w.heap.size + 1, [.int .u8 (kd : Int), .int .u8 (pl : Int), .int .u8 (jb : Int)]), (w.heap.size, [.string t1.holder, .slice A5 lq c5, .slice E2 t1.held.length e2, .string t2.holder, .slice F1 t2.waiting.length f1, .slice F2 t2.held.length f2])] := by rw [← hx_]; exact hO4.store 3 rfl 1 _
        have zwo5 : w5.heap.size ≤ wo5.heap.size := by rw [← hx_]; simp [World.setCell]
        replace k1 : SL S0 w.heap.size wo2.heap.size wo5 E1 t1.waiting.length e1 t1.waiting := by rw [← hx_]; exact k1.set (by omega) (by omega)
        replace k2 : SL S0 w.heap.size wo2.heap.size wo5 E2 t1.held.length e2 t1.held := by rw [← hx_]; exact k2.set (by omega) (by omega)
        replace k3 : SL S0 w.heap.size wo2.heap.size wo5 F1 t2.waiting.length f1 t2.waiting := by rw [← hx_]; exact k3.set (by omega) (by omega)
        replace k4 : SL S0 w.heap.size wo2.heap.size wo5 F2 t2.held.length f2 t2.held := by rw [← hx_]; exact k4.set (by omega) (by omega)
        replace hsz : wo2.heap.size ≤ wo5.heap.size := by rw [← hx_]; exact szset hsz
        replace n5 : SL S0 w.heap.size wo2.heap.size wo5 A5 lq c5 (outB t1.waiting j) := by rw [← hx_]; exact n5.set (by omega) (by omega)
        clear hx_ c0_0 c0_1 c0_2 cf0 c1_0 c1_1 c1_2 c1_3 c1_4 c1_5 cf1 c2_0 c2_1 c2_2 cf2 c3_0 c3_1 c3_2 c3_3 c3_4 c3_5 cf3 hO4
        have c0_0 : wo5.cell? ⟨wo1.heap.size, 0, none⟩ = some (.string p.2.holder) := hO5.c 0 0
        have c0_1 : wo5.cell? ⟨wo1.heap.size, 1, none⟩ = some (.slice B1 p.2.waiting.length d1) := hO5.c 0 1
        have c0_2 : wo5.cell? ⟨wo1.heap.size, 2, none⟩ = some (.slice B2 p.2.held.length d2) := hO5.c 0 2
        have cf0 := hO5.fr 0
        have c1_0 : wo5.cell? ⟨w.heap.size + 1 + 1, 0, none⟩ = some (.string bE) := hO5.c 1 0
        have c1_1 : wo5.cell? ⟨w.heap.size + 1 + 1, 1, none⟩ = some (.slice none 0 0) := hO5.c 1 1
        have c1_2 : wo5.cell? ⟨w.heap.size + 1 + 1, 2, none⟩ = some (.slice none 0 0) := hO5.c 1 2
        have c1_3 : wo5.cell? ⟨w.heap.size + 1 + 1, 3, none⟩ = some (.string bE) := hO5.c 1 3
        have c1_4 : wo5.cell? ⟨w.heap.size + 1 + 1, 4, none⟩ = some (.slice none 0 0) := hO5.c 1 4
        have c1_5 : wo5.cell? ⟨w.heap.size + 1 + 1, 5, none⟩ = some (.slice none 0 0) := hO5.c 1 5
        have cf1 := hO5.fr 1
        have c2_0 : wo5.cell? ⟨w.heap.size + 1, 0, none⟩ = some (.int .u8 (kd : Int)) := hO5.c 2 0
        have c2_1 : wo5.cell? ⟨w.heap.size + 1, 1, none⟩ = some (.int .u8 (pl : Int)) := hO5.c 2 1
        have c2_2 : wo5.cell? ⟨w.heap.size + 1, 2, none⟩ = some (.int .u8 (jb : Int)) := hO5.c 2 2
        have cf2 := hO5.fr 2
        have c3_0 : wo5.cell? ⟨w.heap.size, 0, none⟩ = some (.string t1.holder) := hO5.c 3 0
        have c3_1 : wo5.cell? ⟨w.heap.size, 1, none⟩ = some (.slice A5 lq c5) := hO5.c 3 1
        have c3_2 : wo5.cell? ⟨w.heap.size, 2, none⟩ = some (.slice E2 t1.held.length e2) := hO5.c 3 2
        have c3_3 : wo5.cell? ⟨w.heap.size, 3, none⟩ = some (.string t2.holder) := hO5.c 3 3
        have c3_4 : wo5.cell? ⟨w.heap.size, 4, none⟩ = some (.slice F1 t2.waiting.length f1) := hO5.c 3 4
        have c3_5 : wo5.cell? ⟨w.heap.size, 5, none⟩ = some (.slice F2 t2.held.length f2) := hO5.c 3 5
        have cf3 := hO5.fr 3
        go_roundw
        case rel =>
          subst hlq
          refine ⟨1, leaveT j t1, t2, A5, c5, E2, e2, F1, f1, F2, f2, by first | rfl | go_num, Or.inr (Or.inl ⟨rfl, by rw [h1.out], h2.out⟩), ?_, ?_, hsz⟩
          · rw [he.out]; exact hO5
          · rw [he.out]; exact ⟨n5, k2, k3, k4⟩
        case measure => (try go_num); (try simp [intOf]); (try omega)
    · skip
      have hwl : t2.waiting.length ≤ 100000 := by rw [h2]; assumption
      cases hv : eqB t2.holder j with
      | true =>
        have q1 : (t2.holder.toList == j.toList) = true := hv
        have he : leaveT j t2 = ⟨bE, outB t2.waiting j, t2.held⟩ := by unfold leaveT; rw [hv] <;> rfl
        clear hv
        replace he := Lib.hid he
        replace h1 := Lib.hid h1
        replace h2 := Lib.hid h2
        go_upto_region 28 with (fail)
        generalize hx_ : World.setCell _ _ _ = wo4
        have hO4 : OwnB w wo4 [(wo1.heap.size, [.string p.2.holder, .slice B1 p.2.waiting.length d1, .slice B2 p.2.held.length d2]), (w.heap.size + 1 + 1, [.string bE, .slice none 0 0, .slice none 0 0, .string bE, .slice none 0 0, .slice none 0 0]), (w.heap.size + 1, [.int .u8 (kd : Int), .int .u8 (pl : Int), .int .u8 (jb : Int)]), (w.heap.size, [.string t1.holder, .slice E1 t1.waiting.length e1, .slice E2 t1.held.length e2, .string bE, .slice F1 t2.waiting.length f1, .slice F2 t2.held.length f2])] := by rw [← hx_]; exact hO3.store 3 rfl 3 _
        have zwo4 : wr.heap.size ≤ wo4.heap.size := by rw [← hx_]; simp [World.setCell]
        replace k1 : SL S0 w.heap.size wo2.heap.size wo4 E1 t1.waiting.length e1 t1.waiting := by rw [← hx_]; exact k1.set (by omega) (by omega)
        replace k2 : SL S0 w.heap.size wo2.heap.size wo4 E2 t1.held.length e2 t1.held := by rw [← hx_]; exact k2.set (by omega) (by omega)
        replace k3 : SL S0 w.heap.size wo2.heap.size wo4 F1 t2.waiting.length f1 t2.waiting := by rw [← hx_]; exact k3.set (by omega) (by omega)
        replace k4 : SL S0 w.heap.size wo2.heap.size wo4 F2 t2.held.length f2 t2.held := by rw [← hx_]; exact k4.set (by omega) (by omega)
        replace hsz : wo2.heap.size ≤ wo4.heap.size := by rw [← hx_]; exact szset hsz
        clear hx_ c0_0 c0_1 c0_2 cf0 c1_0 c1_1 c1_2 c1_3 c1_4 c1_5 cf1 c2_0 c2_1 c2_2 cf2 c3_0 c3_1 c3_2 c3_3 c3_4 c3_5 cf3 hO3
        have c0_0 : wo4.cell? ⟨wo1.heap.size, 0, none⟩ = some (.string p.2.holder) := hO4.c 0 0
        have c0_1 : wo4.cell? ⟨wo1.heap.size, 1, none⟩ = some (.slice B1 p.2.waiting.length d1) := hO4.c 0 1
        have c0_2 : wo4.cell? ⟨wo1.heap.size, 2, none⟩ = some (.slice B2 p.2.held.length d2) := hO4.c 0 2
        have cf0 := hO4.fr 0
        have c1_0 : wo4.cell? ⟨w.heap.size + 1 + 1, 0, none⟩ = some (.string bE) := hO4.c 1 0
        have c1_1 : wo4.cell? ⟨w.heap.size + 1 + 1, 1, none⟩ = some (.slice none 0 0) := hO4.c 1 1
        have c1_2 : wo4.cell? ⟨w.heap.size + 1 + 1, 2, none⟩ = some (.slice none 0 0) := hO4.c 1 2
        have c1_3 : wo4.cell? ⟨w.heap.size + 1 + 1, 3, none⟩ = some (.string bE) := hO4.c 1 3
        have c1_4 : wo4.cell? ⟨w.heap.size + 1 + 1, 4, none⟩ = some (.slice none 0 0) := hO4.c 1 4
        have c1_5 : wo4.cell? ⟨w.heap.size + 1 + 1, 5, none⟩ = some (.slice none 0 0) := hO4.c 1 5
        have cf1 := hO4.fr 1
        have c2_0 : wo4.cell? ⟨w.heap.size + 1, 0, none⟩ = some (.int .u8 (kd : Int)) := hO4.c 2 0
        have c2_1 : wo4.cell? ⟨w.heap.size + 1, 1, none⟩ = some (.int .u8 (pl : Int)) := hO4.c 2 1
        have c2_2 : wo4.cell? ⟨w.heap.size + 1, 2, none⟩ = some (.int .u8 (jb : Int)) := hO4.c 2 2
        have cf2 := hO4.fr 2
        have c3_0 : wo4.cell? ⟨w.heap.size, 0, none⟩ = some (.string t1.holder) := hO4.c 3 0
        have c3_1 : wo4.cell? ⟨w.heap.size, 1, none⟩ = some (.slice E1 t1.waiting.length e1) := hO4.c 3 1
        have c3_2 : wo4.cell? ⟨w.heap.size, 2, none⟩ = some (.slice E2 t1.held.length e2) := hO4.c 3 2
        have c3_3 : wo4.cell? ⟨w.heap.size, 3, none⟩ = some (.string bE) := hO4.c 3 3
        have c3_4 : wo4.cell? ⟨w.heap.size, 4, none⟩ = some (.slice F1 t2.waiting.length f1) := hO4.c 3 4
        have c3_5 : wo4.cell? ⟨w.heap.size, 5, none⟩ = some (.slice F2 t2.held.length f2) := hO4.c 3 5
        have cf3 := hO4.fr 3
        have C := out_any t2.waiting j F1 t2.waiting.length f1 wo4 k3.fin (by omega)
        replace C := Lib.hid C
        repeat' ((fail_if_success at_builtin); (first | go_skip | go_guarded | go_step))
        refine C.out.mono ?_
        clear C
        rintro e w5 ⟨A5, c5, rfl, hb5, hs5⟩
        dsimp only
        have n5 : SL S0 w.heap.size wo2.heap.size w5 A5 (outB t2.waiting j).length c5 (outB t2.waiting j) := SL.new hs5 hsz
        clear hs5
        have zw5 := hb5.size
        have hO5 : OwnB w w5 [(wo1.heap.size, [.string p.2.holder, .slice B1 p.2.waiting.length d1, .slice B2 p.2.held.length d2]), (w.heap.size + 1 + 1, [.string bE, .slice none 0 0, .slice none 0 0, .string bE, .slice none 0 0, .slice none 0 0]), (w.heap.size + 1, [.int .u8 (kd : Int), .int .u8 (pl : Int), .int .u8 (jb : Int)]), (w.heap.size, [.string t1.holder, .slice E1 t1.waiting.length e1, .slice E2 t1.held.length e2, .string bE, .slice F1 t2.waiting.length f1, .slice F2 t2.held.length f2])] := hO4.kept hb5
        clear c0_0 c0_1 c0_2 cf0 c1_0 c1_1 c1_2 c1_3 c1_4 c1_5 cf1 c2_0 c2_1 c2_2 cf2 c3_0 c3_1 c3_2 c3_3 c3_4 c3_5 cf3 hO4
        have c0_0 : w5.cell? ⟨wo1.heap.size, 0, none⟩ = some (.string p.2.holder) := hO5.c 0 0
        have c0_1 : w5.cell? ⟨wo1.heap.size, 1, none⟩ = some (.slice B1 p.2.waiting.length d1) := hO5.c 0 1
        have c0_2 : w5.cell? ⟨wo1.heap.size, 2, none⟩ = some (.slice B2 p.2.held.length d2) := hO5.c 0 2
        have cf0 := hO5.fr 0
        have c1_0 : w5.cell? ⟨w.heap.size + 1 + 1, 0, none⟩ = some (.string bE) := hO5.c 1 0
        have c1_1 : w5.cell? ⟨w.heap.size + 1 + 1, 1, none⟩ = some (.slice none 0 0) := hO5.c 1 1
        have c1_2 : w5.cell? ⟨w.heap.size + 1 + 1, 2, none⟩ = some (.slice none 0 0) := hO5.c 1 2
        have c1_3 : w5.cell? ⟨w.heap.size + 1 + 1, 3, none⟩ = some (.string bE) := hO5.c 1 3
        have c1_4 : w5.cell? ⟨w.heap.size + 1 + 1, 4, none⟩ = some (.slice none 0 0) := hO5.c 1 4
        have c1_5 : w5.cell? ⟨w.heap.size + 1 + 1, 5, none⟩ = some (.slice none 0 0) := hO5.c 1 5
        have cf1 := hO5.fr 1
        have c2_0 : w5.cell? ⟨w.heap.size + 1, 0, none⟩ = some (.int .u8 (kd : Int)) := hO5.c 2 0
        have c2_1 : w5.cell? ⟨w.heap.size + 1, 1, none⟩ = some (.int .u8 (pl : Int)) := hO5.c 2 1
        have c2_2 : w5.cell? ⟨w.heap.size + 1, 2, none⟩ = some (.int .u8 (jb : Int)) := hO5.c 2 2
        have cf2 := hO5.fr 2
        have c3_0 : w5.cell? ⟨w.heap.size, 0, none⟩ = some (.string t1.holder) := hO5.c 3 0
        have c3_1 : w5.cell? ⟨w.heap.size, 1, none⟩ = some (.slice E1 t1.waiting.length e1) := hO5.c 3 1
        have c3_2 : w5.cell? ⟨w.heap.size, 2, none⟩ = some (.slice E2 t1.held.length e2) := hO5.c 3 2
        have c3_3 : w5.cell? ⟨w.heap.size, 3, none⟩ = some (.string bE) := hO5.c 3 3
        have c3_4 : w5.cell? ⟨w.heap.size, 4, none⟩ = some (.slice F1 t2.waiting.length f1) := hO5.c 3 4
        have c3_5 : w5.cell? ⟨w.heap.size, 5, none⟩ = some (.slice F2 t2.held.length f2) := hO5.c 3 5
        have cf3 := hO5.fr 3
        replace k1 : SL S0 w.heap.size wo2.heap.size w5 E1 t1.waiting.length e1 t1.waiting := k1.up hb5
        replace k2 : SL S0 w.heap.size wo2.heap.size w5 E2 t1.held.length e2 t1.held := k2.up hb5
        replace k3 : SL S0 w.heap.size wo2.heap.size w5 F1 t2.waiting.length f1 t2.waiting := k3.up hb5
        replace k4 : SL S0 w.heap.size wo2.heap.size w5 F2 t2.held.length f2 t2.held := k4.up hb5
        replace hsz : wo2.heap.size ≤ w5.heap.size := Nat.le_trans hsz hb5.size
        generalize hlq : (outB t2.waiting j).length = lq at *
        repeat' ((fail_if_success at_builtin); (first | go_skip | go_guarded | go_step))
        generalize hx_ : World.setCell _ _ _ = wo6
        have hO6 : OwnB w wo6 [(wo1.heap.size, [.string p.2.holder, .slice B1 p.2.waiting.length d1, .slice B2 p.2.held.length d2]), (w.heap.size + 1 + 1, [.string bE, .slice none 0 0, .slice none 0 0, .string bE, .slice none 0 0, .slice none 0 0]), (w.heap.size + 1, [.int .u8 (kd : Int), .int .u8 (pl : Int), .int .u8 (jb : Int)]), (w.heap.size, [.string t1.holder, .slice E1 t1.waiting.length e1, .slice E2 t1.held.length e2, .string bE, .slice A5 lq c5, .slice F2 t2.held.length f2])] := by rw [← hx_]; exact hO5.store 3 rfl 4 _
        have zwo6 : w5.heap.size ≤ wo6.heap.size := by rw [← hx_]; simp [World.setCell]
        replace k1 : SL S0 w.heap.size wo2.heap.size wo6 E1 t1.waiting.length e1 t1.waiting := by rw [← hx_]; exact k1.set (by omega) (by omega)
        replace k2 : SL S0 w.heap.size wo2.heap.size wo6 E2 t1.held.length e2 t1.held := by rw [← hx_]; exact k2.set (by omega) (by omega)
        replace k3 : SL S0 w.heap.size wo2.heap.size wo6 F1 t2.waiting.length f1 t2.waiting := by rw [← hx_]; exact k3.set (by omega) (by omega)
        replace k4 : SL S0 w.heap.size wo2.heap.size wo6 F2 t2.held.length f2 t2.held := by rw [← hx_]; exact k4.set (by omega) (by omega)
        replace hsz : wo2.heap.size ≤ wo6.heap.size := by rw [← hx_]; exact szset hsz
        replace n5 : SL S0 w.heap.size wo2.heap.size wo6 A5 lq c5 (outB t2.waiting j) := by rw [← hx_]; exact n5.set (by omega) (by omega)
        clear hx_ c0_0 c0_1 c0_2 cf0 c1_0 c1_1 c1_2 c1_3 c1_4 c1_5 cf1 c2_0 c2_1 c2_2 cf2 c3_0 c3_1 c3_2 c3_3 c3_4 c3_5 cf3 hO5
        have c0_0 : wo6.cell? ⟨wo1.heap.size, 0, none⟩ = some (.string p.2.holder) := hO6.c 0 0
        have c0_1 : wo6.cell? ⟨wo1.heap.size, 1, none⟩ = some (.slice B1 p.2.waiting.length d1) := hO6.c 0 1
        have c0_2 : wo6.cell? ⟨wo1.heap.size, 2, none⟩ = some (.slice B2 p.2.held.length d2) := hO6.c 0 2
        have cf0 := hO6.fr 0
        have c1_0 : wo6.cell? ⟨w.heap.size + 1 + 1, 0, none⟩ = some (.string bE) := hO6.c 1 0
        have c1_1 : wo6.cell? ⟨w.heap.size + 1 + 1, 1, none⟩ = some (.slice none 0 0) := hO6.c 1 1
        have c1_2 : wo6.cell? ⟨w.heap.size + 1 + 1, 2, none⟩ = some (.slice none 0 0) := hO6.c 1 2
        have c1_3 : wo6.cell? ⟨w.heap.size + 1 + 1, 3, none⟩ = some (.string bE) := hO6.c 1 3
        have c1_4 : wo6.cell? ⟨w.heap.size + 1 + 1, 4, none⟩ = some (.slice none 0 0) := hO6.c 1 4
        have c1_5 : wo6.cell? ⟨w.heap.size + 1 + 1, 5, none⟩ = some (.slice none 0 0) := hO6.c 1 5
        have cf1 := hO6.fr 1
        have c2_0 : wo6.cell? ⟨w.heap.size + 1, 0, none⟩ = some (.int .u8 (kd : Int)) := hO6.c 2 0
        have c2_1 : wo6.cell? ⟨w.heap.size + 1, 1, none⟩ = some (.int .u8 (pl : Int)) := hO6.c 2 1
        have c2_2 : wo6.cell? ⟨w.heap.size + 1, 2, none⟩ = some (.int .u8 (jb : Int)) := hO6.c 2 2
        have cf2 := hO6.fr 2
        have c3_0 : wo6.cell? ⟨w.heap.size, 0, none⟩ = some (.string t1.holder) := hO6.c 3 0
        have c3_1 : wo6.cell? ⟨w.heap.size, 1, none⟩ = some (.slice E1 t1.waiting.length e1) := hO6.c 3 1
        have c3_2 : wo6.cell? ⟨w.heap.size, 2, none⟩ = some (.slice E2 t1.held.length e2) := hO6.c 3 2
        have c3_3 : wo6.cell? ⟨w.heap.size, 3, none⟩ = some (.string bE) := hO6.c 3 3
        have c3_4 : wo6.cell? ⟨w.heap.size, 4, none⟩ = some (.slice A5 lq c5) := hO6.c 3 4
        have c3_5 : wo6.cell? ⟨w.heap.size, 5, none⟩ = some (.slice F2 t2.held.length f2) := hO6.c 3 5
        have cf3 := hO6.fr 3
        go_roundw
        case rel =>
          subst hlq
          refine ⟨2, t1, leaveT j t2, E1, e1, E2, e2, A5, c5, F2, f2, by first | rfl | go_num, Or.inr (Or.inr ⟨rfl, h1.out, by rw [h2.out]⟩), ?_, ?_, hsz⟩
          · rw [he.out]; exact hO6
          · rw [he.out]; exact ⟨k1, k2, n5, k4⟩
        case measure => (try go_num); (try simp [intOf]); (try omega)
      | false =>
        have q1 : (t2.holder.toList == j.toList) = false := hv
        have he : leaveT j t2 = ⟨t2.holder, outB t2.waiting j, t2.held⟩ := by unfold leaveT; rw [hv] <;> rfl
        clear hv
        replace he := Lib.hid he
        replace h1 := Lib.hid h1
        replace h2 := Lib.hid h2
        have C := out_any t2.waiting j F1 t2.waiting.length f1 wr k3.fin (by omega)
        replace C := Lib.hid C
        repeat' ((fail_if_success at_builtin); (first | go_skip | go_guarded | go_step))
        refine C.out.mono ?_
        clear C
        rintro e w5 ⟨A5, c5, rfl, hb5, hs5⟩
        dsimp only
        have n5 : SL S0 w.heap.size wo2.heap.size w5 A5 (outB t2.waiting j).length c5 (outB t2.waiting j) := SL.new hs5 hsz
        clear hs5
        have zw5 := hb5.size
        have hO4 : OwnB w w5 [(wo1.heap.size, [.string p.2.holder, .slice B1 p.2.waiting.length d1, .slice B2 p.2.held.length d2]), (w.heap.size + 1 + 1, [.string bE, .slice none 0 0, .slice none 0 0, .string bE, .slice none 0 0, .slice none 0 0]), (w.heap.size + 1, [.int .u8 (kd : Int), .int .u8 (pl : Int), .int .u8 (jb : Int)]), (w.heap.size, [.string t1.holder, .slice E1 t1.waiting.length e1, .slice E2 t1.held.length e2, .string t2.holder, .slice F1 t2.waiting.length f1, .slice F2 t2.held.length f2])] := hO3.kept hb5
        clear c0_0 c0_1 c0_2 cf0 c1_0 c1_1 c1_2 c1_3 c1_4 c1_5 cf1 c2_0 c2_1 c2_2 cf2 c3_0 c3_1 c3_2 c3_3 c3_4 c3_5 cf3 hO3
        have c0_0 : w5.cell? ⟨wo1.heap.size, 0, none⟩ = some (.string p.2.holder) := hO4.c 0 0
        have c0_1 : w5.cell? ⟨wo1.heap.size, 1, none⟩ = some (.slice B1 p.2.waiting.length d1) := hO4.c 0 1
        have c0_2 : w5.cell? ⟨wo1.heap.size, 2, none⟩ = some (.slice B2 p.2.held.length d2) := hO4.c 0 2
        have cf0 := hO4.fr 0
        have c1_0 : w5.cell? ⟨w.heap.size + 1 + 1, 0, none⟩ = some (.string bE) := hO4.c 1 0
        have c1_1 : w5.cell? ⟨w.heap.size + 1 + 1, 1, none⟩ = some (.slice none 0 0) := hO4.c 1 1
        have c1_2 : w5.cell? ⟨w.heap.size + 1 + 1, 2, none⟩ = some (.slice none 0 0) := hO4.c 1 2
        have c1_3 : w5.cell? ⟨w.heap.size + 1 + 1, 3, none⟩ = some (.string bE) := hO4.c 1 3
        have c1_4 : w5.cell? ⟨w.heap.size + 1 + 1, 4, none⟩ = some (.slice none 0 0) := hO4.c 1 4
        have c1_5 : w5.cell? ⟨w.heap.size + 1 + 1, 5, none⟩ = some (.slice none 0 0) := hO4.c 1 5
        have cf1 := hO4.fr 1
        have c2_0 : w5.cell? ⟨w.heap.size + 1, 0, none⟩ = some (.int .u8 (kd : Int)) := hO4.c 2 0
        have c2_1 : w5.cell? ⟨w.heap.size + 1, 1, none⟩ = some (.int .u8 (pl : Int)) := hO4.c 2 1
        have c2_2 : w5.cell? ⟨w.heap.size + 1, 2, none⟩ = some (.int .u8 (jb : Int)) := hO4.c 2 2
        have cf2 := hO4.fr 2
        have c3_0 : w5.cell? ⟨w.heap.size, 0, none⟩ = some (.string t1.holder) := hO4.c 3 0
        have c3_1 : w5.cell? ⟨w.heap.size, 1, none⟩ = some (.slice E1 t1.waiting.length e1) := hO4.c 3 1
        have c3_2 : w5.cell? ⟨w.heap.size, 2, none⟩ = some (.slice E2 t1.held.length e2) := hO4.c 3 2
        have c3_3 : w5.cell? ⟨w.heap.size, 3, none⟩ = some (.string t2.holder) := hO4.c 3 3
        have c3_4 : w5.cell? ⟨w.heap.size, 4, none⟩ = some (.slice F1 t2.waiting.length f1) := hO4.c 3 4
        have c3_5 : w5.cell? ⟨w.heap.size, 5, none⟩ = some (.slice F2 t2.held.length f2) := hO4.c 3 5
        have cf3 := hO4.fr 3
        replace k1 : SL S0 w.heap.size wo2.heap.size w5 E1 t1.waiting.length e1 t1.waiting := k1.up hb5
        replace k2 : SL S0 w.heap.size wo2.heap.size w5 E2 t1.held.length e2 t1.held := k2.up hb5
        replace k3 : SL S0 w.heap.size wo2.heap.size w5 F1 t2.waiting.length f1 t2.waiting := k3.up hb5
        replace k4 : SL S0 w.heap.size wo2.heap.size w5 F2 t2.held.length f2 t2.held := k4.up hb5
        replace hsz : wo2.heap.size ≤ w5.heap.size := Nat.le_trans hsz hb5.size
        generalize hlq : (outB t2.waiting j).length = lq at *
        repeat' ((fail_if_success at_builtin); (first | go_skip | go_guarded | go_step))
        generalize hx_ : World.setCell _ _ _ = wo5
        have hO5 : OwnB w wo5 [(wo1.heap.size, [.string p.2.holder, .slice B1 p.2.waiting.length d1, .slice B2 p.2.held.length d2]), (w.heap.size + 1 + 1, [.string bE, .slice none 0 0, .slice none 0 0, .string bE, .slice none 0 0, .slice none 0 0]), (w.heap.size + 1, [.int .u8 (kd : Int), .int .u8 (pl : Int), .int .u8 (jb : Int)]), (w.heap.size, [.string t1.holder, .slice E1 t1.waiting.length e1, .slice E2 t1.held.length e2, .string t2.holder, .slice A5 lq c5, .slice F2 t2.held.length f2])] := by rw [← hx_]; exact hO4.store 3 rfl 4 _
        have zwo5 : w5.heap.size ≤ wo5.heap.size := by rw [← hx_]; simp [World.setCell]
        replace k1 : SL S0 w.heap.size wo2.heap.size wo5 E1 t1.waiting.length e1 t1.waiting := by rw [← hx_]; exact k1.set (by omega) (by omega)
        replace k2 : SL S0 w.heap.size wo2.heap.size wo5 E2 t1.held.length e2 t1.held := by rw [← hx_]; exact k2.set (by omega) (by omega)
        replace k3 : SL S0 w.heap.size wo2.heap.size wo5 F1 t2.waiting.length f1 t2.waiting := by rw [← hx_]; exact k3.set (by omega) (by omega)
        replace k4 : SL S0 w.heap.size wo2.heap.size wo5 F2 t2.held.length f2 t2.held := by rw [← hx_]; exact k4.set (by omega) (by omega)
        replace hsz : wo2.heap.size ≤ wo5.heap.size := by rw [← hx_]; exact szset hsz
        replace n5 : SL S0 w.heap.size wo2.heap.size wo5 A5 lq c5 (outB t2.waiting j) := by rw [← hx_]; exact n5.set (by omega) (by omega)
        clear hx_ c0_0 c0_1 c0_2 cf0 c1_0 c1_1 c1_2 c1_3 c1_4 c1_5 cf1 c2_0 c2_1 c2_2 cf2 c3_0 c3_1 c3_2 c3_3 c3_4 c3_5 cf3 hO4
        have c0_0 : wo5.cell? ⟨wo1.heap.size, 0, none⟩ = some (.string p.2.holder) := hO5.c 0 0
        have c0_1 : wo5.cell? ⟨wo1.heap.size, 1, none⟩ = some (.slice B1 p.2.waiting.length d1) := hO5.c 0 1
        have c0_2 : wo5.cell? ⟨wo1.heap.size, 2, none⟩ = some (.slice B2 p.2.held.length d2) := hO5.c 0 2
        have cf0 := hO5.fr 0
        have c1_0 : wo5.cell? ⟨w.heap.size + 1 + 1, 0, none⟩ = some (.string bE) := hO5.c 1 0
        have c1_1 : wo5.cell? ⟨w.heap.size + 1 + 1, 1, none⟩ = some (.slice none 0 0) := hO5.c 1 1
        have c1_2 : wo5.cell? ⟨w.heap.size + 1 + 1, 2, none⟩ = some (.slice none 0 0) := hO5.c 1 2
        have c1_3 : wo5.cell? ⟨w.heap.size + 1 + 1, 3, none⟩ = some (.string bE) := hO5.c 1 3
        have c1_4 : wo5.cell? ⟨w.heap.size + 1 + 1, 4, none⟩ = some (.slice none 0 0) := hO5.c 1 4
        have c1_5 : wo5.cell? ⟨w.heap.size + 1 + 1, 5, none⟩ = some (.slice none 0 0) := hO5.c 1 5
        have cf1 := hO5.fr 1
        have c2_0 : wo5.cell? ⟨w.heap.size + 1, 0, none⟩ = some (.int .u8 (kd : Int)) := hO5.c 2 0
        have c2_1 : wo5.cell? ⟨w.heap.size + 1, 1, none⟩ = some (.int .u8 (pl : Int)) := hO5.c 2 1
        have c2_2 : wo5.cell? ⟨w.heap.size + 1, 2, none⟩ = some (.int .u8 (jb : Int)) := hO5.c 2 2
        have cf2 := hO5.fr 2
        have c3_0 : wo5.cell? ⟨w.heap.size, 0, none⟩ = some (.string t1.holder) := hO5.c 3 0
        have c3_1 : wo5.cell? ⟨w.heap.size, 1, none⟩ = some (.slice E1 t1.waiting.length e1) := hO5.c 3 1
        have c3_2 : wo5.cell? ⟨w.heap.size, 2, none⟩ = some (.slice E2 t1.held.length e2) := hO5.c 3 2
        have c3_3 : wo5.cell? ⟨w.heap.size, 3, none⟩ = some (.string t2.holder) := hO5.c 3 3
        have c3_4 : wo5.cell? ⟨w.heap.size, 4, none⟩ = some (.slice A5 lq c5) := hO5.c 3 4
        have c3_5 : wo5.cell? ⟨w.heap.size, 5, none⟩ = some (.slice F2 t2.held.length f2) := hO5.c 3 5
        have cf3 := hO5.fr 3
        go_roundw
        case rel =>
          subst hlq
          refine ⟨2, t1, leaveT j t2, E1, e1, E2, e2, A5, c5, F2, f2, by first | rfl | go_num, Or.inr (Or.inr ⟨rfl, h1.out, by rw [h2.out]⟩), ?_, ?_, hsz⟩
          · rw [he.out]; exact hO5
          · rw [he.out]; exact ⟨k1, k2, n5, k4⟩
        case measure => (try go_num); (try simp [intOf]); (try omega)
    · have hm : expT 3 true j p = ((t1, t2), true) := by rw [h1, h2]; rfl
      clear h1 h2
      repeat' ((fail_if_success at_builtin); (first | go_skip | go_guarded | go_step))
      generalize hx_ : World.setCell (World.setCell (World.setCell (World.setCell (World.setCell (World.setCell _ _ _) _ _) _ _) _ _) _ _) _ _ = wo4
      have hO4 : OwnB w wo4 [(wo1.heap.size, [.string p.2.holder, .slice B1 p.2.waiting.length d1, .slice B2 p.2.held.length d2]), (w.heap.size + 1 + 1, [.string t1.holder, .slice E1 t1.waiting.length e1, .slice E2 t1.held.length e2, .string t2.holder, .slice F1 t2.waiting.length f1, .slice F2 t2.held.length f2]), (w.heap.size + 1, [.int .u8 (kd : Int), .int .u8 (pl : Int), .int .u8 (jb : Int)]), (w.heap.size, [.string t1.holder, .slice E1 t1.waiting.length e1, .slice E2 t1.held.length e2, .string t2.holder, .slice F1 t2.waiting.length f1, .slice F2 t2.held.length f2])] := by rw [← hx_]; exact (((((hO3.store 1 rfl 0 _).store 1 rfl 1 _).store 1 rfl 2 _).store 1 rfl 3 _).store 1 rfl 4 _).store 1 rfl 5 _
      have zwo4 : wr.heap.size ≤ wo4.heap.size := by rw [← hx_]; simp [World.setCell]
      replace k1 : SL S0 w.heap.size wo2.heap.size wo4 E1 t1.waiting.length e1 t1.waiting := by rw [← hx_]; exact ((((((k1.set (by omega) (by omega)).set (by omega) (by omega)).set (by omega) (by omega)).set (by omega) (by omega)).set (by omega) (by omega)).set (by omega) (by omega))
      replace k2 : SL S0 w.heap.size wo2.heap.size wo4 E2 t1.held.length e2 t1.held := by rw [← hx_]; exact ((((((k2.set (by omega) (by omega)).set (by omega) (by omega)).set (by omega) (by omega)).set (by omega) (by omega)).set (by omega) (by omega)).set (by omega) (by omega))
      replace k3 : SL S0 w.heap.size wo2.heap.size wo4 F1 t2.waiting.length f1 t2.waiting := by rw [← hx_]; exact ((((((k3.set (by omega) (by omega)).set (by omega) (by omega)).set (by omega) (by omega)).set (by omega) (by omega)).set (by omega) (by omega)).set (by omega) (by omega))
      replace k4 : SL S0 w.heap.size wo2.heap.size wo4 F2 t2.held.length f2 t2.held := by rw [← hx_]; exact ((((((k4.set (by omega) (by omega)).set (by omega) (by omega)).set (by omega) (by omega)).set (by omega) (by omega)).set (by omega) (by omega)).set (by omega) (by omega))
      replace hsz : wo2.heap.size ≤ wo4.heap.size := by rw [← hx_]; exact (szset (szset (szset (szset (szset (szset hsz))))))
      clear hx_ c0_0 c0_1 c0_2 cf0 c1_0 c1_1 c1_2 c1_3 c1_4 c1_5 cf1 c2_0 c2_1 c2_2 cf2 c3_0 c3_1 c3_2 c3_3 c3_4 c3_5 cf3 hO3
      have c0_0 : wo4.cell? ⟨wo1.heap.size, 0, none⟩ = some (.string p.2.holder) := hO4.c 0 0
      have c0_1 : wo4.cell? ⟨wo1.heap.size, 1, none⟩ = some (.slice B1 p.2.waiting.length d1) := hO4.c 0 1
      have c0_2 : wo4.cell? ⟨wo1.heap.size, 2, none⟩ = some (.slice B2 p.2.held.length d2) := hO4.c 0 2
      have cf0 := hO4.fr 0
      have c1_0 : wo4.cell? ⟨w.heap.size + 1 + 1, 0, none⟩ = some (.string t1.holder) := hO4.c 1 0
      have c1_1 : wo4.cell? ⟨w.heap.size + 1 + 1, 1, none⟩ = some (.slice E1 t1.waiting.length e1) := hO4.c 1 1
      have c1_2 : wo4.cell? ⟨w.heap.size + 1 + 1, 2, none⟩ = some (.slice E2 t1.held.length e2) := hO4.c 1 2
      have c1_3 : wo4.cell? ⟨w.heap.size + 1 + 1, 3, none⟩ = some (.string t2.holder) := hO4.c 1 3
      have c1_4 : wo4.cell? ⟨w.heap.size + 1 + 1, 4, none⟩ = some (.slice F1 t2.waiting.length f1) := hO4.c 1 4
      have c1_5 : wo4.cell? ⟨w.heap.size + 1 + 1, 5, none⟩ = some (.slice F2 t2.held.length f2) := hO4.c 1 5
      have cf1 := hO4.fr 1
      have c2_0 : wo4.cell? ⟨w.heap.size + 1, 0, none⟩ = some (.int .u8 (kd : Int)) := hO4.c 2 0
      have c2_1 : wo4.cell? ⟨w.heap.size + 1, 1, none⟩ = some (.int .u8 (pl : Int)) := hO4.c 2 1
      have c2_2 : wo4.cell? ⟨w.heap.size + 1, 2, none⟩ = some (.int .u8 (jb : Int)) := hO4.c 2 2
      have cf2 := hO4.fr 2
      have c3_0 : wo4.cell? ⟨w.heap.size, 0, none⟩ = some (.string t1.holder) := hO4.c 3 0
      have c3_1 : wo4.cell? ⟨w.heap.size, 1, none⟩ = some (.slice E1 t1.waiting.length e1) := hO4.c 3 1
      have c3_2 : wo4.cell? ⟨w.heap.size, 2, none⟩ = some (.slice E2 t1.held.length e2) := hO4.c 3 2
      have c3_3 : wo4.cell? ⟨w.heap.size, 3, none⟩ = some (.string t2.holder) := hO4.c 3 3
      have c3_4 : wo4.cell? ⟨w.heap.size, 4, none⟩ = some (.slice F1 t2.waiting.length f1) := hO4.c 3 4
      have c3_5 : wo4.cell? ⟨w.heap.size, 5, none⟩ = some (.slice F2 t2.held.length f2) := hO4.c 3 5
      have cf3 := hO4.fr 3
      refine bodyPost_ret (v := .tuple #[.agg #[.string t1.holder, .slice E1 t1.waiting.length e1, .slice E2 t1.held.length e2, .string t2.holder, .slice F1 t2.waiting.length f1, .slice F2 t2.held.length f2], .bool true]) (by simp only [results, Tryd.results24]; go_simp; first | done | exact ⟨rfl, rfl, rfl⟩ | rfl) rfl ?_
      have hq : Q = expT 3 true j p := by first | exact hQ.out | exact hQ
      clear hQ
      subst hq
      exact ⟨E1, e1, E2, e2, F1, f1, F2, f2, by rw [hm] <;> first | rfl | simp, hO4.below, by rw [hm]; exact ⟨k1.out (by omega), k2.out (by omega), k3.out (by omega), k4.out (by omega)⟩⟩
end Go.Proofs.YtennhjkhjplmoaaDoor
