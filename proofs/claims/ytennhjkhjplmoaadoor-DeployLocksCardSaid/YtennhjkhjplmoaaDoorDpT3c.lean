/- Deploy: Locks: expected: kind 2. -/
import Derived.Test.YtennhjkhjplmoaaDoorDpT3p
namespace Go.Proofs.YtennhjkhjplmoaaDoor
open Go.RowKit
set_option maxRecDepth 100000 in
set_option maxHeartbeats 4000000 in
theorem exp20_any (kd pl jb : Nat) (p : Turn × Turn) (A1 : Option Addr) (c1 : Nat) (A2 : Option Addr) (c2 : Nat) (B1 : Option Addr) (d1 : Nat) (B2 : Option Addr) (d2 : Nat) (j : ByteArray) (w : World) (S0 : Nat → Prop) (hS0 : ∀ x, S0 x → x < w.heap.size) (h : TwoS S0 w p A1 c1 A2 c2 B1 d1 B2 d2) (_hl1 : p.1.waiting.length ≤ 100000) (_hl2 : p.2.waiting.length ≤ 100000) (_hl3 : p.1.held.length ≤ 100000) (_hl4 : p.2.held.length ≤ 100000) (hkd : (kd : Int).tmod 4 = 2) (hpl : (wrap64 (pl : Int)).tmod 2 = 0) (Q : (Turn × Turn) × Bool) (hQ : Q = expT 2 false j p) :
    Calls Tryd.prog 24 #[.agg #[.string p.1.holder, .slice A1 p.1.waiting.length c1, .slice A2 p.1.held.length c2, .string p.2.holder, .slice B1 p.2.waiting.length d1, .slice B2 p.2.held.length d2], .agg #[.int .u8 (kd : Int), .int .u8 (pl : Int), .int .u8 (jb : Int)], .string j] w fun e w' => ∃ (A1' : Option Addr) (c1' : Nat) (A2' : Option Addr) (c2' : Nat) (B1' : Option Addr) (d1' : Nat) (B2' : Option Addr) (d2' : Nat), e = .returned (.tuple #[.agg #[.string Q.1.1.holder, .slice A1' Q.1.1.waiting.length c1', .slice A2' Q.1.1.held.length c2', .string Q.1.2.holder, .slice B1' Q.1.2.waiting.length d1', .slice B2' Q.1.2.held.length d2'], .bool Q.2]) ∧ Below w.heap.size w w' ∧ TwoS (fun x => x < w'.heap.size ∧ (S0 x ∨ w.heap.size ≤ x)) w' Q.1 A1' c1' A2' c2' B1' d1' B2' d2' := by
  go_enter Tryd.func24, Tryd.ntmps24
  go_upto_region 1 with (fail)
  generalize hx_ : World.alloc (World.alloc (World.alloc w _) _) _ = wo1
  have hO1 : OwnB w wo1 [(w.heap.size + 1 + 1, [.string bE, .slice none 0 0, .slice none 0 0, .string bE, .slice none 0 0, .slice none 0 0]), (w.heap.size + 1, [.int .u8 (kd : Int), .int .u8 (pl : Int), .int .u8 (jb : Int)]), (w.heap.size, [.string p.1.holder, .slice A1 p.1.waiting.length c1, .slice A2 p.1.held.length c2, .string p.2.holder, .slice B1 p.2.waiting.length d1, .slice B2 p.2.held.length d2])] := by rw [← hx_]; exact (((OwnB.refl w).new #[.string p.1.holder, .slice A1 p.1.waiting.length c1, .slice A2 p.1.held.length c2, .string p.2.holder, .slice B1 p.2.waiting.length d1, .slice B2 p.2.held.length d2] _ (g := w.heap.size)).new #[.int .u8 (kd : Int), .int .u8 (pl : Int), .int .u8 (jb : Int)] _ (g := w.heap.size + 1)).new #[.string bE, .slice none 0 0, .slice none 0 0, .string bE, .slice none 0 0, .slice none 0 0] _ (g := w.heap.size + 1 + 1)
  have hbn : Below w.heap.size w wo1 := by rw [← hx_]; exact (((Below.refl _ _).alloc (Nat.le_refl _) _).alloc (by simp) _).alloc (by simp; omega) _
  have zwo1 : w.heap.size + 2 < wo1.heap.size := by rw [← hx_]; simp <;> omega
  clear hx_
  have c0_0 : wo1.cell? ⟨w.heap.size + 1 + 1, 0, none⟩ = some (.string bE) := hO1.c 0 0
  have c0_1 : wo1.cell? ⟨w.heap.size + 1 + 1, 1, none⟩ = some (.slice none 0 0) := hO1.c 0 1
  have c0_2 : wo1.cell? ⟨w.heap.size + 1 + 1, 2, none⟩ = some (.slice none 0 0) := hO1.c 0 2
  have c0_3 : wo1.cell? ⟨w.heap.size + 1 + 1, 3, none⟩ = some (.string bE) := hO1.c 0 3
  have c0_4 : wo1.cell? ⟨w.heap.size + 1 + 1, 4, none⟩ = some (.slice none 0 0) := hO1.c 0 4
  have c0_5 : wo1.cell? ⟨w.heap.size + 1 + 1, 5, none⟩ = some (.slice none 0 0) := hO1.c 0 5
  have cf0 := hO1.fr 0
  have c1_0 : wo1.cell? ⟨w.heap.size + 1, 0, none⟩ = some (.int .u8 (kd : Int)) := hO1.c 1 0
  have c1_1 : wo1.cell? ⟨w.heap.size + 1, 1, none⟩ = some (.int .u8 (pl : Int)) := hO1.c 1 1
  have c1_2 : wo1.cell? ⟨w.heap.size + 1, 2, none⟩ = some (.int .u8 (jb : Int)) := hO1.c 1 2
  have cf1 := hO1.fr 1
  have c2_0 : wo1.cell? ⟨w.heap.size, 0, none⟩ = some (.string p.1.holder) := hO1.c 2 0
  have c2_1 : wo1.cell? ⟨w.heap.size, 1, none⟩ = some (.slice A1 p.1.waiting.length c1) := hO1.c 2 1
  have c2_2 : wo1.cell? ⟨w.heap.size, 2, none⟩ = some (.slice A2 p.1.held.length c2) := hO1.c 2 2
  have c2_3 : wo1.cell? ⟨w.heap.size, 3, none⟩ = some (.string p.2.holder) := hO1.c 2 3
  have c2_4 : wo1.cell? ⟨w.heap.size, 4, none⟩ = some (.slice B1 p.2.waiting.length d1) := hO1.c 2 4
  have c2_5 : wo1.cell? ⟨w.heap.size, 5, none⟩ = some (.slice B2 p.2.held.length d2) := hO1.c 2 5
  have cf2 := hO1.fr 2
  clear hbn
  go_upto_region 3 with (fail)
  generalize hx_ : World.alloc wo1 _ = wo2
  have hO2 : OwnB w wo2 [(wo1.heap.size, [.string p.1.holder, .slice A1 p.1.waiting.length c1, .slice A2 p.1.held.length c2]), (w.heap.size + 1 + 1, [.string bE, .slice none 0 0, .slice none 0 0, .string bE, .slice none 0 0, .slice none 0 0]), (w.heap.size + 1, [.int .u8 (kd : Int), .int .u8 (pl : Int), .int .u8 (jb : Int)]), (w.heap.size, [.string p.1.holder, .slice A1 p.1.waiting.length c1, .slice A2 p.1.held.length c2, .string p.2.holder, .slice B1 p.2.waiting.length d1, .slice B2 p.2.held.length d2])] := by rw [← hx_]; exact hO1.new #[.string p.1.holder, .slice A1 p.1.waiting.length c1, .slice A2 p.1.held.length c2] _ (g := wo1.heap.size)
  have hbn : Below wo1.heap.size wo1 wo2 := by rw [← hx_]; exact (Below.refl _ _).alloc (Nat.le_refl _) _
  have zwo2 : wo1.heap.size + 0 < wo2.heap.size := by rw [← hx_]; simp <;> omega
  clear hx_ c0_0 c0_1 c0_2 c0_3 c0_4 c0_5 cf0 c1_0 c1_1 c1_2 cf1 c2_0 c2_1 c2_2 c2_3 c2_4 c2_5 cf2 hO1
  have c0_0 : wo2.cell? ⟨wo1.heap.size, 0, none⟩ = some (.string p.1.holder) := hO2.c 0 0
  have c0_1 : wo2.cell? ⟨wo1.heap.size, 1, none⟩ = some (.slice A1 p.1.waiting.length c1) := hO2.c 0 1
  have c0_2 : wo2.cell? ⟨wo1.heap.size, 2, none⟩ = some (.slice A2 p.1.held.length c2) := hO2.c 0 2
  have cf0 := hO2.fr 0
  have c1_0 : wo2.cell? ⟨w.heap.size + 1 + 1, 0, none⟩ = some (.string bE) := hO2.c 1 0
  have c1_1 : wo2.cell? ⟨w.heap.size + 1 + 1, 1, none⟩ = some (.slice none 0 0) := hO2.c 1 1
  have c1_2 : wo2.cell? ⟨w.heap.size + 1 + 1, 2, none⟩ = some (.slice none 0 0) := hO2.c 1 2
  have c1_3 : wo2.cell? ⟨w.heap.size + 1 + 1, 3, none⟩ = some (.string bE) := hO2.c 1 3
  have c1_4 : wo2.cell? ⟨w.heap.size + 1 + 1, 4, none⟩ = some (.slice none 0 0) := hO2.c 1 4
  have c1_5 : wo2.cell? ⟨w.heap.size + 1 + 1, 5, none⟩ = some (.slice none 0 0) := hO2.c 1 5
  have cf1 := hO2.fr 1
  have c2_0 : wo2.cell? ⟨w.heap.size + 1, 0, none⟩ = some (.int .u8 (kd : Int)) := hO2.c 2 0
  have c2_1 : wo2.cell? ⟨w.heap.size + 1, 1, none⟩ = some (.int .u8 (pl : Int)) := hO2.c 2 1
  have c2_2 : wo2.cell? ⟨w.heap.size + 1, 2, none⟩ = some (.int .u8 (jb : Int)) := hO2.c 2 2
  have cf2 := hO2.fr 2
  have c3_0 : wo2.cell? ⟨w.heap.size, 0, none⟩ = some (.string p.1.holder) := hO2.c 3 0
  have c3_1 : wo2.cell? ⟨w.heap.size, 1, none⟩ = some (.slice A1 p.1.waiting.length c1) := hO2.c 3 1
  have c3_2 : wo2.cell? ⟨w.heap.size, 2, none⟩ = some (.slice A2 p.1.held.length c2) := hO2.c 3 2
  have c3_3 : wo2.cell? ⟨w.heap.size, 3, none⟩ = some (.string p.2.holder) := hO2.c 3 3
  have c3_4 : wo2.cell? ⟨w.heap.size, 4, none⟩ = some (.slice B1 p.2.waiting.length d1) := hO2.c 3 4
  have c3_5 : wo2.cell? ⟨w.heap.size, 5, none⟩ = some (.slice B2 p.2.held.length d2) := hO2.c 3 5
  have cf3 := hO2.fr 3
  clear hbn
  have hbz := hO2.below
  have k1 : SL S0 w.heap.size wo2.heap.size wo2 A1 p.1.waiting.length c1 p.1.waiting := SL.old h.w1 hS0 hbz
  have k2 : SL S0 w.heap.size wo2.heap.size wo2 A2 p.1.held.length c2 p.1.held := SL.old h.h1 hS0 hbz
  have k3 : SL S0 w.heap.size wo2.heap.size wo2 B1 p.2.waiting.length d1 p.2.waiting := SL.old h.w2 hS0 hbz
  have k4 : SL S0 w.heap.size wo2.heap.size wo2 B2 p.2.held.length d2 p.2.held := SL.old h.h2 hS0 hbz
  have hsz : wo2.heap.size ≤ wo2.heap.size := Nat.le_refl _
  clear h hbz
  have hm0 : expT 2 false j p = (if eqB p.1.holder j = true then ((⟨bE, p.1.waiting, p.1.held⟩, p.2), true) else if eqB p.2.holder j = true then ((p.1, ⟨bE, p.2.waiting, p.2.held⟩), true) else (p, false)) := rfl
  cases h1 : eqB p.1.holder j with
  | true =>
    have hm : expT 2 false j p = ((⟨bE, p.1.waiting, p.1.held⟩, p.2), true) := by rw [hm0, h1] <;> rfl
    have q1 : (p.1.holder.toList == j.toList) = true := h1
    clear h1 hm0
    go_upto_region 20 with (fail)
    go_upto_region 21 with (fail)
    generalize hx_ : World.setCell (World.setCell (World.setCell _ _ _) _ _) _ _ = wo3
    have hO3 : OwnB w wo3 [(wo1.heap.size, [.string p.1.holder, .slice A1 p.1.waiting.length c1, .slice A2 p.1.held.length c2]), (w.heap.size + 1 + 1, [.string bE, .slice none 0 0, .slice none 0 0, .string bE, .slice none 0 0, .slice none 0 0]), (w.heap.size + 1, [.int .u8 (kd : Int), .int .u8 (pl : Int), .int .u8 (jb : Int)]), (w.heap.size, [.string p.1.holder, .slice A1 p.1.waiting.length c1, .slice A2 p.1.held.length c2, .string p.2.holder, .slice B1 p.2.waiting.length d1, .slice B2 p.2.held.length d2])] := by rw [← hx_]; exact ((hO2.store 0 rfl 0 _).store 0 rfl 1 _).store 0 rfl 2 _
    have zwo3 : wo2.heap.size ≤ wo3.heap.size := by rw [← hx_]; simp [World.setCell]
    replace k1 : SL S0 w.heap.size wo2.heap.size wo3 A1 p.1.waiting.length c1 p.1.waiting := by rw [← hx_]; exact (((k1.set (by omega) (by omega)).set (by omega) (by omega)).set (by omega) (by omega))
    replace k2 : SL S0 w.heap.size wo2.heap.size wo3 A2 p.1.held.length c2 p.1.held := by rw [← hx_]; exact (((k2.set (by omega) (by omega)).set (by omega) (by omega)).set (by omega) (by omega))
    replace k3 : SL S0 w.heap.size wo2.heap.size wo3 B1 p.2.waiting.length d1 p.2.waiting := by rw [← hx_]; exact (((k3.set (by omega) (by omega)).set (by omega) (by omega)).set (by omega) (by omega))
    replace k4 : SL S0 w.heap.size wo2.heap.size wo3 B2 p.2.held.length d2 p.2.held := by rw [← hx_]; exact (((k4.set (by omega) (by omega)).set (by omega) (by omega)).set (by omega) (by omega))
    replace hsz : wo2.heap.size ≤ wo3.heap.size := by rw [← hx_]; exact (szset (szset (szset hsz)))
    clear hx_ c0_0 c0_1 c0_2 cf0 c1_0 c1_1 c1_2 c1_3 c1_4 c1_5 cf1 c2_0 c2_1 c2_2 cf2 c3_0 c3_1 c3_2 c3_3 c3_4 c3_5 cf3 hO2
    have c0_0 : wo3.cell? ⟨wo1.heap.size, 0, none⟩ = some (.string p.1.holder) := hO3.c 0 0
    have c0_1 : wo3.cell? ⟨wo1.heap.size, 1, none⟩ = some (.slice A1 p.1.waiting.length c1) := hO3.c 0 1
    have c0_2 : wo3.cell? ⟨wo1.heap.size, 2, none⟩ = some (.slice A2 p.1.held.length c2) := hO3.c 0 2
    have cf0 := hO3.fr 0
    have c1_0 : wo3.cell? ⟨w.heap.size + 1 + 1, 0, none⟩ = some (.string bE) := hO3.c 1 0
    have c1_1 : wo3.cell? ⟨w.heap.size + 1 + 1, 1, none⟩ = some (.slice none 0 0) := hO3.c 1 1
    have c1_2 : wo3.cell? ⟨w.heap.size + 1 + 1, 2, none⟩ = some (.slice none 0 0) := hO3.c 1 2
    have c1_3 : wo3.cell? ⟨w.heap.size + 1 + 1, 3, none⟩ = some (.string bE) := hO3.c 1 3
    have c1_4 : wo3.cell? ⟨w.heap.size + 1 + 1, 4, none⟩ = some (.slice none 0 0) := hO3.c 1 4
    have c1_5 : wo3.cell? ⟨w.heap.size + 1 + 1, 5, none⟩ = some (.slice none 0 0) := hO3.c 1 5
    have cf1 := hO3.fr 1
    have c2_0 : wo3.cell? ⟨w.heap.size + 1, 0, none⟩ = some (.int .u8 (kd : Int)) := hO3.c 2 0
    have c2_1 : wo3.cell? ⟨w.heap.size + 1, 1, none⟩ = some (.int .u8 (pl : Int)) := hO3.c 2 1
    have c2_2 : wo3.cell? ⟨w.heap.size + 1, 2, none⟩ = some (.int .u8 (jb : Int)) := hO3.c 2 2
    have cf2 := hO3.fr 2
    have c3_0 : wo3.cell? ⟨w.heap.size, 0, none⟩ = some (.string p.1.holder) := hO3.c 3 0
    have c3_1 : wo3.cell? ⟨w.heap.size, 1, none⟩ = some (.slice A1 p.1.waiting.length c1) := hO3.c 3 1
    have c3_2 : wo3.cell? ⟨w.heap.size, 2, none⟩ = some (.slice A2 p.1.held.length c2) := hO3.c 3 2
    have c3_3 : wo3.cell? ⟨w.heap.size, 3, none⟩ = some (.string p.2.holder) := hO3.c 3 3
    have c3_4 : wo3.cell? ⟨w.heap.size, 4, none⟩ = some (.slice B1 p.2.waiting.length d1) := hO3.c 3 4
    have c3_5 : wo3.cell? ⟨w.heap.size, 5, none⟩ = some (.slice B2 p.2.held.length d2) := hO3.c 3 5
    have cf3 := hO3.fr 3
    go_upto_region 30 with (fail)
    generalize hx_ : World.setCell _ _ _ = wo4
    have hO4 : OwnB w wo4 [(wo1.heap.size, [.string bE, .slice A1 p.1.waiting.length c1, .slice A2 p.1.held.length c2]), (w.heap.size + 1 + 1, [.string bE, .slice none 0 0, .slice none 0 0, .string bE, .slice none 0 0, .slice none 0 0]), (w.heap.size + 1, [.int .u8 (kd : Int), .int .u8 (pl : Int), .int .u8 (jb : Int)]), (w.heap.size, [.string p.1.holder, .slice A1 p.1.waiting.length c1, .slice A2 p.1.held.length c2, .string p.2.holder, .slice B1 p.2.waiting.length d1, .slice B2 p.2.held.length d2])] := by rw [← hx_]; exact hO3.store 0 rfl 0 _
    have zwo4 : wo3.heap.size ≤ wo4.heap.size := by rw [← hx_]; simp [World.setCell]
    replace k1 : SL S0 w.heap.size wo2.heap.size wo4 A1 p.1.waiting.length c1 p.1.waiting := by rw [← hx_]; exact k1.set (by omega) (by omega)
    replace k2 : SL S0 w.heap.size wo2.heap.size wo4 A2 p.1.held.length c2 p.1.held := by rw [← hx_]; exact k2.set (by omega) (by omega)
    replace k3 : SL S0 w.heap.size wo2.heap.size wo4 B1 p.2.waiting.length d1 p.2.waiting := by rw [← hx_]; exact k3.set (by omega) (by omega)
    replace k4 : SL S0 w.heap.size wo2.heap.size wo4 B2 p.2.held.length d2 p.2.held := by rw [← hx_]; exact k4.set (by omega) (by omega)
    replace hsz : wo2.heap.size ≤ wo4.heap.size := by rw [← hx_]; exact szset hsz
    clear hx_ c0_0 c0_1 c0_2 cf0 c1_0 c1_1 c1_2 c1_3 c1_4 c1_5 cf1 c2_0 c2_1 c2_2 cf2 c3_0 c3_1 c3_2 c3_3 c3_4 c3_5 cf3 hO3
    have c0_0 : wo4.cell? ⟨wo1.heap.size, 0, none⟩ = some (.string bE) := hO4.c 0 0
    have c0_1 : wo4.cell? ⟨wo1.heap.size, 1, none⟩ = some (.slice A1 p.1.waiting.length c1) := hO4.c 0 1
    have c0_2 : wo4.cell? ⟨wo1.heap.size, 2, none⟩ = some (.slice A2 p.1.held.length c2) := hO4.c 0 2
    have cf0 := hO4.fr 0
    have c1_0 : wo4.cell? ⟨w.heap.size + 1 + 1, 0, none⟩ = some (.string bE) := hO4.c 1 0
    have c1_1 : wo4.cell? ⟨w.heap.size + 1 + 1, 1, none⟩ = some (.slice none 0 0) := hO4.c 1 1
    have c1_2 : wo4.cell? ⟨w.heap.size + 1 + 1, 2, none⟩ = some (.slice none 0 0) := hO4.c 1 2
    have c1_3 : wo4.cell? ⟨w.heap.size + 1 + 1, 3, none⟩ = some (.string bE) := hO4.c 1 3
    have c1_4 : wo4.cell? ⟨w.heap.size + 1 + 1, 4, none⟩ = some (.slice none 0 0) := hO4.c 1 4
    have c1_5 : wo4.cell? ⟨w.heap.size + 1 + 1, 5, none⟩ = some (.slice none 0 0) := hO4.c 1 5
    have cf1 := hO4.fr 1
    have c2_0 : wo4.cell? ⟨w.heap.size + 1, 0, none⟩ = some (.int .u8 (kd : Int)) := hO4.c 2 0
    have c2_1 : wo4.cell? ⟨w.heap.size + 1, 1, none⟩ = some (.int .u8 (pl : Int)) := hO4.c 2 1
    have c2_2 : wo4.cell? ⟨w.heap.size + 1, 2, none⟩ = some (.int .u8 (jb : Int)) := hO4.c 2 2
    have cf2 := hO4.fr 2
    have c3_0 : wo4.cell? ⟨w.heap.size, 0, none⟩ = some (.string p.1.holder) := hO4.c 3 0
    have c3_1 : wo4.cell? ⟨w.heap.size, 1, none⟩ = some (.slice A1 p.1.waiting.length c1) := hO4.c 3 1
    have c3_2 : wo4.cell? ⟨w.heap.size, 2, none⟩ = some (.slice A2 p.1.held.length c2) := hO4.c 3 2
    have c3_3 : wo4.cell? ⟨w.heap.size, 3, none⟩ = some (.string p.2.holder) := hO4.c 3 3
    have c3_4 : wo4.cell? ⟨w.heap.size, 4, none⟩ = some (.slice B1 p.2.waiting.length d1) := hO4.c 3 4
    have c3_5 : wo4.cell? ⟨w.heap.size, 5, none⟩ = some (.slice B2 p.2.held.length d2) := hO4.c 3 5
    have cf3 := hO4.fr 3
    go_upto_region 31 with (fail)
    generalize hx_ : World.setCell (World.setCell (World.setCell _ _ _) _ _) _ _ = wo5
    have hO5 : OwnB w wo5 [(wo1.heap.size, [.string bE, .slice A1 p.1.waiting.length c1, .slice A2 p.1.held.length c2]), (w.heap.size + 1 + 1, [.string bE, .slice none 0 0, .slice none 0 0, .string bE, .slice none 0 0, .slice none 0 0]), (w.heap.size + 1, [.int .u8 (kd : Int), .int .u8 (pl : Int), .int .u8 (jb : Int)]), (w.heap.size, [.string bE, .slice A1 p.1.waiting.length c1, .slice A2 p.1.held.length c2, .string p.2.holder, .slice B1 p.2.waiting.length d1, .slice B2 p.2.held.length d2])] := by rw [← hx_]; exact ((hO4.store 3 rfl 0 _).store 3 rfl 1 _).store 3 rfl 2 _
    have zwo5 : wo4.heap.size ≤ wo5.heap.size := by rw [← hx_]; simp [World.setCell]
    replace k1 : SL S0 w.heap.size wo2.heap.size wo5 A1 p.1.waiting.length c1 p.1.waiting := by rw [← hx_]; exact (((k1.set (by omega) (by omega)).set (by omega) (by omega)).set (by omega) (by omega))
    replace k2 : SL S0 w.heap.size wo2.heap.size wo5 A2 p.1.held.length c2 p.1.held := by rw [← hx_]; exact (((k2.set (by omega) (by omega)).set (by omega) (by omega)).set (by omega) (by omega))
    replace k3 : SL S0 w.heap.size wo2.heap.size wo5 B1 p.2.waiting.length d1 p.2.waiting := by rw [← hx_]; exact (((k3.set (by omega) (by omega)).set (by omega) (by omega)).set (by omega) (by omega))
    replace k4 : SL S0 w.heap.size wo2.heap.size wo5 B2 p.2.held.length d2 p.2.held := by rw [← hx_]; exact (((k4.set (by omega) (by omega)).set (by omega) (by omega)).set (by omega) (by omega))
    replace hsz : wo2.heap.size ≤ wo5.heap.size := by rw [← hx_]; exact (szset (szset (szset hsz)))
    clear hx_ c0_0 c0_1 c0_2 cf0 c1_0 c1_1 c1_2 c1_3 c1_4 c1_5 cf1 c2_0 c2_1 c2_2 cf2 c3_0 c3_1 c3_2 c3_3 c3_4 c3_5 cf3 hO4
    have c0_0 : wo5.cell? ⟨wo1.heap.size, 0, none⟩ = some (.string bE) := hO5.c 0 0
    have c0_1 : wo5.cell? ⟨wo1.heap.size, 1, none⟩ = some (.slice A1 p.1.waiting.length c1) := hO5.c 0 1
    have c0_2 : wo5.cell? ⟨wo1.heap.size, 2, none⟩ = some (.slice A2 p.1.held.length c2) := hO5.c 0 2
    have cf0 := hO5.fr 0
    have c1_0 : wo5.cell? ⟨w.heap.size + 1 + 1, 0, none⟩ = some (.string bE) := hO5.c 1 0
    have c1_1 : wo5.cell? ⟨w.heap.size + 1 + 1, 1, none⟩ = some (.slice none 0 0) := hO5.c 1 1
    have c1_2 : wo5.cell? ⟨w.heap.size + 1 + 1, 2, none⟩ = some (.slice none 0 0) := hO5.c 1 2
    have c1_3 : wo5.cell? ⟨w.heap.size + 1 + 1, 3, none⟩ = some (.string bE) := hO5.c 1 3
    have c1_4 : wo5.cell? ⟨w.heap.size + 1 + 1, 4, none⟩ = some (.slice none 0 0) := hO5.c 1 4
    have c1_5 : wo5.cell? ⟨w.heap.size + 1 + 1, 5, none⟩ = some (.slice none 0 0) := hO5.c 1 5
    have cf1 := hO5.fr 1
    have c2_0 : wo5.cell? ⟨w.heap.size + 1, 0, none⟩ = some (.int .u8 (kd : Int)) := hO5.c 2 0
    have c2_1 : wo5.cell? ⟨w.heap.size + 1, 1, none⟩ = some (.int .u8 (pl : Int)) := hO5.c 2 1
    have c2_2 : wo5.cell? ⟨w.heap.size + 1, 2, none⟩ = some (.int .u8 (jb : Int)) := hO5.c 2 2
    have cf2 := hO5.fr 2
    have c3_0 : wo5.cell? ⟨w.heap.size, 0, none⟩ = some (.string bE) := hO5.c 3 0
    have c3_1 : wo5.cell? ⟨w.heap.size, 1, none⟩ = some (.slice A1 p.1.waiting.length c1) := hO5.c 3 1
    have c3_2 : wo5.cell? ⟨w.heap.size, 2, none⟩ = some (.slice A2 p.1.held.length c2) := hO5.c 3 2
    have c3_3 : wo5.cell? ⟨w.heap.size, 3, none⟩ = some (.string p.2.holder) := hO5.c 3 3
    have c3_4 : wo5.cell? ⟨w.heap.size, 4, none⟩ = some (.slice B1 p.2.waiting.length d1) := hO5.c 3 4
    have c3_5 : wo5.cell? ⟨w.heap.size, 5, none⟩ = some (.slice B2 p.2.held.length d2) := hO5.c 3 5
    have cf3 := hO5.fr 3
    repeat' ((fail_if_success at_builtin); (first | go_skip | go_guarded | go_step))
    generalize hx_ : World.setCell (World.setCell (World.setCell (World.setCell (World.setCell (World.setCell _ _ _) _ _) _ _) _ _) _ _) _ _ = wo6
    have hO6 : OwnB w wo6 [(wo1.heap.size, [.string bE, .slice A1 p.1.waiting.length c1, .slice A2 p.1.held.length c2]), (w.heap.size + 1 + 1, [.string bE, .slice A1 p.1.waiting.length c1, .slice A2 p.1.held.length c2, .string p.2.holder, .slice B1 p.2.waiting.length d1, .slice B2 p.2.held.length d2]), (w.heap.size + 1, [.int .u8 (kd : Int), .int .u8 (pl : Int), .int .u8 (jb : Int)]), (w.heap.size, [.string bE, .slice A1 p.1.waiting.length c1, .slice A2 p.1.held.length c2, .string p.2.holder, .slice B1 p.2.waiting.length d1, .slice B2 p.2.held.length d2])] := by rw [← hx_]; exact (((((hO5.store 1 rfl 0 _).store 1 rfl 1 _).store 1 rfl 2 _).store 1 rfl 3 _).store 1 rfl 4 _).store 1 rfl 5 _
    have zwo6 : wo5.heap.size ≤ wo6.heap.size := by rw [← hx_]; simp [World.setCell]
    replace k1 : SL S0 w.heap.size wo2.heap.size wo6 A1 p.1.waiting.length c1 p.1.waiting := by rw [← hx_]; exact ((((((k1.set (by omega) (by omega)).set (by omega) (by omega)).set (by omega) (by omega)).set (by omega) (by omega)).set (by omega) (by omega)).set (by omega) (by omega))
    replace k2 : SL S0 w.heap.size wo2.heap.size wo6 A2 p.1.held.length c2 p.1.held := by rw [← hx_]; exact ((((((k2.set (by omega) (by omega)).set (by omega) (by omega)).set (by omega) (by omega)).set (by omega) (by omega)).set (by omega) (by omega)).set (by omega) (by omega))
    replace k3 : SL S0 w.heap.size wo2.heap.size wo6 B1 p.2.waiting.length d1 p.2.waiting := by rw [← hx_]; exact ((((((k3.set (by omega) (by omega)).set (by omega) (by omega)).set (by omega) (by omega)).set (by omega) (by omega)).set (by omega) (by omega)).set (by omega) (by omega))
    replace k4 : SL S0 w.heap.size wo2.heap.size wo6 B2 p.2.held.length d2 p.2.held := by rw [← hx_]; exact ((((((k4.set (by omega) (by omega)).set (by omega) (by omega)).set (by omega) (by omega)).set (by omega) (by omega)).set (by omega) (by omega)).set (by omega) (by omega))
    replace hsz : wo2.heap.size ≤ wo6.heap.size := by rw [← hx_]; exact (szset (szset (szset (szset (szset (szset hsz))))))
    clear hx_ c0_0 c0_1 c0_2 cf0 c1_0 c1_1 c1_2 c1_3 c1_4 c1_5 cf1 c2_0 c2_1 c2_2 cf2 c3_0 c3_1 c3_2 c3_3 c3_4 c3_5 cf3 hO5
    have c0_0 : wo6.cell? ⟨wo1.heap.size, 0, none⟩ = some (.string bE) := hO6.c 0 0
    have c0_1 : wo6.cell? ⟨wo1.heap.size, 1, none⟩ = some (.slice A1 p.1.waiting.length c1) := hO6.c 0 1
    have c0_2 : wo6.cell? ⟨wo1.heap.size, 2, none⟩ = some (.slice A2 p.1.held.length c2) := hO6.c 0 2
    have cf0 := hO6.fr 0
    have c1_0 : wo6.cell? ⟨w.heap.size + 1 + 1, 0, none⟩ = some (.string bE) := hO6.c 1 0
    have c1_1 : wo6.cell? ⟨w.heap.size + 1 + 1, 1, none⟩ = some (.slice A1 p.1.waiting.length c1) := hO6.c 1 1
    have c1_2 : wo6.cell? ⟨w.heap.size + 1 + 1, 2, none⟩ = some (.slice A2 p.1.held.length c2) := hO6.c 1 2
    have c1_3 : wo6.cell? ⟨w.heap.size + 1 + 1, 3, none⟩ = some (.string p.2.holder) := hO6.c 1 3
    have c1_4 : wo6.cell? ⟨w.heap.size + 1 + 1, 4, none⟩ = some (.slice B1 p.2.waiting.length d1) := hO6.c 1 4
    have c1_5 : wo6.cell? ⟨w.heap.size + 1 + 1, 5, none⟩ = some (.slice B2 p.2.held.length d2) := hO6.c 1 5
    have cf1 := hO6.fr 1
    have c2_0 : wo6.cell? ⟨w.heap.size + 1, 0, none⟩ = some (.int .u8 (kd : Int)) := hO6.c 2 0
    have c2_1 : wo6.cell? ⟨w.heap.size + 1, 1, none⟩ = some (.int .u8 (pl : Int)) := hO6.c 2 1
    have c2_2 : wo6.cell? ⟨w.heap.size + 1, 2, none⟩ = some (.int .u8 (jb : Int)) := hO6.c 2 2
    have cf2 := hO6.fr 2
    have c3_0 : wo6.cell? ⟨w.heap.size, 0, none⟩ = some (.string bE) := hO6.c 3 0
    have c3_1 : wo6.cell? ⟨w.heap.size, 1, none⟩ = some (.slice A1 p.1.waiting.length c1) := hO6.c 3 1
    have c3_2 : wo6.cell? ⟨w.heap.size, 2, none⟩ = some (.slice A2 p.1.held.length c2) := hO6.c 3 2
    have c3_3 : wo6.cell? ⟨w.heap.size, 3, none⟩ = some (.string p.2.holder) := hO6.c 3 3
    have c3_4 : wo6.cell? ⟨w.heap.size, 4, none⟩ = some (.slice B1 p.2.waiting.length d1) := hO6.c 3 4
    have c3_5 : wo6.cell? ⟨w.heap.size, 5, none⟩ = some (.slice B2 p.2.held.length d2) := hO6.c 3 5
    have cf3 := hO6.fr 3
    refine bodyPost_ret (v := .tuple #[.agg #[.string bE, .slice A1 p.1.waiting.length c1, .slice A2 p.1.held.length c2, .string p.2.holder, .slice B1 p.2.waiting.length d1, .slice B2 p.2.held.length d2], .bool true]) (by simp only [results, Tryd.results24]; go_simp; first | done | exact ⟨rfl, rfl, rfl⟩ | rfl) rfl ?_
    have hq : Q = expT 2 false j p := by first | exact hQ.out | exact hQ
    clear hQ
    subst hq
    exact ⟨A1, c1, A2, c2, B1, d1, B2, d2, by rw [hm] <;> first | rfl | simp, hO6.below, by rw [hm]; exact ⟨k1.out (by omega), k2.out (by omega), k3.out (by omega), k4.out (by omega)⟩⟩
  | false =>
    have q1 : (p.1.holder.toList == j.toList) = false := h1
    rw [h1, if_neg (by simp)] at hm0
    clear h1
    cases h2 : eqB p.2.holder j with
    | true =>
      have hm : expT 2 false j p = ((p.1, ⟨bE, p.2.waiting, p.2.held⟩), true) := by rw [hm0, h2] <;> rfl
      have q2 : (p.2.holder.toList == j.toList) = true := h2
      clear h2 hm0
      go_upto_region 20 with (fail)
      go_upto_region 21 with (fail)
      generalize hx_ : World.setCell (World.setCell (World.setCell _ _ _) _ _) _ _ = wo3
      have hO3 : OwnB w wo3 [(wo1.heap.size, [.string p.2.holder, .slice B1 p.2.waiting.length d1, .slice B2 p.2.held.length d2]), (w.heap.size + 1 + 1, [.string bE, .slice none 0 0, .slice none 0 0, .string bE, .slice none 0 0, .slice none 0 0]), (w.heap.size + 1, [.int .u8 (kd : Int), .int .u8 (pl : Int), .int .u8 (jb : Int)]), (w.heap.size, [.string p.1.holder, .slice A1 p.1.waiting.length c1, .slice A2 p.1.held.length c2, .string p.2.holder, .slice B1 p.2.waiting.length d1, .slice B2 p.2.held.length d2])] := by rw [← hx_]; exact ((hO2.store 0 rfl 0 _).store 0 rfl 1 _).store 0 rfl 2 _
      have zwo3 : wo2.heap.size ≤ wo3.heap.size := by rw [← hx_]; simp [World.setCell]
      replace k1 : SL S0 w.heap.size wo2.heap.size wo3 A1 p.1.waiting.length c1 p.1.waiting := by rw [← hx_]; exact (((k1.set (by omega) (by omega)).set (by omega) (by omega)).set (by omega) (by omega))
      replace k2 : SL S0 w.heap.size wo2.heap.size wo3 A2 p.1.held.length c2 p.1.held := by rw [← hx_]; exact (((k2.set (by omega) (by omega)).set (by omega) (by omega)).set (by omega) (by omega))
      replace k3 : SL S0 w.heap.size wo2.heap.size wo3 B1 p.2.waiting.length d1 p.2.waiting := by rw [← hx_]; exact (((k3.set (by omega) (by omega)).set (by omega) (by omega)).set (by omega) (by omega))
      replace k4 : SL S0 w.heap.size wo2.heap.size wo3 B2 p.2.held.length d2 p.2.held := by rw [← hx_]; exact (((k4.set (by omega) (by omega)).set (by omega) (by omega)).set (by omega) (by omega))
      replace hsz : wo2.heap.size ≤ wo3.heap.size := by rw [← hx_]; exact (szset (szset (szset hsz)))
      clear hx_ c0_0 c0_1 c0_2 cf0 c1_0 c1_1 c1_2 c1_3 c1_4 c1_5 cf1 c2_0 c2_1 c2_2 cf2 c3_0 c3_1 c3_2 c3_3 c3_4 c3_5 cf3 hO2
      have c0_0 : wo3.cell? ⟨wo1.heap.size, 0, none⟩ = some (.string p.2.holder) := hO3.c 0 0
      have c0_1 : wo3.cell? ⟨wo1.heap.size, 1, none⟩ = some (.slice B1 p.2.waiting.length d1) := hO3.c 0 1
      have c0_2 : wo3.cell? ⟨wo1.heap.size, 2, none⟩ = some (.slice B2 p.2.held.length d2) := hO3.c 0 2
      have cf0 := hO3.fr 0
      have c1_0 : wo3.cell? ⟨w.heap.size + 1 + 1, 0, none⟩ = some (.string bE) := hO3.c 1 0
      have c1_1 : wo3.cell? ⟨w.heap.size + 1 + 1, 1, none⟩ = some (.slice none 0 0) := hO3.c 1 1
      have c1_2 : wo3.cell? ⟨w.heap.size + 1 + 1, 2, none⟩ = some (.slice none 0 0) := hO3.c 1 2
      have c1_3 : wo3.cell? ⟨w.heap.size + 1 + 1, 3, none⟩ = some (.string bE) := hO3.c 1 3
      have c1_4 : wo3.cell? ⟨w.heap.size + 1 + 1, 4, none⟩ = some (.slice none 0 0) := hO3.c 1 4
      have c1_5 : wo3.cell? ⟨w.heap.size + 1 + 1, 5, none⟩ = some (.slice none 0 0) := hO3.c 1 5
      have cf1 := hO3.fr 1
      have c2_0 : wo3.cell? ⟨w.heap.size + 1, 0, none⟩ = some (.int .u8 (kd : Int)) := hO3.c 2 0
      have c2_1 : wo3.cell? ⟨w.heap.size + 1, 1, none⟩ = some (.int .u8 (pl : Int)) := hO3.c 2 1
      have c2_2 : wo3.cell? ⟨w.heap.size + 1, 2, none⟩ = some (.int .u8 (jb : Int)) := hO3.c 2 2
      have cf2 := hO3.fr 2
      have c3_0 : wo3.cell? ⟨w.heap.size, 0, none⟩ = some (.string p.1.holder) := hO3.c 3 0
      have c3_1 : wo3.cell? ⟨w.heap.size, 1, none⟩ = some (.slice A1 p.1.waiting.length c1) := hO3.c 3 1
      have c3_2 : wo3.cell? ⟨w.heap.size, 2, none⟩ = some (.slice A2 p.1.held.length c2) := hO3.c 3 2
      have c3_3 : wo3.cell? ⟨w.heap.size, 3, none⟩ = some (.string p.2.holder) := hO3.c 3 3
      have c3_4 : wo3.cell? ⟨w.heap.size, 4, none⟩ = some (.slice B1 p.2.waiting.length d1) := hO3.c 3 4
      have c3_5 : wo3.cell? ⟨w.heap.size, 5, none⟩ = some (.slice B2 p.2.held.length d2) := hO3.c 3 5
      have cf3 := hO3.fr 3
      go_upto_region 30 with (fail)
      generalize hx_ : World.setCell _ _ _ = wo4
      have hO4 : OwnB w wo4 [(wo1.heap.size, [.string bE, .slice B1 p.2.waiting.length d1, .slice B2 p.2.held.length d2]), (w.heap.size + 1 + 1, [.string bE, .slice none 0 0, .slice none 0 0, .string bE, .slice none 0 0, .slice none 0 0]), (w.heap.size + 1, [.int .u8 (kd : Int), .int .u8 (pl : Int), .int .u8 (jb : Int)]), (w.heap.size, [.string p.1.holder, .slice A1 p.1.waiting.length c1, .slice A2 p.1.held.length c2, .string p.2.holder, .slice B1 p.2.waiting.length d1, .slice B2 p.2.held.length d2])] := by rw [← hx_]; exact hO3.store 0 rfl 0 _
      have zwo4 : wo3.heap.size ≤ wo4.heap.size := by rw [← hx_]; simp [World.setCell]
      replace k1 : SL S0 w.heap.size wo2.heap.size wo4 A1 p.1.waiting.length c1 p.1.waiting := by rw [← hx_]; exact k1.set (by omega) (by omega)
      replace k2 : SL S0 w.heap.size wo2.heap.size wo4 A2 p.1.held.length c2 p.1.held := by rw [← hx_]; exact k2.set (by omega) (by omega)
      replace k3 : SL S0 w.heap.size wo2.heap.size wo4 B1 p.2.waiting.length d1 p.2.waiting := by rw [← hx_]; exact k3.set (by omega) (by omega)
      replace k4 : SL S0 w.heap.size wo2.heap.size wo4 B2 p.2.held.length d2 p.2.held := by rw [← hx_]; exact k4.set (by omega) (by omega)
      replace hsz : wo2.heap.size ≤ wo4.heap.size := by rw [← hx_]; exact szset hsz
      clear hx_ c0_0 c0_1 c0_2 cf0 c1_0 c1_1 c1_2 c1_3 c1_4 c1_5 cf1 c2_0 c2_1 c2_2 cf2 c3_0 c3_1 c3_2 c3_3 c3_4 c3_5 cf3 hO3
      have c0_0 : wo4.cell? ⟨wo1.heap.size, 0, none⟩ = some (.string bE) := hO4.c 0 0
      have c0_1 : wo4.cell? ⟨wo1.heap.size, 1, none⟩ = some (.slice B1 p.2.waiting.length d1) := hO4.c 0 1
      have c0_2 : wo4.cell? ⟨wo1.heap.size, 2, none⟩ = some (.slice B2 p.2.held.length d2) := hO4.c 0 2
      have cf0 := hO4.fr 0
      have c1_0 : wo4.cell? ⟨w.heap.size + 1 + 1, 0, none⟩ = some (.string bE) := hO4.c 1 0
      have c1_1 : wo4.cell? ⟨w.heap.size + 1 + 1, 1, none⟩ = some (.slice none 0 0) := hO4.c 1 1
      have c1_2 : wo4.cell? ⟨w.heap.size + 1 + 1, 2, none⟩ = some (.slice none 0 0) := hO4.c 1 2
      have c1_3 : wo4.cell? ⟨w.heap.size + 1 + 1, 3, none⟩ = some (.string bE) := hO4.c 1 3
      have c1_4 : wo4.cell? ⟨w.heap.size + 1 + 1, 4, none⟩ = some (.slice none 0 0) := hO4.c 1 4
      have c1_5 : wo4.cell? ⟨w.heap.size + 1 + 1, 5, none⟩ = some (.slice none 0 0) := hO4.c 1 5
      have cf1 := hO4.fr 1
      have c2_0 : wo4.cell? ⟨w.heap.size + 1, 0, none⟩ = some (.int .u8 (kd : Int)) := hO4.c 2 0
      have c2_1 : wo4.cell? ⟨w.heap.size + 1, 1, none⟩ = some (.int .u8 (pl : Int)) := hO4.c 2 1
      have c2_2 : wo4.cell? ⟨w.heap.size + 1, 2, none⟩ = some (.int .u8 (jb : Int)) := hO4.c 2 2
      have cf2 := hO4.fr 2
      have c3_0 : wo4.cell? ⟨w.heap.size, 0, none⟩ = some (.string p.1.holder) := hO4.c 3 0
      have c3_1 : wo4.cell? ⟨w.heap.size, 1, none⟩ = some (.slice A1 p.1.waiting.length c1) := hO4.c 3 1
      have c3_2 : wo4.cell? ⟨w.heap.size, 2, none⟩ = some (.slice A2 p.1.held.length c2) := hO4.c 3 2
      have c3_3 : wo4.cell? ⟨w.heap.size, 3, none⟩ = some (.string p.2.holder) := hO4.c 3 3
      have c3_4 : wo4.cell? ⟨w.heap.size, 4, none⟩ = some (.slice B1 p.2.waiting.length d1) := hO4.c 3 4
      have c3_5 : wo4.cell? ⟨w.heap.size, 5, none⟩ = some (.slice B2 p.2.held.length d2) := hO4.c 3 5
      have cf3 := hO4.fr 3
      go_upto_region 31 with (fail)
      generalize hx_ : World.setCell (World.setCell (World.setCell _ _ _) _ _) _ _ = wo5
      have hO5 : OwnB w wo5 [(wo1.heap.size, [.string bE, .slice B1 p.2.waiting.length d1, .slice B2 p.2.held.length d2]), (w.heap.size + 1 + 1, [.string bE, .slice none 0 0, .slice none 0 0, .string bE, .slice none 0 0, .slice none 0 0]), (w.heap.size + 1, [.int .u8 (kd : Int), .int .u8 (pl : Int), .int .u8 (jb : Int)]), (w.heap.size, [.string p.1.holder, .slice A1 p.1.waiting.length c1, .slice A2 p.1.held.length c2, .string bE, .slice B1 p.2.waiting.length d1, .slice B2 p.2.held.length d2])] := by rw [← hx_]; exact ((hO4.store 3 rfl 3 _).store 3 rfl 4 _).store 3 rfl 5 _
      have zwo5 : wo4.heap.size ≤ wo5.heap.size := by rw [← hx_]; simp [World.setCell]
      replace k1 : SL S0 w.heap.size wo2.heap.size wo5 A1 p.1.waiting.length c1 p.1.waiting := by rw [← hx_]; exact (((k1.set (by omega) (by omega)).set (by omega) (by omega)).set (by omega) (by omega))
      replace k2 : SL S0 w.heap.size wo2.heap.size wo5 A2 p.1.held.length c2 p.1.held := by rw [← hx_]; exact (((k2.set (by omega) (by omega)).set (by omega) (by omega)).set (by omega) (by omega))
      replace k3 : SL S0 w.heap.size wo2.heap.size wo5 B1 p.2.waiting.length d1 p.2.waiting := by rw [← hx_]; exact (((k3.set (by omega) (by omega)).set (by omega) (by omega)).set (by omega) (by omega))
      replace k4 : SL S0 w.heap.size wo2.heap.size wo5 B2 p.2.held.length d2 p.2.held := by rw [← hx_]; exact (((k4.set (by omega) (by omega)).set (by omega) (by omega)).set (by omega) (by omega))
      replace hsz : wo2.heap.size ≤ wo5.heap.size := by rw [← hx_]; exact (szset (szset (szset hsz)))
      clear hx_ c0_0 c0_1 c0_2 cf0 c1_0 c1_1 c1_2 c1_3 c1_4 c1_5 cf1 c2_0 c2_1 c2_2 cf2 c3_0 c3_1 c3_2 c3_3 c3_4 c3_5 cf3 hO4
      have c0_0 : wo5.cell? ⟨wo1.heap.size, 0, none⟩ = some (.string bE) := hO5.c 0 0
      have c0_1 : wo5.cell? ⟨wo1.heap.size, 1, none⟩ = some (.slice B1 p.2.waiting.length d1) := hO5.c 0 1
      have c0_2 : wo5.cell? ⟨wo1.heap.size, 2, none⟩ = some (.slice B2 p.2.held.length d2) := hO5.c 0 2
      have cf0 := hO5.fr 0
      have c1_0 : wo5.cell? ⟨w.heap.size + 1 + 1, 0, none⟩ = some (.string bE) := hO5.c 1 0
      have c1_1 : wo5.cell? ⟨w.heap.size + 1 + 1, 1, none⟩ = some (.slice none 0 0) := hO5.c 1 1
      have c1_2 : wo5.cell? ⟨w.heap.size + 1 + 1, 2, none⟩ = some (.slice none 0 0) := hO5.c 1 2
      have c1_3 : wo5.cell? ⟨w.heap.size + 1 + 1, 3, none⟩ = some (.string bE) := hO5.c 1 3
      have c1_4 : wo5.cell? ⟨w.heap.size + 1 + 1, 4, none⟩ = some (.slice none 0 0) := hO5.c 1 4
      have c1_5 : wo5.cell? ⟨w.heap.size + 1 + 1, 5, none⟩ = some (.slice none 0 0) := hO5.c 1 5
      have cf1 := hO5.fr 1
      have c2_0 : wo5.cell? ⟨w.heap.size + 1, 0, none⟩ = some (.int .u8 (kd : Int)) := hO5.c 2 0
      have c2_1 : wo5.cell? ⟨w.heap.size + 1, 1, none⟩ = some (.int .u8 (pl : Int)) := hO5.c 2 1
      have c2_2 : wo5.cell? ⟨w.heap.size + 1, 2, none⟩ = some (.int .u8 (jb : Int)) := hO5.c 2 2
      have cf2 := hO5.fr 2
      have c3_0 : wo5.cell? ⟨w.heap.size, 0, none⟩ = some (.string p.1.holder) := hO5.c 3 0
      have c3_1 : wo5.cell? ⟨w.heap.size, 1, none⟩ = some (.slice A1 p.1.waiting.length c1) := hO5.c 3 1
      have c3_2 : wo5.cell? ⟨w.heap.size, 2, none⟩ = some (.slice A2 p.1.held.length c2) := hO5.c 3 2
      have c3_3 : wo5.cell? ⟨w.heap.size, 3, none⟩ = some (.string bE) := hO5.c 3 3
      have c3_4 : wo5.cell? ⟨w.heap.size, 4, none⟩ = some (.slice B1 p.2.waiting.length d1) := hO5.c 3 4
      have c3_5 : wo5.cell? ⟨w.heap.size, 5, none⟩ = some (.slice B2 p.2.held.length d2) := hO5.c 3 5
      have cf3 := hO5.fr 3
      repeat' ((fail_if_success at_builtin); (first | go_skip | go_guarded | go_step))
      generalize hx_ : World.setCell (World.setCell (World.setCell (World.setCell (World.setCell (World.setCell _ _ _) _ _) _ _) _ _) _ _) _ _ = wo6
      have hO6 : OwnB w wo6 [(wo1.heap.size, [.string bE, .slice B1 p.2.waiting.length d1, .slice B2 p.2.held.length d2]), (w.heap.size + 1 + 1, [.string p.1.holder, .slice A1 p.1.waiting.length c1, .slice A2 p.1.held.length c2, .string bE, .slice B1 p.2.waiting.length d1, .slice B2 p.2.held.length d2]), (w.heap.size + 1, [.int .u8 (kd : Int), .int .u8 (pl : Int), .int .u8 (jb : Int)]), (w.heap.size, [.string p.1.holder, .slice A1 p.1.waiting.length c1, .slice A2 p.1.held.length c2, .string bE, .slice B1 p.2.waiting.length d1, .slice B2 p.2.held.length d2])] := by rw [← hx_]; exact (((((hO5.store 1 rfl 0 _).store 1 rfl 1 _).store 1 rfl 2 _).store 1 rfl 3 _).store 1 rfl 4 _).store 1 rfl 5 _
      have zwo6 : wo5.heap.size ≤ wo6.heap.size := by rw [← hx_]; simp [World.setCell]
      replace k1 : SL S0 w.heap.size wo2.heap.size wo6 A1 p.1.waiting.length c1 p.1.waiting := by rw [← hx_]; exact ((((((k1.set (by omega) (by omega)).set (by omega) (by omega)).set (by omega) (by omega)).set (by omega) (by omega)).set (by omega) (by omega)).set (by omega) (by omega))
      replace k2 : SL S0 w.heap.size wo2.heap.size wo6 A2 p.1.held.length c2 p.1.held := by rw [← hx_]; exact ((((((k2.set (by omega) (by omega)).set (by omega) (by omega)).set (by omega) (by omega)).set (by omega) (by omega)).set (by omega) (by omega)).set (by omega) (by omega))
      replace k3 : SL S0 w.heap.size wo2.heap.size wo6 B1 p.2.waiting.length d1 p.2.waiting := by rw [← hx_]; exact ((((((k3.set (by omega) (by omega)).set (by omega) (by omega)).set (by omega) (by omega)).set (by omega) (by omega)).set (by omega) (by omega)).set (by omega) (by omega))
      replace k4 : SL S0 w.heap.size wo2.heap.size wo6 B2 p.2.held.length d2 p.2.held := by rw [← hx_]; exact ((((((k4.set (by omega) (by omega)).set (by omega) (by omega)).set (by omega) (by omega)).set (by omega) (by omega)).set (by omega) (by omega)).set (by omega) (by omega))
      replace hsz : wo2.heap.size ≤ wo6.heap.size := by rw [← hx_]; exact (szset (szset (szset (szset (szset (szset hsz))))))
      clear hx_ c0_0 c0_1 c0_2 cf0 c1_0 c1_1 c1_2 c1_3 c1_4 c1_5 cf1 c2_0 c2_1 c2_2 cf2 c3_0 c3_1 c3_2 c3_3 c3_4 c3_5 cf3 hO5
      have c0_0 : wo6.cell? ⟨wo1.heap.size, 0, none⟩ = some (.string bE) := hO6.c 0 0
      have c0_1 : wo6.cell? ⟨wo1.heap.size, 1, none⟩ = some (.slice B1 p.2.waiting.length d1) := hO6.c 0 1
      have c0_2 : wo6.cell? ⟨wo1.heap.size, 2, none⟩ = some (.slice B2 p.2.held.length d2) := hO6.c 0 2
      have cf0 := hO6.fr 0
      have c1_0 : wo6.cell? ⟨w.heap.size + 1 + 1, 0, none⟩ = some (.string p.1.holder) := hO6.c 1 0
      have c1_1 : wo6.cell? ⟨w.heap.size + 1 + 1, 1, none⟩ = some (.slice A1 p.1.waiting.length c1) := hO6.c 1 1
      have c1_2 : wo6.cell? ⟨w.heap.size + 1 + 1, 2, none⟩ = some (.slice A2 p.1.held.length c2) := hO6.c 1 2
      have c1_3 : wo6.cell? ⟨w.heap.size + 1 + 1, 3, none⟩ = some (.string bE) := hO6.c 1 3
      have c1_4 : wo6.cell? ⟨w.heap.size + 1 + 1, 4, none⟩ = some (.slice B1 p.2.waiting.length d1) := hO6.c 1 4
      have c1_5 : wo6.cell? ⟨w.heap.size + 1 + 1, 5, none⟩ = some (.slice B2 p.2.held.length d2) := hO6.c 1 5
      have cf1 := hO6.fr 1
      have c2_0 : wo6.cell? ⟨w.heap.size + 1, 0, none⟩ = some (.int .u8 (kd : Int)) := hO6.c 2 0
      have c2_1 : wo6.cell? ⟨w.heap.size + 1, 1, none⟩ = some (.int .u8 (pl : Int)) := hO6.c 2 1
      have c2_2 : wo6.cell? ⟨w.heap.size + 1, 2, none⟩ = some (.int .u8 (jb : Int)) := hO6.c 2 2
      have cf2 := hO6.fr 2
      have c3_0 : wo6.cell? ⟨w.heap.size, 0, none⟩ = some (.string p.1.holder) := hO6.c 3 0
      have c3_1 : wo6.cell? ⟨w.heap.size, 1, none⟩ = some (.slice A1 p.1.waiting.length c1) := hO6.c 3 1
      have c3_2 : wo6.cell? ⟨w.heap.size, 2, none⟩ = some (.slice A2 p.1.held.length c2) := hO6.c 3 2
      have c3_3 : wo6.cell? ⟨w.heap.size, 3, none⟩ = some (.string bE) := hO6.c 3 3
      have c3_4 : wo6.cell? ⟨w.heap.size, 4, none⟩ = some (.slice B1 p.2.waiting.length d1) := hO6.c 3 4
      have c3_5 : wo6.cell? ⟨w.heap.size, 5, none⟩ = some (.slice B2 p.2.held.length d2) := hO6.c 3 5
      have cf3 := hO6.fr 3
      refine bodyPost_ret (v := .tuple #[.agg #[.string p.1.holder, .slice A1 p.1.waiting.length c1, .slice A2 p.1.held.length c2, .string bE, .slice B1 p.2.waiting.length d1, .slice B2 p.2.held.length d2], .bool true]) (by simp only [results, Tryd.results24]; go_simp; first | done | exact ⟨rfl, rfl, rfl⟩ | rfl) rfl ?_
      have hq : Q = expT 2 false j p := by first | exact hQ.out | exact hQ
      clear hQ
      subst hq
      exact ⟨A1, c1, A2, c2, B1, d1, B2, d2, by rw [hm] <;> first | rfl | simp, hO6.below, by rw [hm]; exact ⟨k1.out (by omega), k2.out (by omega), k3.out (by omega), k4.out (by omega)⟩⟩
    | false =>
      have hm : expT 2 false j p = (p, false) := by rw [hm0, h2] <;> rfl
      have q2 : (p.2.holder.toList == j.toList) = false := h2
      clear h2 hm0
      repeat' ((fail_if_success at_builtin); (first | go_skip | go_guarded | go_step))
      generalize hx_ : World.setCell (World.setCell (World.setCell (World.setCell (World.setCell (World.setCell _ _ _) _ _) _ _) _ _) _ _) _ _ = wo3
      have hO3 : OwnB w wo3 [(wo1.heap.size, [.string p.1.holder, .slice A1 p.1.waiting.length c1, .slice A2 p.1.held.length c2]), (w.heap.size + 1 + 1, [.string p.1.holder, .slice A1 p.1.waiting.length c1, .slice A2 p.1.held.length c2, .string p.2.holder, .slice B1 p.2.waiting.length d1, .slice B2 p.2.held.length d2]), (w.heap.size + 1, [.int .u8 (kd : Int), .int .u8 (pl : Int), .int .u8 (jb : Int)]), (w.heap.size, [.string p.1.holder, .slice A1 p.1.waiting.length c1, .slice A2 p.1.held.length c2, .string p.2.holder, .slice B1 p.2.waiting.length d1, .slice B2 p.2.held.length d2])] := by rw [← hx_]; exact (((((hO2.store 1 rfl 0 _).store 1 rfl 1 _).store 1 rfl 2 _).store 1 rfl 3 _).store 1 rfl 4 _).store 1 rfl 5 _
      have zwo3 : wo2.heap.size ≤ wo3.heap.size := by rw [← hx_]; simp [World.setCell]
      replace k1 : SL S0 w.heap.size wo2.heap.size wo3 A1 p.1.waiting.length c1 p.1.waiting := by rw [← hx_]; exact ((((((k1.set (by omega) (by omega)).set (by omega) (by omega)).set (by omega) (by omega)).set (by omega) (by omega)).set (by omega) (by omega)).set (by omega) (by omega))
      replace k2 : SL S0 w.heap.size wo2.heap.size wo3 A2 p.1.held.length c2 p.1.held := by rw [← hx_]; exact ((((((k2.set (by omega) (by omega)).set (by omega) (by omega)).set (by omega) (by omega)).set (by omega) (by omega)).set (by omega) (by omega)).set (by omega) (by omega))
      replace k3 : SL S0 w.heap.size wo2.heap.size wo3 B1 p.2.waiting.length d1 p.2.waiting := by rw [← hx_]; exact ((((((k3.set (by omega) (by omega)).set (by omega) (by omega)).set (by omega) (by omega)).set (by omega) (by omega)).set (by omega) (by omega)).set (by omega) (by omega))
      replace k4 : SL S0 w.heap.size wo2.heap.size wo3 B2 p.2.held.length d2 p.2.held := by rw [← hx_]; exact ((((((k4.set (by omega) (by omega)).set (by omega) (by omega)).set (by omega) (by omega)).set (by omega) (by omega)).set (by omega) (by omega)).set (by omega) (by omega))
      replace hsz : wo2.heap.size ≤ wo3.heap.size := by rw [← hx_]; exact (szset (szset (szset (szset (szset (szset hsz))))))
      clear hx_ c0_0 c0_1 c0_2 cf0 c1_0 c1_1 c1_2 c1_3 c1_4 c1_5 cf1 c2_0 c2_1 c2_2 cf2 c3_0 c3_1 c3_2 c3_3 c3_4 c3_5 cf3 hO2
      have c0_0 : wo3.cell? ⟨wo1.heap.size, 0, none⟩ = some (.string p.1.holder) := hO3.c 0 0
      have c0_1 : wo3.cell? ⟨wo1.heap.size, 1, none⟩ = some (.slice A1 p.1.waiting.length c1) := hO3.c 0 1
      have c0_2 : wo3.cell? ⟨wo1.heap.size, 2, none⟩ = some (.slice A2 p.1.held.length c2) := hO3.c 0 2
      have cf0 := hO3.fr 0
      have c1_0 : wo3.cell? ⟨w.heap.size + 1 + 1, 0, none⟩ = some (.string p.1.holder) := hO3.c 1 0
      have c1_1 : wo3.cell? ⟨w.heap.size + 1 + 1, 1, none⟩ = some (.slice A1 p.1.waiting.length c1) := hO3.c 1 1
      have c1_2 : wo3.cell? ⟨w.heap.size + 1 + 1, 2, none⟩ = some (.slice A2 p.1.held.length c2) := hO3.c 1 2
      have c1_3 : wo3.cell? ⟨w.heap.size + 1 + 1, 3, none⟩ = some (.string p.2.holder) := hO3.c 1 3
      have c1_4 : wo3.cell? ⟨w.heap.size + 1 + 1, 4, none⟩ = some (.slice B1 p.2.waiting.length d1) := hO3.c 1 4
      have c1_5 : wo3.cell? ⟨w.heap.size + 1 + 1, 5, none⟩ = some (.slice B2 p.2.held.length d2) := hO3.c 1 5
      have cf1 := hO3.fr 1
      have c2_0 : wo3.cell? ⟨w.heap.size + 1, 0, none⟩ = some (.int .u8 (kd : Int)) := hO3.c 2 0
      have c2_1 : wo3.cell? ⟨w.heap.size + 1, 1, none⟩ = some (.int .u8 (pl : Int)) := hO3.c 2 1
      have c2_2 : wo3.cell? ⟨w.heap.size + 1, 2, none⟩ = some (.int .u8 (jb : Int)) := hO3.c 2 2
      have cf2 := hO3.fr 2
      have c3_0 : wo3.cell? ⟨w.heap.size, 0, none⟩ = some (.string p.1.holder) := hO3.c 3 0
      have c3_1 : wo3.cell? ⟨w.heap.size, 1, none⟩ = some (.slice A1 p.1.waiting.length c1) := hO3.c 3 1
      have c3_2 : wo3.cell? ⟨w.heap.size, 2, none⟩ = some (.slice A2 p.1.held.length c2) := hO3.c 3 2
      have c3_3 : wo3.cell? ⟨w.heap.size, 3, none⟩ = some (.string p.2.holder) := hO3.c 3 3
      have c3_4 : wo3.cell? ⟨w.heap.size, 4, none⟩ = some (.slice B1 p.2.waiting.length d1) := hO3.c 3 4
      have c3_5 : wo3.cell? ⟨w.heap.size, 5, none⟩ = some (.slice B2 p.2.held.length d2) := hO3.c 3 5
      have cf3 := hO3.fr 3
      refine bodyPost_ret (v := .tuple #[.agg #[.string p.1.holder, .slice A1 p.1.waiting.length c1, .slice A2 p.1.held.length c2, .string p.2.holder, .slice B1 p.2.waiting.length d1, .slice B2 p.2.held.length d2], .bool false]) (by simp only [results, Tryd.results24]; go_simp; first | done | exact ⟨rfl, rfl, rfl⟩ | rfl) rfl ?_
      have hq : Q = expT 2 false j p := by first | exact hQ.out | exact hQ
      clear hQ
      subst hq
      exact ⟨A1, c1, A2, c2, B1, d1, B2, d2, by rw [hm] <;> first | rfl | simp, hO3.below, by rw [hm]; exact ⟨k1.out (by omega), k2.out (by omega), k3.out (by omega), k4.out (by omega)⟩⟩
set_option maxRecDepth 100000 in
set_option maxHeartbeats 4000000 in
theorem exp21_any (kd pl jb : Nat) (p : Turn × Turn) (A1 : Option Addr) (c1 : Nat) (A2 : Option Addr) (c2 : Nat) (B1 : Option Addr) (d1 : Nat) (B2 : Option Addr) (d2 : Nat) (j : ByteArray) (w : World) (S0 : Nat → Prop) (hS0 : ∀ x, S0 x → x < w.heap.size) (h : TwoS S0 w p A1 c1 A2 c2 B1 d1 B2 d2) (_hl1 : p.1.waiting.length ≤ 100000) (_hl2 : p.2.waiting.length ≤ 100000) (_hl3 : p.1.held.length ≤ 100000) (_hl4 : p.2.held.length ≤ 100000) (hkd : (kd : Int).tmod 4 = 2) (hpl : (wrap64 (pl : Int)).tmod 2 = 1) (Q : (Turn × Turn) × Bool) (hQ : Q = expT 2 true j p) :
    Calls Tryd.prog 24 #[.agg #[.string p.1.holder, .slice A1 p.1.waiting.length c1, .slice A2 p.1.held.length c2, .string p.2.holder, .slice B1 p.2.waiting.length d1, .slice B2 p.2.held.length d2], .agg #[.int .u8 (kd : Int), .int .u8 (pl : Int), .int .u8 (jb : Int)], .string j] w fun e w' => ∃ (A1' : Option Addr) (c1' : Nat) (A2' : Option Addr) (c2' : Nat) (B1' : Option Addr) (d1' : Nat) (B2' : Option Addr) (d2' : Nat), e = .returned (.tuple #[.agg #[.string Q.1.1.holder, .slice A1' Q.1.1.waiting.length c1', .slice A2' Q.1.1.held.length c2', .string Q.1.2.holder, .slice B1' Q.1.2.waiting.length d1', .slice B2' Q.1.2.held.length d2'], .bool Q.2]) ∧ Below w.heap.size w w' ∧ TwoS (fun x => x < w'.heap.size ∧ (S0 x ∨ w.heap.size ≤ x)) w' Q.1 A1' c1' A2' c2' B1' d1' B2' d2' := by
  go_enter Tryd.func24, Tryd.ntmps24
  go_upto_region 1 with (fail)
  generalize hx_ : World.alloc (World.alloc (World.alloc w _) _) _ = wo1
  have hO1 : OwnB w wo1 [(w.heap.size + 1 + 1, [.string bE, .slice none 0 0, .slice none 0 0, .string bE, .slice none 0 0, .slice none 0 0]), (w.heap.size + 1, [.int .u8 (kd : Int), .int .u8 (pl : Int), .int .u8 (jb : Int)]), (w.heap.size, [.string p.1.holder, .slice A1 p.1.waiting.length c1, .slice A2 p.1.held.length c2, .string p.2.holder, .slice B1 p.2.waiting.length d1, .slice B2 p.2.held.length d2])] := by rw [← hx_]; exact (((OwnB.refl w).new #[.string p.1.holder, .slice A1 p.1.waiting.length c1, .slice A2 p.1.held.length c2, .string p.2.holder, .slice B1 p.2.waiting.length d1, .slice B2 p.2.held.length d2] _ (g := w.heap.size)).new #[.int .u8 (kd : Int), .int .u8 (pl : Int), .int .u8 (jb : Int)] _ (g := w.heap.size + 1)).new #[.string bE, .slice none 0 0, .slice none 0 0, .string bE, .slice none 0 0, .slice none 0 0] _ (g := w.heap.size + 1 + 1)
  have hbn : Below w.heap.size w wo1 := by rw [← hx_]; exact (((Below.refl _ _).alloc (Nat.le_refl _) _).alloc (by simp) _).alloc (by simp; omega) _
  have zwo1 : w.heap.size + 2 < wo1.heap.size := by rw [← hx_]; simp <;> omega
  clear hx_
  have c0_0 : wo1.cell? ⟨w.heap.size + 1 + 1, 0, none⟩ = some (.string bE) := hO1.c 0 0
  have c0_1 : wo1.cell? ⟨w.heap.size + 1 + 1, 1, none⟩ = some (.slice none 0 0) := hO1.c 0 1
  have c0_2 : wo1.cell? ⟨w.heap.size + 1 + 1, 2, none⟩ = some (.slice none 0 0) := hO1.c 0 2
  have c0_3 : wo1.cell? ⟨w.heap.size + 1 + 1, 3, none⟩ = some (.string bE) := hO1.c 0 3
  have c0_4 : wo1.cell? ⟨w.heap.size + 1 + 1, 4, none⟩ = some (.slice none 0 0) := hO1.c 0 4
  have c0_5 : wo1.cell? ⟨w.heap.size + 1 + 1, 5, none⟩ = some (.slice none 0 0) := hO1.c 0 5
  have cf0 := hO1.fr 0
  have c1_0 : wo1.cell? ⟨w.heap.size + 1, 0, none⟩ = some (.int .u8 (kd : Int)) := hO1.c 1 0
  have c1_1 : wo1.cell? ⟨w.heap.size + 1, 1, none⟩ = some (.int .u8 (pl : Int)) := hO1.c 1 1
  have c1_2 : wo1.cell? ⟨w.heap.size + 1, 2, none⟩ = some (.int .u8 (jb : Int)) := hO1.c 1 2
  have cf1 := hO1.fr 1
  have c2_0 : wo1.cell? ⟨w.heap.size, 0, none⟩ = some (.string p.1.holder) := hO1.c 2 0
  have c2_1 : wo1.cell? ⟨w.heap.size, 1, none⟩ = some (.slice A1 p.1.waiting.length c1) := hO1.c 2 1
  have c2_2 : wo1.cell? ⟨w.heap.size, 2, none⟩ = some (.slice A2 p.1.held.length c2) := hO1.c 2 2
  have c2_3 : wo1.cell? ⟨w.heap.size, 3, none⟩ = some (.string p.2.holder) := hO1.c 2 3
  have c2_4 : wo1.cell? ⟨w.heap.size, 4, none⟩ = some (.slice B1 p.2.waiting.length d1) := hO1.c 2 4
  have c2_5 : wo1.cell? ⟨w.heap.size, 5, none⟩ = some (.slice B2 p.2.held.length d2) := hO1.c 2 5
  have cf2 := hO1.fr 2
  clear hbn
  go_upto_region 3 with (fail)
  generalize hx_ : World.alloc wo1 _ = wo2
  have hO2 : OwnB w wo2 [(wo1.heap.size, [.string p.2.holder, .slice B1 p.2.waiting.length d1, .slice B2 p.2.held.length d2]), (w.heap.size + 1 + 1, [.string bE, .slice none 0 0, .slice none 0 0, .string bE, .slice none 0 0, .slice none 0 0]), (w.heap.size + 1, [.int .u8 (kd : Int), .int .u8 (pl : Int), .int .u8 (jb : Int)]), (w.heap.size, [.string p.1.holder, .slice A1 p.1.waiting.length c1, .slice A2 p.1.held.length c2, .string p.2.holder, .slice B1 p.2.waiting.length d1, .slice B2 p.2.held.length d2])] := by rw [← hx_]; exact hO1.new #[.string p.2.holder, .slice B1 p.2.waiting.length d1, .slice B2 p.2.held.length d2] _ (g := wo1.heap.size)
  have hbn : Below wo1.heap.size wo1 wo2 := by rw [← hx_]; exact (Below.refl _ _).alloc (Nat.le_refl _) _
  have zwo2 : wo1.heap.size + 0 < wo2.heap.size := by rw [← hx_]; simp <;> omega
  clear hx_ c0_0 c0_1 c0_2 c0_3 c0_4 c0_5 cf0 c1_0 c1_1 c1_2 cf1 c2_0 c2_1 c2_2 c2_3 c2_4 c2_5 cf2 hO1
  have c0_0 : wo2.cell? ⟨wo1.heap.size, 0, none⟩ = some (.string p.2.holder) := hO2.c 0 0
  have c0_1 : wo2.cell? ⟨wo1.heap.size, 1, none⟩ = some (.slice B1 p.2.waiting.length d1) := hO2.c 0 1
  have c0_2 : wo2.cell? ⟨wo1.heap.size, 2, none⟩ = some (.slice B2 p.2.held.length d2) := hO2.c 0 2
  have cf0 := hO2.fr 0
  have c1_0 : wo2.cell? ⟨w.heap.size + 1 + 1, 0, none⟩ = some (.string bE) := hO2.c 1 0
  have c1_1 : wo2.cell? ⟨w.heap.size + 1 + 1, 1, none⟩ = some (.slice none 0 0) := hO2.c 1 1
  have c1_2 : wo2.cell? ⟨w.heap.size + 1 + 1, 2, none⟩ = some (.slice none 0 0) := hO2.c 1 2
  have c1_3 : wo2.cell? ⟨w.heap.size + 1 + 1, 3, none⟩ = some (.string bE) := hO2.c 1 3
  have c1_4 : wo2.cell? ⟨w.heap.size + 1 + 1, 4, none⟩ = some (.slice none 0 0) := hO2.c 1 4
  have c1_5 : wo2.cell? ⟨w.heap.size + 1 + 1, 5, none⟩ = some (.slice none 0 0) := hO2.c 1 5
  have cf1 := hO2.fr 1
  have c2_0 : wo2.cell? ⟨w.heap.size + 1, 0, none⟩ = some (.int .u8 (kd : Int)) := hO2.c 2 0
  have c2_1 : wo2.cell? ⟨w.heap.size + 1, 1, none⟩ = some (.int .u8 (pl : Int)) := hO2.c 2 1
  have c2_2 : wo2.cell? ⟨w.heap.size + 1, 2, none⟩ = some (.int .u8 (jb : Int)) := hO2.c 2 2
  have cf2 := hO2.fr 2
  have c3_0 : wo2.cell? ⟨w.heap.size, 0, none⟩ = some (.string p.1.holder) := hO2.c 3 0
  have c3_1 : wo2.cell? ⟨w.heap.size, 1, none⟩ = some (.slice A1 p.1.waiting.length c1) := hO2.c 3 1
  have c3_2 : wo2.cell? ⟨w.heap.size, 2, none⟩ = some (.slice A2 p.1.held.length c2) := hO2.c 3 2
  have c3_3 : wo2.cell? ⟨w.heap.size, 3, none⟩ = some (.string p.2.holder) := hO2.c 3 3
  have c3_4 : wo2.cell? ⟨w.heap.size, 4, none⟩ = some (.slice B1 p.2.waiting.length d1) := hO2.c 3 4
  have c3_5 : wo2.cell? ⟨w.heap.size, 5, none⟩ = some (.slice B2 p.2.held.length d2) := hO2.c 3 5
  have cf3 := hO2.fr 3
  clear hbn
  have hbz := hO2.below
  have k1 : SL S0 w.heap.size wo2.heap.size wo2 A1 p.1.waiting.length c1 p.1.waiting := SL.old h.w1 hS0 hbz
  have k2 : SL S0 w.heap.size wo2.heap.size wo2 A2 p.1.held.length c2 p.1.held := SL.old h.h1 hS0 hbz
  have k3 : SL S0 w.heap.size wo2.heap.size wo2 B1 p.2.waiting.length d1 p.2.waiting := SL.old h.w2 hS0 hbz
  have k4 : SL S0 w.heap.size wo2.heap.size wo2 B2 p.2.held.length d2 p.2.held := SL.old h.h2 hS0 hbz
  have hsz : wo2.heap.size ≤ wo2.heap.size := Nat.le_refl _
  clear h hbz
  have hm0 : expT 2 true j p = (if eqB p.1.holder j = true then ((⟨bE, p.1.waiting, p.1.held⟩, p.2), true) else if eqB p.2.holder j = true then ((p.1, ⟨bE, p.2.waiting, p.2.held⟩), true) else (p, false)) := rfl
  cases h1 : eqB p.1.holder j with
  | true =>
    have hm : expT 2 true j p = ((⟨bE, p.1.waiting, p.1.held⟩, p.2), true) := by rw [hm0, h1] <;> rfl
    have q1 : (p.1.holder.toList == j.toList) = true := h1
    clear h1 hm0
    go_upto_region 20 with (fail)
    go_upto_region 21 with (fail)
    generalize hx_ : World.setCell (World.setCell (World.setCell _ _ _) _ _) _ _ = wo3
    have hO3 : OwnB w wo3 [(wo1.heap.size, [.string p.1.holder, .slice A1 p.1.waiting.length c1, .slice A2 p.1.held.length c2]), (w.heap.size + 1 + 1, [.string bE, .slice none 0 0, .slice none 0 0, .string bE, .slice none 0 0, .slice none 0 0]), (w.heap.size + 1, [.int .u8 (kd : Int), .int .u8 (pl : Int), .int .u8 (jb : Int)]), (w.heap.size, [.string p.1.holder, .slice A1 p.1.waiting.length c1, .slice A2 p.1.held.length c2, .string p.2.holder, .slice B1 p.2.waiting.length d1, .slice B2 p.2.held.length d2])] := by rw [← hx_]; exact ((hO2.store 0 rfl 0 _).store 0 rfl 1 _).store 0 rfl 2 _
    have zwo3 : wo2.heap.size ≤ wo3.heap.size := by rw [← hx_]; simp [World.setCell]
    replace k1 : SL S0 w.heap.size wo2.heap.size wo3 A1 p.1.waiting.length c1 p.1.waiting := by rw [← hx_]; exact (((k1.set (by omega) (by omega)).set (by omega) (by omega)).set (by omega) (by omega))
    replace k2 : SL S0 w.heap.size wo2.heap.size wo3 A2 p.1.held.length c2 p.1.held := by rw [← hx_]; exact (((k2.set (by omega) (by omega)).set (by omega) (by omega)).set (by omega) (by omega))
    replace k3 : SL S0 w.heap.size wo2.heap.size wo3 B1 p.2.waiting.length d1 p.2.waiting := by rw [← hx_]; exact (((k3.set (by omega) (by omega)).set (by omega) (by omega)).set (by omega) (by omega))
    replace k4 : SL S0 w.heap.size wo2.heap.size wo3 B2 p.2.held.length d2 p.2.held := by rw [← hx_]; exact (((k4.set (by omega) (by omega)).set (by omega) (by omega)).set (by omega) (by omega))
    replace hsz : wo2.heap.size ≤ wo3.heap.size := by rw [← hx_]; exact (szset (szset (szset hsz)))
    clear hx_ c0_0 c0_1 c0_2 cf0 c1_0 c1_1 c1_2 c1_3 c1_4 c1_5 cf1 c2_0 c2_1 c2_2 cf2 c3_0 c3_1 c3_2 c3_3 c3_4 c3_5 cf3 hO2
    have c0_0 : wo3.cell? ⟨wo1.heap.size, 0, none⟩ = some (.string p.1.holder) := hO3.c 0 0
    have c0_1 : wo3.cell? ⟨wo1.heap.size, 1, none⟩ = some (.slice A1 p.1.waiting.length c1) := hO3.c 0 1
    have c0_2 : wo3.cell? ⟨wo1.heap.size, 2, none⟩ = some (.slice A2 p.1.held.length c2) := hO3.c 0 2
    have cf0 := hO3.fr 0
    have c1_0 : wo3.cell? ⟨w.heap.size + 1 + 1, 0, none⟩ = some (.string bE) := hO3.c 1 0
    have c1_1 : wo3.cell? ⟨w.heap.size + 1 + 1, 1, none⟩ = some (.slice none 0 0) := hO3.c 1 1
    have c1_2 : wo3.cell? ⟨w.heap.size + 1 + 1, 2, none⟩ = some (.slice none 0 0) := hO3.c 1 2
    have c1_3 : wo3.cell? ⟨w.heap.size + 1 + 1, 3, none⟩ = some (.string bE) := hO3.c 1 3
    have c1_4 : wo3.cell? ⟨w.heap.size + 1 + 1, 4, none⟩ = some (.slice none 0 0) := hO3.c 1 4
    have c1_5 : wo3.cell? ⟨w.heap.size + 1 + 1, 5, none⟩ = some (.slice none 0 0) := hO3.c 1 5
    have cf1 := hO3.fr 1
    have c2_0 : wo3.cell? ⟨w.heap.size + 1, 0, none⟩ = some (.int .u8 (kd : Int)) := hO3.c 2 0
    have c2_1 : wo3.cell? ⟨w.heap.size + 1, 1, none⟩ = some (.int .u8 (pl : Int)) := hO3.c 2 1
    have c2_2 : wo3.cell? ⟨w.heap.size + 1, 2, none⟩ = some (.int .u8 (jb : Int)) := hO3.c 2 2
    have cf2 := hO3.fr 2
    have c3_0 : wo3.cell? ⟨w.heap.size, 0, none⟩ = some (.string p.1.holder) := hO3.c 3 0
    have c3_1 : wo3.cell? ⟨w.heap.size, 1, none⟩ = some (.slice A1 p.1.waiting.length c1) := hO3.c 3 1
    have c3_2 : wo3.cell? ⟨w.heap.size, 2, none⟩ = some (.slice A2 p.1.held.length c2) := hO3.c 3 2
    have c3_3 : wo3.cell? ⟨w.heap.size, 3, none⟩ = some (.string p.2.holder) := hO3.c 3 3
    have c3_4 : wo3.cell? ⟨w.heap.size, 4, none⟩ = some (.slice B1 p.2.waiting.length d1) := hO3.c 3 4
    have c3_5 : wo3.cell? ⟨w.heap.size, 5, none⟩ = some (.slice B2 p.2.held.length d2) := hO3.c 3 5
    have cf3 := hO3.fr 3
    go_upto_region 30 with (fail)
    generalize hx_ : World.setCell _ _ _ = wo4
    have hO4 : OwnB w wo4 [(wo1.heap.size, [.string bE, .slice A1 p.1.waiting.length c1, .slice A2 p.1.held.length c2]), (w.heap.size + 1 + 1, [.string bE, .slice none 0 0, .slice none 0 0, .string bE, .slice none 0 0, .slice none 0 0]), (w.heap.size + 1, [.int .u8 (kd : Int), .int .u8 (pl : Int), .int .u8 (jb : Int)]), (w.heap.size, [.string p.1.holder, .slice A1 p.1.waiting.length c1, .slice A2 p.1.held.length c2, .string p.2.holder, .slice B1 p.2.waiting.length d1, .slice B2 p.2.held.length d2])] := by rw [← hx_]; exact hO3.store 0 rfl 0 _
    have zwo4 : wo3.heap.size ≤ wo4.heap.size := by rw [← hx_]; simp [World.setCell]
    replace k1 : SL S0 w.heap.size wo2.heap.size wo4 A1 p.1.waiting.length c1 p.1.waiting := by rw [← hx_]; exact k1.set (by omega) (by omega)
    replace k2 : SL S0 w.heap.size wo2.heap.size wo4 A2 p.1.held.length c2 p.1.held := by rw [← hx_]; exact k2.set (by omega) (by omega)
    replace k3 : SL S0 w.heap.size wo2.heap.size wo4 B1 p.2.waiting.length d1 p.2.waiting := by rw [← hx_]; exact k3.set (by omega) (by omega)
    replace k4 : SL S0 w.heap.size wo2.heap.size wo4 B2 p.2.held.length d2 p.2.held := by rw [← hx_]; exact k4.set (by omega) (by omega)
    replace hsz : wo2.heap.size ≤ wo4.heap.size := by rw [← hx_]; exact szset hsz
    clear hx_ c0_0 c0_1 c0_2 cf0 c1_0 c1_1 c1_2 c1_3 c1_4 c1_5 cf1 c2_0 c2_1 c2_2 cf2 c3_0 c3_1 c3_2 c3_3 c3_4 c3_5 cf3 hO3
    have c0_0 : wo4.cell? ⟨wo1.heap.size, 0, none⟩ = some (.string bE) := hO4.c 0 0
    have c0_1 : wo4.cell? ⟨wo1.heap.size, 1, none⟩ = some (.slice A1 p.1.waiting.length c1) := hO4.c 0 1
    have c0_2 : wo4.cell? ⟨wo1.heap.size, 2, none⟩ = some (.slice A2 p.1.held.length c2) := hO4.c 0 2
    have cf0 := hO4.fr 0
    have c1_0 : wo4.cell? ⟨w.heap.size + 1 + 1, 0, none⟩ = some (.string bE) := hO4.c 1 0
    have c1_1 : wo4.cell? ⟨w.heap.size + 1 + 1, 1, none⟩ = some (.slice none 0 0) := hO4.c 1 1
    have c1_2 : wo4.cell? ⟨w.heap.size + 1 + 1, 2, none⟩ = some (.slice none 0 0) := hO4.c 1 2
    have c1_3 : wo4.cell? ⟨w.heap.size + 1 + 1, 3, none⟩ = some (.string bE) := hO4.c 1 3
    have c1_4 : wo4.cell? ⟨w.heap.size + 1 + 1, 4, none⟩ = some (.slice none 0 0) := hO4.c 1 4
    have c1_5 : wo4.cell? ⟨w.heap.size + 1 + 1, 5, none⟩ = some (.slice none 0 0) := hO4.c 1 5
    have cf1 := hO4.fr 1
    have c2_0 : wo4.cell? ⟨w.heap.size + 1, 0, none⟩ = some (.int .u8 (kd : Int)) := hO4.c 2 0
    have c2_1 : wo4.cell? ⟨w.heap.size + 1, 1, none⟩ = some (.int .u8 (pl : Int)) := hO4.c 2 1
    have c2_2 : wo4.cell? ⟨w.heap.size + 1, 2, none⟩ = some (.int .u8 (jb : Int)) := hO4.c 2 2
    have cf2 := hO4.fr 2
    have c3_0 : wo4.cell? ⟨w.heap.size, 0, none⟩ = some (.string p.1.holder) := hO4.c 3 0
    have c3_1 : wo4.cell? ⟨w.heap.size, 1, none⟩ = some (.slice A1 p.1.waiting.length c1) := hO4.c 3 1
    have c3_2 : wo4.cell? ⟨w.heap.size, 2, none⟩ = some (.slice A2 p.1.held.length c2) := hO4.c 3 2
    have c3_3 : wo4.cell? ⟨w.heap.size, 3, none⟩ = some (.string p.2.holder) := hO4.c 3 3
    have c3_4 : wo4.cell? ⟨w.heap.size, 4, none⟩ = some (.slice B1 p.2.waiting.length d1) := hO4.c 3 4
    have c3_5 : wo4.cell? ⟨w.heap.size, 5, none⟩ = some (.slice B2 p.2.held.length d2) := hO4.c 3 5
    have cf3 := hO4.fr 3
    go_upto_region 31 with (fail)
    generalize hx_ : World.setCell (World.setCell (World.setCell _ _ _) _ _) _ _ = wo5
    have hO5 : OwnB w wo5 [(wo1.heap.size, [.string bE, .slice A1 p.1.waiting.length c1, .slice A2 p.1.held.length c2]), (w.heap.size + 1 + 1, [.string bE, .slice none 0 0, .slice none 0 0, .string bE, .slice none 0 0, .slice none 0 0]), (w.heap.size + 1, [.int .u8 (kd : Int), .int .u8 (pl : Int), .int .u8 (jb : Int)]), (w.heap.size, [.string bE, .slice A1 p.1.waiting.length c1, .slice A2 p.1.held.length c2, .string p.2.holder, .slice B1 p.2.waiting.length d1, .slice B2 p.2.held.length d2])] := by rw [← hx_]; exact ((hO4.store 3 rfl 0 _).store 3 rfl 1 _).store 3 rfl 2 _
    have zwo5 : wo4.heap.size ≤ wo5.heap.size := by rw [← hx_]; simp [World.setCell]
    replace k1 : SL S0 w.heap.size wo2.heap.size wo5 A1 p.1.waiting.length c1 p.1.waiting := by rw [← hx_]; exact (((k1.set (by omega) (by omega)).set (by omega) (by omega)).set (by omega) (by omega))
    replace k2 : SL S0 w.heap.size wo2.heap.size wo5 A2 p.1.held.length c2 p.1.held := by rw [← hx_]; exact (((k2.set (by omega) (by omega)).set (by omega) (by omega)).set (by omega) (by omega))
    replace k3 : SL S0 w.heap.size wo2.heap.size wo5 B1 p.2.waiting.length d1 p.2.waiting := by rw [← hx_]; exact (((k3.set (by omega) (by omega)).set (by omega) (by omega)).set (by omega) (by omega))
    replace k4 : SL S0 w.heap.size wo2.heap.size wo5 B2 p.2.held.length d2 p.2.held := by rw [← hx_]; exact (((k4.set (by omega) (by omega)).set (by omega) (by omega)).set (by omega) (by omega))
    replace hsz : wo2.heap.size ≤ wo5.heap.size := by rw [← hx_]; exact (szset (szset (szset hsz)))
    clear hx_ c0_0 c0_1 c0_2 cf0 c1_0 c1_1 c1_2 c1_3 c1_4 c1_5 cf1 c2_0 c2_1 c2_2 cf2 c3_0 c3_1 c3_2 c3_3 c3_4 c3_5 cf3 hO4
    have c0_0 : wo5.cell? ⟨wo1.heap.size, 0, none⟩ = some (.string bE) := hO5.c 0 0
    have c0_1 : wo5.cell? ⟨wo1.heap.size, 1, none⟩ = some (.slice A1 p.1.waiting.length c1) := hO5.c 0 1
    have c0_2 : wo5.cell? ⟨wo1.heap.size, 2, none⟩ = some (.slice A2 p.1.held.length c2) := hO5.c 0 2
    have cf0 := hO5.fr 0
    have c1_0 : wo5.cell? ⟨w.heap.size + 1 + 1, 0, none⟩ = some (.string bE) := hO5.c 1 0
    have c1_1 : wo5.cell? ⟨w.heap.size + 1 + 1, 1, none⟩ = some (.slice none 0 0) := hO5.c 1 1
    have c1_2 : wo5.cell? ⟨w.heap.size + 1 + 1, 2, none⟩ = some (.slice none 0 0) := hO5.c 1 2
    have c1_3 : wo5.cell? ⟨w.heap.size + 1 + 1, 3, none⟩ = some (.string bE) := hO5.c 1 3
    have c1_4 : wo5.cell? ⟨w.heap.size + 1 + 1, 4, none⟩ = some (.slice none 0 0) := hO5.c 1 4
    have c1_5 : wo5.cell? ⟨w.heap.size + 1 + 1, 5, none⟩ = some (.slice none 0 0) := hO5.c 1 5
    have cf1 := hO5.fr 1
    have c2_0 : wo5.cell? ⟨w.heap.size + 1, 0, none⟩ = some (.int .u8 (kd : Int)) := hO5.c 2 0
    have c2_1 : wo5.cell? ⟨w.heap.size + 1, 1, none⟩ = some (.int .u8 (pl : Int)) := hO5.c 2 1
    have c2_2 : wo5.cell? ⟨w.heap.size + 1, 2, none⟩ = some (.int .u8 (jb : Int)) := hO5.c 2 2
    have cf2 := hO5.fr 2
    have c3_0 : wo5.cell? ⟨w.heap.size, 0, none⟩ = some (.string bE) := hO5.c 3 0
    have c3_1 : wo5.cell? ⟨w.heap.size, 1, none⟩ = some (.slice A1 p.1.waiting.length c1) := hO5.c 3 1
    have c3_2 : wo5.cell? ⟨w.heap.size, 2, none⟩ = some (.slice A2 p.1.held.length c2) := hO5.c 3 2
    have c3_3 : wo5.cell? ⟨w.heap.size, 3, none⟩ = some (.string p.2.holder) := hO5.c 3 3
    have c3_4 : wo5.cell? ⟨w.heap.size, 4, none⟩ = some (.slice B1 p.2.waiting.length d1) := hO5.c 3 4
    have c3_5 : wo5.cell? ⟨w.heap.size, 5, none⟩ = some (.slice B2 p.2.held.length d2) := hO5.c 3 5
    have cf3 := hO5.fr 3
    repeat' ((fail_if_success at_builtin); (first | go_skip | go_guarded | go_step))
    generalize hx_ : World.setCell (World.setCell (World.setCell (World.setCell (World.setCell (World.setCell _ _ _) _ _) _ _) _ _) _ _) _ _ = wo6
    have hO6 : OwnB w wo6 [(wo1.heap.size, [.string bE, .slice A1 p.1.waiting.length c1, .slice A2 p.1.held.length c2]), (w.heap.size + 1 + 1, [.string bE, .slice A1 p.1.waiting.length c1, .slice A2 p.1.held.length c2, .string p.2.holder, .slice B1 p.2.waiting.length d1, .slice B2 p.2.held.length d2]), (w.heap.size + 1, [.int .u8 (kd : Int), .int .u8 (pl : Int), .int .u8 (jb : Int)]), (w.heap.size, [.string bE, .slice A1 p.1.waiting.length c1, .slice A2 p.1.held.length c2, .string p.2.holder, .slice B1 p.2.waiting.length d1, .slice B2 p.2.held.length d2])] := by rw [← hx_]; exact (((((hO5.store 1 rfl 0 _).store 1 rfl 1 _).store 1 rfl 2 _).store 1 rfl 3 _).store 1 rfl 4 _).store 1 rfl 5 _
    have zwo6 : wo5.heap.size ≤ wo6.heap.size := by rw [← hx_]; simp [World.setCell]
    replace k1 : SL S0 w.heap.size wo2.heap.size wo6 A1 p.1.waiting.length c1 p.1.waiting := by rw [← hx_]; exact ((((((k1.set (by omega) (by omega)).set (by omega) (by omega)).set (by omega) (by omega)).set (by omega) (by omega)).set (by omega) (by omega)).set (by omega) (by omega))
    replace k2 : SL S0 w.heap.size wo2.heap.size wo6 A2 p.1.held.length c2 p.1.held := by rw [← hx_]; exact ((((((k2.set (by omega) (by omega)).set (by omega) (by omega)).set (by omega) (by omega)).set (by omega) (by omega)).set (by omega) (by omega)).set (by omega) (by omega))
    replace k3 : SL S0 w.heap.size wo2.heap.size wo6 B1 p.2.waiting.length d1 p.2.waiting := by rw [← hx_]; exact ((((((k3.set (by omega) (by omega)).set (by omega) (by omega)).set (by omega) (by omega)).set (by omega) (by omega)).set (by omega) (by omega)).set (by omega) (by omega))
    replace k4 : SL S0 w.heap.size wo2.heap.size wo6 B2 p.2.held.length d2 p.2.held := by rw [← hx_]; exact ((((((k4.set (by omega) (by omega)).set (by omega) (by omega)).set (by omega) (by omega)).set (by omega) (by omega)).set (by omega) (by omega)).set (by omega) (by omega))
    replace hsz : wo2.heap.size ≤ wo6.heap.size := by rw [← hx_]; exact (szset (szset (szset (szset (szset (szset hsz))))))
    clear hx_ c0_0 c0_1 c0_2 cf0 c1_0 c1_1 c1_2 c1_3 c1_4 c1_5 cf1 c2_0 c2_1 c2_2 cf2 c3_0 c3_1 c3_2 c3_3 c3_4 c3_5 cf3 hO5
    have c0_0 : wo6.cell? ⟨wo1.heap.size, 0, none⟩ = some (.string bE) := hO6.c 0 0
    have c0_1 : wo6.cell? ⟨wo1.heap.size, 1, none⟩ = some (.slice A1 p.1.waiting.length c1) := hO6.c 0 1
    have c0_2 : wo6.cell? ⟨wo1.heap.size, 2, none⟩ = some (.slice A2 p.1.held.length c2) := hO6.c 0 2
    have cf0 := hO6.fr 0
    have c1_0 : wo6.cell? ⟨w.heap.size + 1 + 1, 0, none⟩ = some (.string bE) := hO6.c 1 0
    have c1_1 : wo6.cell? ⟨w.heap.size + 1 + 1, 1, none⟩ = some (.slice A1 p.1.waiting.length c1) := hO6.c 1 1
    have c1_2 : wo6.cell? ⟨w.heap.size + 1 + 1, 2, none⟩ = some (.slice A2 p.1.held.length c2) := hO6.c 1 2
    have c1_3 : wo6.cell? ⟨w.heap.size + 1 + 1, 3, none⟩ = some (.string p.2.holder) := hO6.c 1 3
    have c1_4 : wo6.cell? ⟨w.heap.size + 1 + 1, 4, none⟩ = some (.slice B1 p.2.waiting.length d1) := hO6.c 1 4
    have c1_5 : wo6.cell? ⟨w.heap.size + 1 + 1, 5, none⟩ = some (.slice B2 p.2.held.length d2) := hO6.c 1 5
    have cf1 := hO6.fr 1
    have c2_0 : wo6.cell? ⟨w.heap.size + 1, 0, none⟩ = some (.int .u8 (kd : Int)) := hO6.c 2 0
    have c2_1 : wo6.cell? ⟨w.heap.size + 1, 1, none⟩ = some (.int .u8 (pl : Int)) := hO6.c 2 1
    have c2_2 : wo6.cell? ⟨w.heap.size + 1, 2, none⟩ = some (.int .u8 (jb : Int)) := hO6.c 2 2
    have cf2 := hO6.fr 2
    have c3_0 : wo6.cell? ⟨w.heap.size, 0, none⟩ = some (.string bE) := hO6.c 3 0
    have c3_1 : wo6.cell? ⟨w.heap.size, 1, none⟩ = some (.slice A1 p.1.waiting.length c1) := hO6.c 3 1
    have c3_2 : wo6.cell? ⟨w.heap.size, 2, none⟩ = some (.slice A2 p.1.held.length c2) := hO6.c 3 2
    have c3_3 : wo6.cell? ⟨w.heap.size, 3, none⟩ = some (.string p.2.holder) := hO6.c 3 3
    have c3_4 : wo6.cell? ⟨w.heap.size, 4, none⟩ = some (.slice B1 p.2.waiting.length d1) := hO6.c 3 4
    have c3_5 : wo6.cell? ⟨w.heap.size, 5, none⟩ = some (.slice B2 p.2.held.length d2) := hO6.c 3 5
    have cf3 := hO6.fr 3
    refine bodyPost_ret (v := .tuple #[.agg #[.string bE, .slice A1 p.1.waiting.length c1, .slice A2 p.1.held.length c2, .string p.2.holder, .slice B1 p.2.waiting.length d1, .slice B2 p.2.held.length d2], .bool true]) (by simp only [results, Tryd.results24]; go_simp; first | done | exact ⟨rfl, rfl, rfl⟩ | rfl) rfl ?_
    have hq : Q = expT 2 true j p := by first | exact hQ.out | exact hQ
    clear hQ
    subst hq
    exact ⟨A1, c1, A2, c2, B1, d1, B2, d2, by rw [hm] <;> first | rfl | simp, hO6.below, by rw [hm]; exact ⟨k1.out (by omega), k2.out (by omega), k3.out (by omega), k4.out (by omega)⟩⟩
  | false =>
    have q1 : (p.1.holder.toList == j.toList) = false := h1
    rw [h1, if_neg (by simp)] at hm0
    clear h1
    cases h2 : eqB p.2.holder j with
    | true =>
      have hm : expT 2 true j p = ((p.1, ⟨bE, p.2.waiting, p.2.held⟩), true) := by rw [hm0, h2] <;> rfl
      have q2 : (p.2.holder.toList == j.toList) = true := h2
      clear h2 hm0
      go_upto_region 20 with (fail)
      go_upto_region 21 with (fail)
      generalize hx_ : World.setCell (World.setCell (World.setCell _ _ _) _ _) _ _ = wo3
      have hO3 : OwnB w wo3 [(wo1.heap.size, [.string p.2.holder, .slice B1 p.2.waiting.length d1, .slice B2 p.2.held.length d2]), (w.heap.size + 1 + 1, [.string bE, .slice none 0 0, .slice none 0 0, .string bE, .slice none 0 0, .slice none 0 0]), (w.heap.size + 1, [.int .u8 (kd : Int), .int .u8 (pl : Int), .int .u8 (jb : Int)]), (w.heap.size, [.string p.1.holder, .slice A1 p.1.waiting.length c1, .slice A2 p.1.held.length c2, .string p.2.holder, .slice B1 p.2.waiting.length d1, .slice B2 p.2.held.length d2])] := by rw [← hx_]; exact ((hO2.store 0 rfl 0 _).store 0 rfl 1 _).store 0 rfl 2 _
      have zwo3 : wo2.heap.size ≤ wo3.heap.size := by rw [← hx_]; simp [World.setCell]
      replace k1 : SL S0 w.heap.size wo2.heap.size wo3 A1 p.1.waiting.length c1 p.1.waiting := by rw [← hx_]; exact (((k1.set (by omega) (by omega)).set (by omega) (by omega)).set (by omega) (by omega))
      replace k2 : SL S0 w.heap.size wo2.heap.size wo3 A2 p.1.held.length c2 p.1.held := by rw [← hx_]; exact (((k2.set (by omega) (by omega)).set (by omega) (by omega)).set (by omega) (by omega))
      replace k3 : SL S0 w.heap.size wo2.heap.size wo3 B1 p.2.waiting.length d1 p.2.waiting := by rw [← hx_]; exact (((k3.set (by omega) (by omega)).set (by omega) (by omega)).set (by omega) (by omega))
      replace k4 : SL S0 w.heap.size wo2.heap.size wo3 B2 p.2.held.length d2 p.2.held := by rw [← hx_]; exact (((k4.set (by omega) (by omega)).set (by omega) (by omega)).set (by omega) (by omega))
      replace hsz : wo2.heap.size ≤ wo3.heap.size := by rw [← hx_]; exact (szset (szset (szset hsz)))
      clear hx_ c0_0 c0_1 c0_2 cf0 c1_0 c1_1 c1_2 c1_3 c1_4 c1_5 cf1 c2_0 c2_1 c2_2 cf2 c3_0 c3_1 c3_2 c3_3 c3_4 c3_5 cf3 hO2
      have c0_0 : wo3.cell? ⟨wo1.heap.size, 0, none⟩ = some (.string p.2.holder) := hO3.c 0 0
      have c0_1 : wo3.cell? ⟨wo1.heap.size, 1, none⟩ = some (.slice B1 p.2.waiting.length d1) := hO3.c 0 1
      have c0_2 : wo3.cell? ⟨wo1.heap.size, 2, none⟩ = some (.slice B2 p.2.held.length d2) := hO3.c 0 2
      have cf0 := hO3.fr 0
      have c1_0 : wo3.cell? ⟨w.heap.size + 1 + 1, 0, none⟩ = some (.string bE) := hO3.c 1 0
      have c1_1 : wo3.cell? ⟨w.heap.size + 1 + 1, 1, none⟩ = some (.slice none 0 0) := hO3.c 1 1
      have c1_2 : wo3.cell? ⟨w.heap.size + 1 + 1, 2, none⟩ = some (.slice none 0 0) := hO3.c 1 2
      have c1_3 : wo3.cell? ⟨w.heap.size + 1 + 1, 3, none⟩ = some (.string bE) := hO3.c 1 3
      have c1_4 : wo3.cell? ⟨w.heap.size + 1 + 1, 4, none⟩ = some (.slice none 0 0) := hO3.c 1 4
      have c1_5 : wo3.cell? ⟨w.heap.size + 1 + 1, 5, none⟩ = some (.slice none 0 0) := hO3.c 1 5
      have cf1 := hO3.fr 1
      have c2_0 : wo3.cell? ⟨w.heap.size + 1, 0, none⟩ = some (.int .u8 (kd : Int)) := hO3.c 2 0
      have c2_1 : wo3.cell? ⟨w.heap.size + 1, 1, none⟩ = some (.int .u8 (pl : Int)) := hO3.c 2 1
      have c2_2 : wo3.cell? ⟨w.heap.size + 1, 2, none⟩ = some (.int .u8 (jb : Int)) := hO3.c 2 2
      have cf2 := hO3.fr 2
      have c3_0 : wo3.cell? ⟨w.heap.size, 0, none⟩ = some (.string p.1.holder) := hO3.c 3 0
      have c3_1 : wo3.cell? ⟨w.heap.size, 1, none⟩ = some (.slice A1 p.1.waiting.length c1) := hO3.c 3 1
      have c3_2 : wo3.cell? ⟨w.heap.size, 2, none⟩ = some (.slice A2 p.1.held.length c2) := hO3.c 3 2
      have c3_3 : wo3.cell? ⟨w.heap.size, 3, none⟩ = some (.string p.2.holder) := hO3.c 3 3
      have c3_4 : wo3.cell? ⟨w.heap.size, 4, none⟩ = some (.slice B1 p.2.waiting.length d1) := hO3.c 3 4
      have c3_5 : wo3.cell? ⟨w.heap.size, 5, none⟩ = some (.slice B2 p.2.held.length d2) := hO3.c 3 5
      have cf3 := hO3.fr 3
      go_upto_region 30 with (fail)
      generalize hx_ : World.setCell _ _ _ = wo4
      have hO4 : OwnB w wo4 [(wo1.heap.size, [.string bE, .slice B1 p.2.waiting.length d1, .slice B2 p.2.held.length d2]), (w.heap.size + 1 + 1, [.string bE, .slice none 0 0, .slice none 0 0, .string bE, .slice none 0 0, .slice none 0 0]), (w.heap.size + 1, [.int .u8 (kd : Int), .int .u8 (pl : Int), .int .u8 (jb : Int)]), (w.heap.size, [.string p.1.holder, .slice A1 p.1.waiting.length c1, .slice A2 p.1.held.length c2, .string p.2.holder, .slice B1 p.2.waiting.length d1, .slice B2 p.2.held.length d2])] := by rw [← hx_]; exact hO3.store 0 rfl 0 _
      have zwo4 : wo3.heap.size ≤ wo4.heap.size := by rw [← hx_]; simp [World.setCell]
      replace k1 : SL S0 w.heap.size wo2.heap.size wo4 A1 p.1.waiting.length c1 p.1.waiting := by rw [← hx_]; exact k1.set (by omega) (by omega)
      replace k2 : SL S0 w.heap.size wo2.heap.size wo4 A2 p.1.held.length c2 p.1.held := by rw [← hx_]; exact k2.set (by omega) (by omega)
      replace k3 : SL S0 w.heap.size wo2.heap.size wo4 B1 p.2.waiting.length d1 p.2.waiting := by rw [← hx_]; exact k3.set (by omega) (by omega)
      replace k4 : SL S0 w.heap.size wo2.heap.size wo4 B2 p.2.held.length d2 p.2.held := by rw [← hx_]; exact k4.set (by omega) (by omega)
      replace hsz : wo2.heap.size ≤ wo4.heap.size := by rw [← hx_]; exact szset hsz
      clear hx_ c0_0 c0_1 c0_2 cf0 c1_0 c1_1 c1_2 c1_3 c1_4 c1_5 cf1 c2_0 c2_1 c2_2 cf2 c3_0 c3_1 c3_2 c3_3 c3_4 c3_5 cf3 hO3
      have c0_0 : wo4.cell? ⟨wo1.heap.size, 0, none⟩ = some (.string bE) := hO4.c 0 0
      have c0_1 : wo4.cell? ⟨wo1.heap.size, 1, none⟩ = some (.slice B1 p.2.waiting.length d1) := hO4.c 0 1
      have c0_2 : wo4.cell? ⟨wo1.heap.size, 2, none⟩ = some (.slice B2 p.2.held.length d2) := hO4.c 0 2
      have cf0 := hO4.fr 0
      have c1_0 : wo4.cell? ⟨w.heap.size + 1 + 1, 0, none⟩ = some (.string bE) := hO4.c 1 0
      have c1_1 : wo4.cell? ⟨w.heap.size + 1 + 1, 1, none⟩ = some (.slice none 0 0) := hO4.c 1 1
      have c1_2 : wo4.cell? ⟨w.heap.size + 1 + 1, 2, none⟩ = some (.slice none 0 0) := hO4.c 1 2
      have c1_3 : wo4.cell? ⟨w.heap.size + 1 + 1, 3, none⟩ = some (.string bE) := hO4.c 1 3
      have c1_4 : wo4.cell? ⟨w.heap.size + 1 + 1, 4, none⟩ = some (.slice none 0 0) := hO4.c 1 4
      have c1_5 : wo4.cell? ⟨w.heap.size + 1 + 1, 5, none⟩ = some (.slice none 0 0) := hO4.c 1 5
      have cf1 := hO4.fr 1
      have c2_0 : wo4.cell? ⟨w.heap.size + 1, 0, none⟩ = some (.int .u8 (kd : Int)) := hO4.c 2 0
      have c2_1 : wo4.cell? ⟨w.heap.size + 1, 1, none⟩ = some (.int .u8 (pl : Int)) := hO4.c 2 1
      have c2_2 : wo4.cell? ⟨w.heap.size + 1, 2, none⟩ = some (.int .u8 (jb : Int)) := hO4.c 2 2
      have cf2 := hO4.fr 2
      have c3_0 : wo4.cell? ⟨w.heap.size, 0, none⟩ = some (.string p.1.holder) := hO4.c 3 0
      have c3_1 : wo4.cell? ⟨w.heap.size, 1, none⟩ = some (.slice A1 p.1.waiting.length c1) := hO4.c 3 1
      have c3_2 : wo4.cell? ⟨w.heap.size, 2, none⟩ = some (.slice A2 p.1.held.length c2) := hO4.c 3 2
      have c3_3 : wo4.cell? ⟨w.heap.size, 3, none⟩ = some (.string p.2.holder) := hO4.c 3 3
      have c3_4 : wo4.cell? ⟨w.heap.size, 4, none⟩ = some (.slice B1 p.2.waiting.length d1) := hO4.c 3 4
      have c3_5 : wo4.cell? ⟨w.heap.size, 5, none⟩ = some (.slice B2 p.2.held.length d2) := hO4.c 3 5
      have cf3 := hO4.fr 3
      go_upto_region 31 with (fail)
      generalize hx_ : World.setCell (World.setCell (World.setCell _ _ _) _ _) _ _ = wo5
      have hO5 : OwnB w wo5 [(wo1.heap.size, [.string bE, .slice B1 p.2.waiting.length d1, .slice B2 p.2.held.length d2]), (w.heap.size + 1 + 1, [.string bE, .slice none 0 0, .slice none 0 0, .string bE, .slice none 0 0, .slice none 0 0]), (w.heap.size + 1, [.int .u8 (kd : Int), .int .u8 (pl : Int), .int .u8 (jb : Int)]), (w.heap.size, [.string p.1.holder, .slice A1 p.1.waiting.length c1, .slice A2 p.1.held.length c2, .string bE, .slice B1 p.2.waiting.length d1, .slice B2 p.2.held.length d2])] := by rw [← hx_]; exact ((hO4.store 3 rfl 3 _).store 3 rfl 4 _).store 3 rfl 5 _
      have zwo5 : wo4.heap.size ≤ wo5.heap.size := by rw [← hx_]; simp [World.setCell]
      replace k1 : SL S0 w.heap.size wo2.heap.size wo5 A1 p.1.waiting.length c1 p.1.waiting := by rw [← hx_]; exact (((k1.set (by omega) (by omega)).set (by omega) (by omega)).set (by omega) (by omega))
      replace k2 : SL S0 w.heap.size wo2.heap.size wo5 A2 p.1.held.length c2 p.1.held := by rw [← hx_]; exact (((k2.set (by omega) (by omega)).set (by omega) (by omega)).set (by omega) (by omega))
      replace k3 : SL S0 w.heap.size wo2.heap.size wo5 B1 p.2.waiting.length d1 p.2.waiting := by rw [← hx_]; exact (((k3.set (by omega) (by omega)).set (by omega) (by omega)).set (by omega) (by omega))
      replace k4 : SL S0 w.heap.size wo2.heap.size wo5 B2 p.2.held.length d2 p.2.held := by rw [← hx_]; exact (((k4.set (by omega) (by omega)).set (by omega) (by omega)).set (by omega) (by omega))
      replace hsz : wo2.heap.size ≤ wo5.heap.size := by rw [← hx_]; exact (szset (szset (szset hsz)))
      clear hx_ c0_0 c0_1 c0_2 cf0 c1_0 c1_1 c1_2 c1_3 c1_4 c1_5 cf1 c2_0 c2_1 c2_2 cf2 c3_0 c3_1 c3_2 c3_3 c3_4 c3_5 cf3 hO4
      have c0_0 : wo5.cell? ⟨wo1.heap.size, 0, none⟩ = some (.string bE) := hO5.c 0 0
      have c0_1 : wo5.cell? ⟨wo1.heap.size, 1, none⟩ = some (.slice B1 p.2.waiting.length d1) := hO5.c 0 1
      have c0_2 : wo5.cell? ⟨wo1.heap.size, 2, none⟩ = some (.slice B2 p.2.held.length d2) := hO5.c 0 2
      have cf0 := hO5.fr 0
      have c1_0 : wo5.cell? ⟨w.heap.size + 1 + 1, 0, none⟩ = some (.string bE) := hO5.c 1 0
      have c1_1 : wo5.cell? ⟨w.heap.size + 1 + 1, 1, none⟩ = some (.slice none 0 0) := hO5.c 1 1
      have c1_2 : wo5.cell? ⟨w.heap.size + 1 + 1, 2, none⟩ = some (.slice none 0 0) := hO5.c 1 2
      have c1_3 : wo5.cell? ⟨w.heap.size + 1 + 1, 3, none⟩ = some (.string bE) := hO5.c 1 3
      have c1_4 : wo5.cell? ⟨w.heap.size + 1 + 1, 4, none⟩ = some (.slice none 0 0) := hO5.c 1 4
      have c1_5 : wo5.cell? ⟨w.heap.size + 1 + 1, 5, none⟩ = some (.slice none 0 0) := hO5.c 1 5
      have cf1 := hO5.fr 1
      have c2_0 : wo5.cell? ⟨w.heap.size + 1, 0, none⟩ = some (.int .u8 (kd : Int)) := hO5.c 2 0
      have c2_1 : wo5.cell? ⟨w.heap.size + 1, 1, none⟩ = some (.int .u8 (pl : Int)) := hO5.c 2 1
      have c2_2 : wo5.cell? ⟨w.heap.size + 1, 2, none⟩ = some (.int .u8 (jb : Int)) := hO5.c 2 2
      have cf2 := hO5.fr 2
      have c3_0 : wo5.cell? ⟨w.heap.size, 0, none⟩ = some (.string p.1.holder) := hO5.c 3 0
      have c3_1 : wo5.cell? ⟨w.heap.size, 1, none⟩ = some (.slice A1 p.1.waiting.length c1) := hO5.c 3 1
      have c3_2 : wo5.cell? ⟨w.heap.size, 2, none⟩ = some (.slice A2 p.1.held.length c2) := hO5.c 3 2
      have c3_3 : wo5.cell? ⟨w.heap.size, 3, none⟩ = some (.string bE) := hO5.c 3 3
      have c3_4 : wo5.cell? ⟨w.heap.size, 4, none⟩ = some (.slice B1 p.2.waiting.length d1) := hO5.c 3 4
      have c3_5 : wo5.cell? ⟨w.heap.size, 5, none⟩ = some (.slice B2 p.2.held.length d2) := hO5.c 3 5
      have cf3 := hO5.fr 3
      repeat' ((fail_if_success at_builtin); (first | go_skip | go_guarded | go_step))
      generalize hx_ : World.setCell (World.setCell (World.setCell (World.setCell (World.setCell (World.setCell _ _ _) _ _) _ _) _ _) _ _) _ _ = wo6
      have hO6 : OwnB w wo6 [(wo1.heap.size, [.string bE, .slice B1 p.2.waiting.length d1, .slice B2 p.2.held.length d2]), (w.heap.size + 1 + 1, [.string p.1.holder, .slice A1 p.1.waiting.length c1, .slice A2 p.1.held.length c2, .string bE, .slice B1 p.2.waiting.length d1, .slice B2 p.2.held.length d2]), (w.heap.size + 1, [.int .u8 (kd : Int), .int .u8 (pl : Int), .int .u8 (jb : Int)]), (w.heap.size, [.string p.1.holder, .slice A1 p.1.waiting.length c1, .slice A2 p.1.held.length c2, .string bE, .slice B1 p.2.waiting.length d1, .slice B2 p.2.held.length d2])] := by rw [← hx_]; exact (((((hO5.store 1 rfl 0 _).store 1 rfl 1 _).store 1 rfl 2 _).store 1 rfl 3 _).store 1 rfl 4 _).store 1 rfl 5 _
      have zwo6 : wo5.heap.size ≤ wo6.heap.size := by rw [← hx_]; simp [World.setCell]
      replace k1 : SL S0 w.heap.size wo2.heap.size wo6 A1 p.1.waiting.length c1 p.1.waiting := by rw [← hx_]; exact ((((((k1.set (by omega) (by omega)).set (by omega) (by omega)).set (by omega) (by omega)).set (by omega) (by omega)).set (by omega) (by omega)).set (by omega) (by omega))
      replace k2 : SL S0 w.heap.size wo2.heap.size wo6 A2 p.1.held.length c2 p.1.held := by rw [← hx_]; exact ((((((k2.set (by omega) (by omega)).set (by omega) (by omega)).set (by omega) (by omega)).set (by omega) (by omega)).set (by omega) (by omega)).set (by omega) (by omega))
      replace k3 : SL S0 w.heap.size wo2.heap.size wo6 B1 p.2.waiting.length d1 p.2.waiting := by rw [← hx_]; exact ((((((k3.set (by omega) (by omega)).set (by omega) (by omega)).set (by omega) (by omega)).set (by omega) (by omega)).set (by omega) (by omega)).set (by omega) (by omega))
      replace k4 : SL S0 w.heap.size wo2.heap.size wo6 B2 p.2.held.length d2 p.2.held := by rw [← hx_]; exact ((((((k4.set (by omega) (by omega)).set (by omega) (by omega)).set (by omega) (by omega)).set (by omega) (by omega)).set (by omega) (by omega)).set (by omega) (by omega))
      replace hsz : wo2.heap.size ≤ wo6.heap.size := by rw [← hx_]; exact (szset (szset (szset (szset (szset (szset hsz))))))
      clear hx_ c0_0 c0_1 c0_2 cf0 c1_0 c1_1 c1_2 c1_3 c1_4 c1_5 cf1 c2_0 c2_1 c2_2 cf2 c3_0 c3_1 c3_2 c3_3 c3_4 c3_5 cf3 hO5
      have c0_0 : wo6.cell? ⟨wo1.heap.size, 0, none⟩ = some (.string bE) := hO6.c 0 0
      have c0_1 : wo6.cell? ⟨wo1.heap.size, 1, none⟩ = some (.slice B1 p.2.waiting.length d1) := hO6.c 0 1
      have c0_2 : wo6.cell? ⟨wo1.heap.size, 2, none⟩ = some (.slice B2 p.2.held.length d2) := hO6.c 0 2
      have cf0 := hO6.fr 0
      have c1_0 : wo6.cell? ⟨w.heap.size + 1 + 1, 0, none⟩ = some (.string p.1.holder) := hO6.c 1 0
      have c1_1 : wo6.cell? ⟨w.heap.size + 1 + 1, 1, none⟩ = some (.slice A1 p.1.waiting.length c1) := hO6.c 1 1
      have c1_2 : wo6.cell? ⟨w.heap.size + 1 + 1, 2, none⟩ = some (.slice A2 p.1.held.length c2) := hO6.c 1 2
      have c1_3 : wo6.cell? ⟨w.heap.size + 1 + 1, 3, none⟩ = some (.string bE) := hO6.c 1 3
      have c1_4 : wo6.cell? ⟨w.heap.size + 1 + 1, 4, none⟩ = some (.slice B1 p.2.waiting.length d1) := hO6.c 1 4
      have c1_5 : wo6.cell? ⟨w.heap.size + 1 + 1, 5, none⟩ = some (.slice B2 p.2.held.length d2) := hO6.c 1 5
      have cf1 := hO6.fr 1
      have c2_0 : wo6.cell? ⟨w.heap.size + 1, 0, none⟩ = some (.int .u8 (kd : Int)) := hO6.c 2 0
      have c2_1 : wo6.cell? ⟨w.heap.size + 1, 1, none⟩ = some (.int .u8 (pl : Int)) := hO6.c 2 1
      have c2_2 : wo6.cell? ⟨w.heap.size + 1, 2, none⟩ = some (.int .u8 (jb : Int)) := hO6.c 2 2
      have cf2 := hO6.fr 2
      have c3_0 : wo6.cell? ⟨w.heap.size, 0, none⟩ = some (.string p.1.holder) := hO6.c 3 0
      have c3_1 : wo6.cell? ⟨w.heap.size, 1, none⟩ = some (.slice A1 p.1.waiting.length c1) := hO6.c 3 1
      have c3_2 : wo6.cell? ⟨w.heap.size, 2, none⟩ = some (.slice A2 p.1.held.length c2) := hO6.c 3 2
      have c3_3 : wo6.cell? ⟨w.heap.size, 3, none⟩ = some (.string bE) := hO6.c 3 3
      have c3_4 : wo6.cell? ⟨w.heap.size, 4, none⟩ = some (.slice B1 p.2.waiting.length d1) := hO6.c 3 4
      have c3_5 : wo6.cell? ⟨w.heap.size, 5, none⟩ = some (.slice B2 p.2.held.length d2) := hO6.c 3 5
      have cf3 := hO6.fr 3
      refine bodyPost_ret (v := .tuple #[.agg #[.string p.1.holder, .slice A1 p.1.waiting.length c1, .slice A2 p.1.held.length c2, .string bE, .slice B1 p.2.waiting.length d1, .slice B2 p.2.held.length d2], .bool true]) (by simp only [results, Tryd.results24]; go_simp; first | done | exact ⟨rfl, rfl, rfl⟩ | rfl) rfl ?_
      have hq : Q = expT 2 true j p := by first | exact hQ.out | exact hQ
      clear hQ
      subst hq
      exact ⟨A1, c1, A2, c2, B1, d1, B2, d2, by rw [hm] <;> first | rfl | simp, hO6.below, by rw [hm]; exact ⟨k1.out (by omega), k2.out (by omega), k3.out (by omega), k4.out (by omega)⟩⟩
    | false =>
      have hm : expT 2 true j p = (p, false) := by rw [hm0, h2] <;> rfl
      have q2 : (p.2.holder.toList == j.toList) = false := h2
      clear h2 hm0
      repeat' ((fail_if_success at_builtin); (first | go_skip | go_guarded | go_step))
      generalize hx_ : World.setCell (World.setCell (World.setCell (World.setCell (World.setCell (World.setCell _ _ _) _ _) _ _) _ _) _ _) _ _ = wo3
      have hO3 : OwnB w wo3 [(wo1.heap.size, [.string p.2.holder, .slice B1 p.2.waiting.length d1, .slice B2 p.2.held.length d2]), (w.heap.size + 1 + 1, [.string p.1.holder, .slice A1 p.1.waiting.length c1, .slice A2 p.1.held.length c2, .string p.2.holder, .slice B1 p.2.waiting.length d1, .slice B2 p.2.held.length d2]), (w.heap.size + 1, [.int .u8 (kd : Int), .int .u8 (pl : Int), .int .u8 (jb : Int)]), (w.heap.size, [.string p.1.holder, .slice A1 p.1.waiting.length c1, .slice A2 p.1.held.length c2, .string p.2.holder, .slice B1 p.2.waiting.length d1, .slice B2 p.2.held.length d2])] := by rw [← hx_]; exact (((((hO2.store 1 rfl 0 _).store 1 rfl 1 _).store 1 rfl 2 _).store 1 rfl 3 _).store 1 rfl 4 _).store 1 rfl 5 _
      have zwo3 : wo2.heap.size ≤ wo3.heap.size := by rw [← hx_]; simp [World.setCell]
      replace k1 : SL S0 w.heap.size wo2.heap.size wo3 A1 p.1.waiting.length c1 p.1.waiting := by rw [← hx_]; exact ((((((k1.set (by omega) (by omega)).set (by omega) (by omega)).set (by omega) (by omega)).set (by omega) (by omega)).set (by omega) (by omega)).set (by omega) (by omega))
      replace k2 : SL S0 w.heap.size wo2.heap.size wo3 A2 p.1.held.length c2 p.1.held := by rw [← hx_]; exact ((((((k2.set (by omega) (by omega)).set (by omega) (by omega)).set (by omega) (by omega)).set (by omega) (by omega)).set (by omega) (by omega)).set (by omega) (by omega))
      replace k3 : SL S0 w.heap.size wo2.heap.size wo3 B1 p.2.waiting.length d1 p.2.waiting := by rw [← hx_]; exact ((((((k3.set (by omega) (by omega)).set (by omega) (by omega)).set (by omega) (by omega)).set (by omega) (by omega)).set (by omega) (by omega)).set (by omega) (by omega))
      replace k4 : SL S0 w.heap.size wo2.heap.size wo3 B2 p.2.held.length d2 p.2.held := by rw [← hx_]; exact ((((((k4.set (by omega) (by omega)).set (by omega) (by omega)).set (by omega) (by omega)).set (by omega) (by omega)).set (by omega) (by omega)).set (by omega) (by omega))
      replace hsz : wo2.heap.size ≤ wo3.heap.size := by rw [← hx_]; exact (szset (szset (szset (szset (szset (szset hsz))))))
      clear hx_ c0_0 c0_1 c0_2 cf0 c1_0 c1_1 c1_2 c1_3 c1_4 c1_5 cf1 c2_0 c2_1 c2_2 cf2 c3_0 c3_1 c3_2 c3_3 c3_4 c3_5 cf3 hO2
      have c0_0 : wo3.cell? ⟨wo1.heap.size, 0, none⟩ = some (.string p.2.holder) := hO3.c 0 0
      have c0_1 : wo3.cell? ⟨wo1.heap.size, 1, none⟩ = some (.slice B1 p.2.waiting.length d1) := hO3.c 0 1
      have c0_2 : wo3.cell? ⟨wo1.heap.size, 2, none⟩ = some (.slice B2 p.2.held.length d2) := hO3.c 0 2
      have cf0 := hO3.fr 0
      have c1_0 : wo3.cell? ⟨w.heap.size + 1 + 1, 0, none⟩ = some (.string p.1.holder) := hO3.c 1 0
      have c1_1 : wo3.cell? ⟨w.heap.size + 1 + 1, 1, none⟩ = some (.slice A1 p.1.waiting.length c1) := hO3.c 1 1
      have c1_2 : wo3.cell? ⟨w.heap.size + 1 + 1, 2, none⟩ = some (.slice A2 p.1.held.length c2) := hO3.c 1 2
      have c1_3 : wo3.cell? ⟨w.heap.size + 1 + 1, 3, none⟩ = some (.string p.2.holder) := hO3.c 1 3
      have c1_4 : wo3.cell? ⟨w.heap.size + 1 + 1, 4, none⟩ = some (.slice B1 p.2.waiting.length d1) := hO3.c 1 4
      have c1_5 : wo3.cell? ⟨w.heap.size + 1 + 1, 5, none⟩ = some (.slice B2 p.2.held.length d2) := hO3.c 1 5
      have cf1 := hO3.fr 1
      have c2_0 : wo3.cell? ⟨w.heap.size + 1, 0, none⟩ = some (.int .u8 (kd : Int)) := hO3.c 2 0
      have c2_1 : wo3.cell? ⟨w.heap.size + 1, 1, none⟩ = some (.int .u8 (pl : Int)) := hO3.c 2 1
      have c2_2 : wo3.cell? ⟨w.heap.size + 1, 2, none⟩ = some (.int .u8 (jb : Int)) := hO3.c 2 2
      have cf2 := hO3.fr 2
      have c3_0 : wo3.cell? ⟨w.heap.size, 0, none⟩ = some (.string p.1.holder) := hO3.c 3 0
      have c3_1 : wo3.cell? ⟨w.heap.size, 1, none⟩ = some (.slice A1 p.1.waiting.length c1) := hO3.c 3 1
      have c3_2 : wo3.cell? ⟨w.heap.size, 2, none⟩ = some (.slice A2 p.1.held.length c2) := hO3.c 3 2
      have c3_3 : wo3.cell? ⟨w.heap.size, 3, none⟩ = some (.string p.2.holder) := hO3.c 3 3
      have c3_4 : wo3.cell? ⟨w.heap.size, 4, none⟩ = some (.slice B1 p.2.waiting.length d1) := hO3.c 3 4
      have c3_5 : wo3.cell? ⟨w.heap.size, 5, none⟩ = some (.slice B2 p.2.held.length d2) := hO3.c 3 5
      have cf3 := hO3.fr 3
      refine bodyPost_ret (v := .tuple #[.agg #[.string p.1.holder, .slice A1 p.1.waiting.length c1, .slice A2 p.1.held.length c2, .string p.2.holder, .slice B1 p.2.waiting.length d1, .slice B2 p.2.held.length d2], .bool false]) (by simp only [results, Tryd.results24]; go_simp; first | done | exact ⟨rfl, rfl, rfl⟩ | rfl) rfl ?_
      have hq : Q = expT 2 true j p := by first | exact hQ.out | exact hQ
      clear hQ
      subst hq
      exact ⟨A1, c1, A2, c2, B1, d1, B2, d2, by rw [hm] <;> first | rfl | simp, hO3.below, by rw [hm]; exact ⟨k1.out (by omega), k2.out (by omega), k3.out (by omega), k4.out (by omega)⟩⟩
end Go.Proofs.YtennhjkhjplmoaaDoor
