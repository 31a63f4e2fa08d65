/- Deploy: Locks: expected: kind 1. -/
import Derived.Test.YtennhjkhjplmoaaDoorDpT3p
namespace Go.Proofs.YtennhjkhjplmoaaDoor
open Go.RowKit
set_option maxRecDepth 100000 in
set_option maxHeartbeats 4000000 in
theorem exp10_any (kd pl jb : Nat) (p : Turn × Turn) (A1 : Option Addr) (c1 : Nat) (A2 : Option Addr) (c2 : Nat) (B1 : Option Addr) (d1 : Nat) (B2 : Option Addr) (d2 : Nat) (j : ByteArray) (w : World) (S0 : Nat → Prop) (hS0 : ∀ x, S0 x → x < w.heap.size) (h : TwoS S0 w p A1 c1 A2 c2 B1 d1 B2 d2) (hl1 : p.1.waiting.length ≤ 100000) (_hl2 : p.2.waiting.length ≤ 100000) (hl3 : p.1.held.length ≤ 100000) (_hl4 : p.2.held.length ≤ 100000) (hkd : (kd : Int).tmod 4 = 1) (hpl : (wrap64 (pl : Int)).tmod 2 = 0) (Q : (Turn × Turn) × Bool) (hQ : Q = expT 1 false j p) :
    Calls Tryd.prog 24 #[.agg #[.string p.1.holder, .slice A1 p.1.waiting.length c1, .slice A2 p.1.held.length c2, .string p.2.holder, .slice B1 p.2.waiting.length d1, .slice B2 p.2.held.length d2], .agg #[.int .u8 (kd : Int), .int .u8 (pl : Int), .int .u8 (jb : Int)], .string j] w fun e w' => ∃ (A1' : Option Addr) (c1' : Nat) (A2' : Option Addr) (c2' : Nat) (B1' : Option Addr) (d1' : Nat) (B2' : Option Addr) (d2' : Nat), e = .returned (.tuple #[.agg #[.string Q.1.1.holder, .slice A1' Q.1.1.waiting.length c1', .slice A2' Q.1.1.held.length c2', .string Q.1.2.holder, .slice B1' Q.1.2.waiting.length d1', .slice B2' Q.1.2.held.length d2'], .bool Q.2]) ∧ Below w.heap.size w w' ∧ TwoS (fun x => x < w'.heap.size ∧ (S0 x ∨ w.heap.size ≤ x)) w' Q.1 A1' c1' A2' c2' B1' d1' B2' d2' := by
  go_enter Tryd.func24, Tryd.ntmps24
  go_upto_region 1 with (fail)
  generalize hx_ : World.alloc (World.alloc (World.alloc w _) _) _ = wo1
  have hO1 : OwnB w wo1 [(w.heap.size + 1 + 1, [.string bE, .slice none 0 0, .slice none 0 0, .string bE, .slice none 0 0, .slice none 0 0]), (w.heap.size + 1, [.int .u8 (kd : Int), .int .u8 (pl : Int), .int .u8 (jb : Int)]), (w.heap.size, [.string p.1.holder, .slice A1 p.1.waiting.length c1, .slice A2 p.1.held.length c2, .string p.2.holder, .slice B1 p.2.waiting.length d1, .slice B2 p.2.held.length d2])] := by rw [← hx_]; exact (((OwnB.refl w).new #[.string p.1.holder, .slice A1 p.1.waiting.length c1, .slice A2 p.1.held.length c2, .string p.2.holder, .slice B1 p.2.waiting.length d1, .slice B2 p.2.held.length d2] _ (g := w.heap.size)).new #[.int .u8 (kd : Int), .int .u8 (pl : Int), .int .u8 (jb : Int)] _ (g := w.heap.size + 1)).new #[.string bE, .slice none 0 0, .slice none 0 0, .string bE, .slice none 0 0, .slice none 0 0] _ (g := w.heap.size + 1 + 1)
  have hbn : Below w.heap.size w wo1 := by rw [← hx_]; exact (((Below.refl _ _).alloc (Nat.le_refl _) _).alloc (by simp) _).alloc (by simp; omega) _
  have zwo1 : w.heap.size + 2 < wo1.heap.size := by rw [← hx_]; simp <;> omega
  clear hx_
  have c0_0 : wo1.cell? ⟨w.heap.size + 1 + 1, 0, none⟩ = some (.string bE) := hO1.c 0 0
  have c0_1 : wo1.cell? ⟨w.heap.size + 1 + 1, 1, none⟩ = some (.slice none 0 0) := hO1.c 0 1
  have c0_2 : wo1.cell? ⟨w.heap.size + 1 + 1, 2, none⟩ = some (.slice none 0 0) := hO1.c 0 2
  have c0_3 : wo1.cell? ⟨w.heap.size + 1 + 1, 3, none⟩ = some (.string bE) := hO1.c 0 3
  have c0_4 : wo1.cell? ⟨w.heap.size + 1 + 1, 4, none⟩ = some (.slice none 0 0) := hO1.c 0 4
  have c0_5 : wo1.cell? ⟨w.heap.size + 1 + 1, 5, none⟩ = some (.slice none 0 0) := hO1.c 0 5
  have cf0 := hO1.fr 0
  have c1_0 : wo1.cell? ⟨w.heap.size + 1, 0, none⟩ = some (.int .u8 (kd : Int)) := hO1.c 1 0
  have c1_1 : wo1.cell? ⟨w.heap.size + 1, 1, none⟩ = some (.int .u8 (pl : Int)) := hO1.c 1 1
  have c1_2 : wo1.cell? ⟨w.heap.size + 1, 2, none⟩ = some (.int .u8 (jb : Int)) := hO1.c 1 2
  have cf1 := hO1.fr 1
  have c2_0 : wo1.cell? ⟨w.heap.size, 0, none⟩ = some (.string p.1.holder) := hO1.c 2 0
  have c2_1 : wo1.cell? ⟨w.heap.size, 1, none⟩ = some (.slice A1 p.1.waiting.length c1) := hO1.c 2 1
  have c2_2 : wo1.cell? ⟨w.heap.size, 2, none⟩ = some (.slice A2 p.1.held.length c2) := hO1.c 2 2
  have c2_3 : wo1.cell? ⟨w.heap.size, 3, none⟩ = some (.string p.2.holder) := hO1.c 2 3
  have c2_4 : wo1.cell? ⟨w.heap.size, 4, none⟩ = some (.slice B1 p.2.waiting.length d1) := hO1.c 2 4
  have c2_5 : wo1.cell? ⟨w.heap.size, 5, none⟩ = some (.slice B2 p.2.held.length d2) := hO1.c 2 5
  have cf2 := hO1.fr 2
  clear hbn
  go_upto_region 3 with (fail)
  generalize hx_ : World.alloc wo1 _ = wo2
  have hO2 : OwnB w wo2 [(wo1.heap.size, [.string p.1.holder, .slice A1 p.1.waiting.length c1, .slice A2 p.1.held.length c2]), (w.heap.size + 1 + 1, [.string bE, .slice none 0 0, .slice none 0 0, .string bE, .slice none 0 0, .slice none 0 0]), (w.heap.size + 1, [.int .u8 (kd : Int), .int .u8 (pl : Int), .int .u8 (jb : Int)]), (w.heap.size, [.string p.1.holder, .slice A1 p.1.waiting.length c1, .slice A2 p.1.held.length c2, .string p.2.holder, .slice B1 p.2.waiting.length d1, .slice B2 p.2.held.length d2])] := by rw [← hx_]; exact hO1.new #[.string p.1.holder, .slice A1 p.1.waiting.length c1, .slice A2 p.1.held.length c2] _ (g := wo1.heap.size)
  have hbn : Below wo1.heap.size wo1 wo2 := by rw [← hx_]; exact (Below.refl _ _).alloc (Nat.le_refl _) _
  have zwo2 : wo1.heap.size + 0 < wo2.heap.size := by rw [← hx_]; simp <;> omega
  clear hx_ c0_0 c0_1 c0_2 c0_3 c0_4 c0_5 cf0 c1_0 c1_1 c1_2 cf1 c2_0 c2_1 c2_2 c2_3 c2_4 c2_5 cf2 hO1
  have c0_0 : wo2.cell? ⟨wo1.heap.size, 0, none⟩ = some (.string p.1.holder) := hO2.c 0 0
  have c0_1 : wo2.cell? ⟨wo1.heap.size, 1, none⟩ = some (.slice A1 p.1.waiting.length c1) := hO2.c 0 1
  have c0_2 : wo2.cell? ⟨wo1.heap.size, 2, none⟩ = some (.slice A2 p.1.held.length c2) := hO2.c 0 2
  have cf0 := hO2.fr 0
  have c1_0 : wo2.cell? ⟨w.heap.size + 1 + 1, 0, none⟩ = some (.string bE) := hO2.c 1 0
  have c1_1 : wo2.cell? ⟨w.heap.size + 1 + 1, 1, none⟩ = some (.slice none 0 0) := hO2.c 1 1
  have c1_2 : wo2.cell? ⟨w.heap.size + 1 + 1, 2, none⟩ = some (.slice none 0 0) := hO2.c 1 2
  have c1_3 : wo2.cell? ⟨w.heap.size + 1 + 1, 3, none⟩ = some (.string bE) := hO2.c 1 3
  have c1_4 : wo2.cell? ⟨w.heap.size + 1 + 1, 4, none⟩ = some (.slice none 0 0) := hO2.c 1 4
  have c1_5 : wo2.cell? ⟨w.heap.size + 1 + 1, 5, none⟩ = some (.slice none 0 0) := hO2.c 1 5
  have cf1 := hO2.fr 1
  have c2_0 : wo2.cell? ⟨w.heap.size + 1, 0, none⟩ = some (.int .u8 (kd : Int)) := hO2.c 2 0
  have c2_1 : wo2.cell? ⟨w.heap.size + 1, 1, none⟩ = some (.int .u8 (pl : Int)) := hO2.c 2 1
  have c2_2 : wo2.cell? ⟨w.heap.size + 1, 2, none⟩ = some (.int .u8 (jb : Int)) := hO2.c 2 2
  have cf2 := hO2.fr 2
  have c3_0 : wo2.cell? ⟨w.heap.size, 0, none⟩ = some (.string p.1.holder) := hO2.c 3 0
  have c3_1 : wo2.cell? ⟨w.heap.size, 1, none⟩ = some (.slice A1 p.1.waiting.length c1) := hO2.c 3 1
  have c3_2 : wo2.cell? ⟨w.heap.size, 2, none⟩ = some (.slice A2 p.1.held.length c2) := hO2.c 3 2
  have c3_3 : wo2.cell? ⟨w.heap.size, 3, none⟩ = some (.string p.2.holder) := hO2.c 3 3
  have c3_4 : wo2.cell? ⟨w.heap.size, 4, none⟩ = some (.slice B1 p.2.waiting.length d1) := hO2.c 3 4
  have c3_5 : wo2.cell? ⟨w.heap.size, 5, none⟩ = some (.slice B2 p.2.held.length d2) := hO2.c 3 5
  have cf3 := hO2.fr 3
  clear hbn
  have hbz := hO2.below
  have k1 : SL S0 w.heap.size wo2.heap.size wo2 A1 p.1.waiting.length c1 p.1.waiting := SL.old h.w1 hS0 hbz
  have k2 : SL S0 w.heap.size wo2.heap.size wo2 A2 p.1.held.length c2 p.1.held := SL.old h.h1 hS0 hbz
  have k3 : SL S0 w.heap.size wo2.heap.size wo2 B1 p.2.waiting.length d1 p.2.waiting := SL.old h.w2 hS0 hbz
  have k4 : SL S0 w.heap.size wo2.heap.size wo2 B2 p.2.held.length d2 p.2.held := SL.old h.h2 hS0 hbz
  have hsz : wo2.heap.size ≤ wo2.heap.size := Nat.le_refl _
  clear h hbz
  have hm0 : expT 1 false j p = (if (eqB p.1.holder bE && headB p.1.waiting j) = false then (p, false) else ((⟨j, p.1.waiting.drop 1, p.1.held ++ [j]⟩, p.2), true)) := rfl
  cases hb1 : eqB p.1.holder bE with
  | false =>
    have hm : expT 1 false j p = (p, false) := by rw [hm0, hb1] <;> rfl
    have q1 : (p.1.holder.toList == []) = false := by rw [← hb1]; exact (congrArg (p.1.holder.toList == ·) (ByteArray.toList_eq bE)).symm
    clear hb1 hm0
    repeat' ((fail_if_success at_builtin); (first | go_skip | go_guarded | go_step))
    generalize hx_ : World.setCell (World.setCell (World.setCell (World.setCell (World.setCell (World.setCell _ _ _) _ _) _ _) _ _) _ _) _ _ = wo3
    have hO3 : OwnB w wo3 [(wo1.heap.size, [.string p.1.holder, .slice A1 p.1.waiting.length c1, .slice A2 p.1.held.length c2]), (w.heap.size + 1 + 1, [.string p.1.holder, .slice A1 p.1.waiting.length c1, .slice A2 p.1.held.length c2, .string p.2.holder, .slice B1 p.2.waiting.length d1, .slice B2 p.2.held.length d2]), (w.heap.size + 1, [.int .u8 (kd : Int), .int .u8 (pl : Int), .int .u8 (jb : Int)]), (w.heap.size, [.string p.1.holder, .slice A1 p.1.waiting.length c1, .slice A2 p.1.held.length c2, .string p.2.holder, .slice B1 p.2.waiting.length d1, .slice B2 p.2.held.length d2])] := by rw [← hx_]; exact (((((hO2.store 1 rfl 0 _).store 1 rfl 1 _).store 1 rfl 2 _).store 1 rfl 3 _).store 1 rfl 4 _).store 1 rfl 5 _
    have zwo3 : wo2.heap.size ≤ wo3.heap.size := by rw [← hx_]; simp [World.setCell]
    replace k1 : SL S0 w.heap.size wo2.heap.size wo3 A1 p.1.waiting.length c1 p.1.waiting := by rw [← hx_]; exact ((((((k1.set (by omega) (by omega)).set (by omega) (by omega)).set (by omega) (by omega)).set (by omega) (by omega)).set (by omega) (by omega)).set (by omega) (by omega))
    replace k2 : SL S0 w.heap.size wo2.heap.size wo3 A2 p.1.held.length c2 p.1.held := by rw [← hx_]; exact ((((((k2.set (by omega) (by omega)).set (by omega) (by omega)).set (by omega) (by omega)).set (by omega) (by omega)).set (by omega) (by omega)).set (by omega) (by omega))
    replace k3 : SL S0 w.heap.size wo2.heap.size wo3 B1 p.2.waiting.length d1 p.2.waiting := by rw [← hx_]; exact ((((((k3.set (by omega) (by omega)).set (by omega) (by omega)).set (by omega) (by omega)).set (by omega) (by omega)).set (by omega) (by omega)).set (by omega) (by omega))
    replace k4 : SL S0 w.heap.size wo2.heap.size wo3 B2 p.2.held.length d2 p.2.held := by rw [← hx_]; exact ((((((k4.set (by omega) (by omega)).set (by omega) (by omega)).set (by omega) (by omega)).set (by omega) (by omega)).set (by omega) (by omega)).set (by omega) (by omega))
    replace hsz : wo2.heap.size ≤ wo3.heap.size := by rw [← hx_]; exact (szset (szset (szset (szset (szset (szset hsz))))))
    clear hx_ c0_0 c0_1 c0_2 cf0 c1_0 c1_1 c1_2 c1_3 c1_4 c1_5 cf1 c2_0 c2_1 c2_2 cf2 c3_0 c3_1 c3_2 c3_3 c3_4 c3_5 cf3 hO2
    have c0_0 : wo3.cell? ⟨wo1.heap.size, 0, none⟩ = some (.string p.1.holder) := hO3.c 0 0
    have c0_1 : wo3.cell? ⟨wo1.heap.size, 1, none⟩ = some (.slice A1 p.1.waiting.length c1) := hO3.c 0 1
    have c0_2 : wo3.cell? ⟨wo1.heap.size, 2, none⟩ = some (.slice A2 p.1.held.length c2) := hO3.c 0 2
    have cf0 := hO3.fr 0
    have c1_0 : wo3.cell? ⟨w.heap.size + 1 + 1, 0, none⟩ = some (.string p.1.holder) := hO3.c 1 0
    have c1_1 : wo3.cell? ⟨w.heap.size + 1 + 1, 1, none⟩ = some (.slice A1 p.1.waiting.length c1) := hO3.c 1 1
    have c1_2 : wo3.cell? ⟨w.heap.size + 1 + 1, 2, none⟩ = some (.slice A2 p.1.held.length c2) := hO3.c 1 2
    have c1_3 : wo3.cell? ⟨w.heap.size + 1 + 1, 3, none⟩ = some (.string p.2.holder) := hO3.c 1 3
    have c1_4 : wo3.cell? ⟨w.heap.size + 1 + 1, 4, none⟩ = some (.slice B1 p.2.waiting.length d1) := hO3.c 1 4
    have c1_5 : wo3.cell? ⟨w.heap.size + 1 + 1, 5, none⟩ = some (.slice B2 p.2.held.length d2) := hO3.c 1 5
    have cf1 := hO3.fr 1
    have c2_0 : wo3.cell? ⟨w.heap.size + 1, 0, none⟩ = some (.int .u8 (kd : Int)) := hO3.c 2 0
    have c2_1 : wo3.cell? ⟨w.heap.size + 1, 1, none⟩ = some (.int .u8 (pl : Int)) := hO3.c 2 1
    have c2_2 : wo3.cell? ⟨w.heap.size + 1, 2, none⟩ = some (.int .u8 (jb : Int)) := hO3.c 2 2
    have cf2 := hO3.fr 2
    have c3_0 : wo3.cell? ⟨w.heap.size, 0, none⟩ = some (.string p.1.holder) := hO3.c 3 0
    have c3_1 : wo3.cell? ⟨w.heap.size, 1, none⟩ = some (.slice A1 p.1.waiting.length c1) := hO3.c 3 1
    have c3_2 : wo3.cell? ⟨w.heap.size, 2, none⟩ = some (.slice A2 p.1.held.length c2) := hO3.c 3 2
    have c3_3 : wo3.cell? ⟨w.heap.size, 3, none⟩ = some (.string p.2.holder) := hO3.c 3 3
    have c3_4 : wo3.cell? ⟨w.heap.size, 4, none⟩ = some (.slice B1 p.2.waiting.length d1) := hO3.c 3 4
    have c3_5 : wo3.cell? ⟨w.heap.size, 5, none⟩ = some (.slice B2 p.2.held.length d2) := hO3.c 3 5
    have cf3 := hO3.fr 3
    refine bodyPost_ret (v := .tuple #[.agg #[.string p.1.holder, .slice A1 p.1.waiting.length c1, .slice A2 p.1.held.length c2, .string p.2.holder, .slice B1 p.2.waiting.length d1, .slice B2 p.2.held.length d2], .bool false]) (by simp only [results, Tryd.results24]; go_simp; first | done | exact ⟨rfl, rfl, rfl⟩ | rfl) rfl ?_
    have hq : Q = expT 1 false j p := by first | exact hQ.out | exact hQ
    clear hQ
    subst hq
    exact ⟨A1, c1, A2, c2, B1, d1, B2, d2, by rw [hm] <;> first | rfl | simp, hO3.below, by rw [hm]; exact ⟨k1.out (by omega), k2.out (by omega), k3.out (by omega), k4.out (by omega)⟩⟩
  | true =>
    have q1 : (p.1.holder.toList == []) = true := by rw [← hb1]; exact (congrArg (p.1.holder.toList == ·) (ByteArray.toList_eq bE)).symm
    rw [hb1, Bool.true_and] at hm0
    clear hb1
    by_cases hl0 : p.1.waiting.length = 0
    · have q2 : ((p.1.waiting.length : Int) == 0) = true := by rw [hl0]; rfl
      have hnil := List.length_eq_zero_iff.1 hl0
      have hm : expT 1 false j p = (p, false) := by rw [hm0, hnil] <;> rfl
      clear hm0 hnil hl0
      repeat' ((fail_if_success at_builtin); (first | go_skip | go_guarded | go_step))
      generalize hx_ : World.setCell (World.setCell (World.setCell (World.setCell (World.setCell (World.setCell _ _ _) _ _) _ _) _ _) _ _) _ _ = wo3
      have hO3 : OwnB w wo3 [(wo1.heap.size, [.string p.1.holder, .slice A1 p.1.waiting.length c1, .slice A2 p.1.held.length c2]), (w.heap.size + 1 + 1, [.string p.1.holder, .slice A1 p.1.waiting.length c1, .slice A2 p.1.held.length c2, .string p.2.holder, .slice B1 p.2.waiting.length d1, .slice B2 p.2.held.length d2]), (w.heap.size + 1, [.int .u8 (kd : Int), .int .u8 (pl : Int), .int .u8 (jb : Int)]), (w.heap.size, [.string p.1.holder, .slice A1 p.1.waiting.length c1, .slice A2 p.1.held.length c2, .string p.2.holder, .slice B1 p.2.waiting.length d1, .slice B2 p.2.held.length d2])] := by rw [← hx_]; exact (((((hO2.store 1 rfl 0 _).store 1 rfl 1 _).store 1 rfl 2 _).store 1 rfl 3 _).store 1 rfl 4 _).store 1 rfl 5 _
      have zwo3 : wo2.heap.size ≤ wo3.heap.size := by rw [← hx_]; simp [World.setCell]
      replace k1 : SL S0 w.heap.size wo2.heap.size wo3 A1 p.1.waiting.length c1 p.1.waiting := by rw [← hx_]; exact ((((((k1.set (by omega) (by omega)).set (by omega) (by omega)).set (by omega) (by omega)).set (by omega) (by omega)).set (by omega) (by omega)).set (by omega) (by omega))
      replace k2 : SL S0 w.heap.size wo2.heap.size wo3 A2 p.1.held.length c2 p.1.held := by rw [← hx_]; exact ((((((k2.set (by omega) (by omega)).set (by omega) (by omega)).set (by omega) (by omega)).set (by omega) (by omega)).set (by omega) (by omega)).set (by omega) (by omega))
      replace k3 : SL S0 w.heap.size wo2.heap.size wo3 B1 p.2.waiting.length d1 p.2.waiting := by rw [← hx_]; exact ((((((k3.set (by omega) (by omega)).set (by omega) (by omega)).set (by omega) (by omega)).set (by omega) (by omega)).set (by omega) (by omega)).set (by omega) (by omega))
      replace k4 : SL S0 w.heap.size wo2.heap.size wo3 B2 p.2.held.length d2 p.2.held := by rw [← hx_]; exact ((((((k4.set (by omega) (by omega)).set (by omega) (by omega)).set (by omega) (by omega)).set (by omega) (by omega)).set (by omega) (by omega)).set (by omega) (by omega))
      replace hsz : wo2.heap.size ≤ wo3.heap.size := by rw [← hx_]; exact (szset (szset (szset (szset (szset (szset hsz))))))
      clear hx_ c0_0 c0_1 c0_2 cf0 c1_0 c1_1 c1_2 c1_3 c1_4 c1_5 cf1 c2_0 c2_1 c2_2 cf2 c3_0 c3_1 c3_2 c3_3 c3_4 c3_5 cf3 hO2
      have c0_0 : wo3.cell? ⟨wo1.heap.size, 0, none⟩ = some (.string p.1.holder) := hO3.c 0 0
      have c0_1 : wo3.cell? ⟨wo1.heap.size, 1, none⟩ = some (.slice A1 p.1.waiting.length c1) := hO3.c 0 1
      have c0_2 : wo3.cell? ⟨wo1.heap.size, 2, none⟩ = some (.slice A2 p.1.held.length c2) := hO3.c 0 2
      have cf0 := hO3.fr 0
      have c1_0 : wo3.cell? ⟨w.heap.size + 1 + 1, 0, none⟩ = some (.string p.1.holder) := hO3.c 1 0
      have c1_1 : wo3.cell? ⟨w.heap.size + 1 + 1, 1, none⟩ = some (.slice A1 p.1.waiting.length c1) := hO3.c 1 1
      have c1_2 : wo3.cell? ⟨w.heap.size + 1 + 1, 2, none⟩ = some (.slice A2 p.1.held.length c2) := hO3.c 1 2
      have c1_3 : wo3.cell? ⟨w.heap.size + 1 + 1, 3, none⟩ = some (.string p.2.holder) := hO3.c 1 3
      have c1_4 : wo3.cell? ⟨w.heap.size + 1 + 1, 4, none⟩ = some (.slice B1 p.2.waiting.length d1) := hO3.c 1 4
      have c1_5 : wo3.cell? ⟨w.heap.size + 1 + 1, 5, none⟩ = some (.slice B2 p.2.held.length d2) := hO3.c 1 5
      have cf1 := hO3.fr 1
      have c2_0 : wo3.cell? ⟨w.heap.size + 1, 0, none⟩ = some (.int .u8 (kd : Int)) := hO3.c 2 0
      have c2_1 : wo3.cell? ⟨w.heap.size + 1, 1, none⟩ = some (.int .u8 (pl : Int)) := hO3.c 2 1
      have c2_2 : wo3.cell? ⟨w.heap.size + 1, 2, none⟩ = some (.int .u8 (jb : Int)) := hO3.c 2 2
      have cf2 := hO3.fr 2
      have c3_0 : wo3.cell? ⟨w.heap.size, 0, none⟩ = some (.string p.1.holder) := hO3.c 3 0
      have c3_1 : wo3.cell? ⟨w.heap.size, 1, none⟩ = some (.slice A1 p.1.waiting.length c1) := hO3.c 3 1
      have c3_2 : wo3.cell? ⟨w.heap.size, 2, none⟩ = some (.slice A2 p.1.held.length c2) := hO3.c 3 2
      have c3_3 : wo3.cell? ⟨w.heap.size, 3, none⟩ = some (.string p.2.holder) := hO3.c 3 3
      have c3_4 : wo3.cell? ⟨w.heap.size, 4, none⟩ = some (.slice B1 p.2.waiting.length d1) := hO3.c 3 4
      have c3_5 : wo3.cell? ⟨w.heap.size, 5, none⟩ = some (.slice B2 p.2.held.length d2) := hO3.c 3 5
      have cf3 := hO3.fr 3
      refine bodyPost_ret (v := .tuple #[.agg #[.string p.1.holder, .slice A1 p.1.waiting.length c1, .slice A2 p.1.held.length c2, .string p.2.holder, .slice B1 p.2.waiting.length d1, .slice B2 p.2.held.length d2], .bool false]) (by simp only [results, Tryd.results24]; go_simp; first | done | exact ⟨rfl, rfl, rfl⟩ | rfl) rfl ?_
      have hq : Q = expT 1 false j p := by first | exact hQ.out | exact hQ
      clear hQ
      subst hq
      exact ⟨A1, c1, A2, c2, B1, d1, B2, d2, by rw [hm] <;> first | rfl | simp, hO3.below, by rw [hm]; exact ⟨k1.out (by omega), k2.out (by omega), k3.out (by omega), k4.out (by omega)⟩⟩
    · have q2 : ((p.1.waiting.length : Int) == 0) = false := by simp; intro h; exact hl0 (by rw [h]; rfl)
      have l1 : (0 : Int) < (p.1.waiting.length : Int) := by omega
      obtain ⟨x, hx⟩ : ∃ x, p.1.waiting[0]? = some x := ⟨_, List.getElem?_eq_getElem (by omega)⟩
      obtain ⟨g, og, hA, hg, e0⟩ := strS_at k1 hx
      have hhead : headB p.1.waiting j = eqB x j := by
        cases hw : p.1.waiting with
        | nil => rw [hw] at hx; cases hx
        | cons y r => rw [hw] at hx; injection hx with hx; subst hx; rfl
      rw [hhead] at hm0
      clear hhead hx
      cases hxj : eqB x j with
      | false =>
        have hm : expT 1 false j p = (p, false) := by rw [hm0, hxj] <;> rfl
        have q3 : (x.toList == j.toList) = false := hxj
        clear hm0 hxj
        subst hA
        repeat' ((fail_if_success at_builtin); (first | go_skip | go_guarded | go_step))
        generalize hx_ : World.setCell (World.setCell (World.setCell (World.setCell (World.setCell (World.setCell _ _ _) _ _) _ _) _ _) _ _) _ _ = wo3
        have hO3 : OwnB w wo3 [(wo1.heap.size, [.string p.1.holder, .slice (some ⟨g, og, none⟩) p.1.waiting.length c1, .slice A2 p.1.held.length c2]), (w.heap.size + 1 + 1, [.string p.1.holder, .slice (some ⟨g, og, none⟩) p.1.waiting.length c1, .slice A2 p.1.held.length c2, .string p.2.holder, .slice B1 p.2.waiting.length d1, .slice B2 p.2.held.length d2]), (w.heap.size + 1, [.int .u8 (kd : Int), .int .u8 (pl : Int), .int .u8 (jb : Int)]), (w.heap.size, [.string p.1.holder, .slice (some ⟨g, og, none⟩) p.1.waiting.length c1, .slice A2 p.1.held.length c2, .string p.2.holder, .slice B1 p.2.waiting.length d1, .slice B2 p.2.held.length d2])] := by rw [← hx_]; exact (((((hO2.store 1 rfl 0 _).store 1 rfl 1 _).store 1 rfl 2 _).store 1 rfl 3 _).store 1 rfl 4 _).store 1 rfl 5 _
        have zwo3 : wo2.heap.size ≤ wo3.heap.size := by rw [← hx_]; simp [World.setCell]
        replace k1 : SL S0 w.heap.size wo2.heap.size wo3 (some ⟨g, og, none⟩) p.1.waiting.length c1 p.1.waiting := by rw [← hx_]; exact ((((((k1.set (by omega) (by omega)).set (by omega) (by omega)).set (by omega) (by omega)).set (by omega) (by omega)).set (by omega) (by omega)).set (by omega) (by omega))
        replace k2 : SL S0 w.heap.size wo2.heap.size wo3 A2 p.1.held.length c2 p.1.held := by rw [← hx_]; exact ((((((k2.set (by omega) (by omega)).set (by omega) (by omega)).set (by omega) (by omega)).set (by omega) (by omega)).set (by omega) (by omega)).set (by omega) (by omega))
        replace k3 : SL S0 w.heap.size wo2.heap.size wo3 B1 p.2.waiting.length d1 p.2.waiting := by rw [← hx_]; exact ((((((k3.set (by omega) (by omega)).set (by omega) (by omega)).set (by omega) (by omega)).set (by omega) (by omega)).set (by omega) (by omega)).set (by omega) (by omega))
        replace k4 : SL S0 w.heap.size wo2.heap.size wo3 B2 p.2.held.length d2 p.2.held := by rw [← hx_]; exact ((((((k4.set (by omega) (by omega)).set (by omega) (by omega)).set (by omega) (by omega)).set (by omega) (by omega)).set (by omega) (by omega)).set (by omega) (by omega))
        replace hsz : wo2.heap.size ≤ wo3.heap.size := by rw [← hx_]; exact (szset (szset (szset (szset (szset (szset hsz))))))
        clear hx_ c0_0 c0_1 c0_2 cf0 c1_0 c1_1 c1_2 c1_3 c1_4 c1_5 cf1 c2_0 c2_1 c2_2 cf2 c3_0 c3_1 c3_2 c3_3 c3_4 c3_5 cf3 hO2
        have c0_0 : wo3.cell? ⟨wo1.heap.size, 0, none⟩ = some (.string p.1.holder) := hO3.c 0 0
        have c0_1 : wo3.cell? ⟨wo1.heap.size, 1, none⟩ = some (.slice (some ⟨g, og, none⟩) p.1.waiting.length c1) := hO3.c 0 1
        have c0_2 : wo3.cell? ⟨wo1.heap.size, 2, none⟩ = some (.slice A2 p.1.held.length c2) := hO3.c 0 2
        have cf0 := hO3.fr 0
        have c1_0 : wo3.cell? ⟨w.heap.size + 1 + 1, 0, none⟩ = some (.string p.1.holder) := hO3.c 1 0
        have c1_1 : wo3.cell? ⟨w.heap.size + 1 + 1, 1, none⟩ = some (.slice (some ⟨g, og, none⟩) p.1.waiting.length c1) := hO3.c 1 1
        have c1_2 : wo3.cell? ⟨w.heap.size + 1 + 1, 2, none⟩ = some (.slice A2 p.1.held.length c2) := hO3.c 1 2
        have c1_3 : wo3.cell? ⟨w.heap.size + 1 + 1, 3, none⟩ = some (.string p.2.holder) := hO3.c 1 3
        have c1_4 : wo3.cell? ⟨w.heap.size + 1 + 1, 4, none⟩ = some (.slice B1 p.2.waiting.length d1) := hO3.c 1 4
        have c1_5 : wo3.cell? ⟨w.heap.size + 1 + 1, 5, none⟩ = some (.slice B2 p.2.held.length d2) := hO3.c 1 5
        have cf1 := hO3.fr 1
        have c2_0 : wo3.cell? ⟨w.heap.size + 1, 0, none⟩ = some (.int .u8 (kd : Int)) := hO3.c 2 0
        have c2_1 : wo3.cell? ⟨w.heap.size + 1, 1, none⟩ = some (.int .u8 (pl : Int)) := hO3.c 2 1
        have c2_2 : wo3.cell? ⟨w.heap.size + 1, 2, none⟩ = some (.int .u8 (jb : Int)) := hO3.c 2 2
        have cf2 := hO3.fr 2
        have c3_0 : wo3.cell? ⟨w.heap.size, 0, none⟩ = some (.string p.1.holder) := hO3.c 3 0
        have c3_1 : wo3.cell? ⟨w.heap.size, 1, none⟩ = some (.slice (some ⟨g, og, none⟩) p.1.waiting.length c1) := hO3.c 3 1
        have c3_2 : wo3.cell? ⟨w.heap.size, 2, none⟩ = some (.slice A2 p.1.held.length c2) := hO3.c 3 2
        have c3_3 : wo3.cell? ⟨w.heap.size, 3, none⟩ = some (.string p.2.holder) := hO3.c 3 3
        have c3_4 : wo3.cell? ⟨w.heap.size, 4, none⟩ = some (.slice B1 p.2.waiting.length d1) := hO3.c 3 4
        have c3_5 : wo3.cell? ⟨w.heap.size, 5, none⟩ = some (.slice B2 p.2.held.length d2) := hO3.c 3 5
        have cf3 := hO3.fr 3
        refine bodyPost_ret (v := .tuple #[.agg #[.string p.1.holder, .slice (some ⟨g, og, none⟩) p.1.waiting.length c1, .slice A2 p.1.held.length c2, .string p.2.holder, .slice B1 p.2.waiting.length d1, .slice B2 p.2.held.length d2], .bool false]) (by simp only [results, Tryd.results24]; go_simp; first | done | exact ⟨rfl, rfl, rfl⟩ | rfl) rfl ?_
        have hq : Q = expT 1 false j p := by first | exact hQ.out | exact hQ
        clear hQ
        subst hq
        exact ⟨(some ⟨g, og, none⟩), c1, A2, c2, B1, d1, B2, d2, by rw [hm] <;> first | rfl | simp, hO3.below, by rw [hm]; exact ⟨k1.out (by omega), k2.out (by omega), k3.out (by omega), k4.out (by omega)⟩⟩
      | true =>
        have hm : expT 1 false j p = ((⟨j, p.1.waiting.drop 1, p.1.held ++ [j]⟩, p.2), true) := by rw [hm0, hxj] <;> rfl
        have q3 : (x.toList == j.toList) = true := hxj
        clear hm0 hxj
        subst hA
        go_upto_region 12 with (fail)
        generalize hx_ : World.setCell _ _ _ = wo3
        have hO3 : OwnB w wo3 [(wo1.heap.size, [.string j, .slice (some ⟨g, og, none⟩) p.1.waiting.length c1, .slice A2 p.1.held.length c2]), (w.heap.size + 1 + 1, [.string bE, .slice none 0 0, .slice none 0 0, .string bE, .slice none 0 0, .slice none 0 0]), (w.heap.size + 1, [.int .u8 (kd : Int), .int .u8 (pl : Int), .int .u8 (jb : Int)]), (w.heap.size, [.string p.1.holder, .slice (some ⟨g, og, none⟩) p.1.waiting.length c1, .slice A2 p.1.held.length c2, .string p.2.holder, .slice B1 p.2.waiting.length d1, .slice B2 p.2.held.length d2])] := by rw [← hx_]; exact hO2.store 0 rfl 0 _
        have zwo3 : wo2.heap.size ≤ wo3.heap.size := by rw [← hx_]; simp [World.setCell]
        replace k1 : SL S0 w.heap.size wo2.heap.size wo3 (some ⟨g, og, none⟩) p.1.waiting.length c1 p.1.waiting := by rw [← hx_]; exact k1.set (by omega) (by omega)
        replace k2 : SL S0 w.heap.size wo2.heap.size wo3 A2 p.1.held.length c2 p.1.held := by rw [← hx_]; exact k2.set (by omega) (by omega)
        replace k3 : SL S0 w.heap.size wo2.heap.size wo3 B1 p.2.waiting.length d1 p.2.waiting := by rw [← hx_]; exact k3.set (by omega) (by omega)
        replace k4 : SL S0 w.heap.size wo2.heap.size wo3 B2 p.2.held.length d2 p.2.held := by rw [← hx_]; exact k4.set (by omega) (by omega)
        replace hsz : wo2.heap.size ≤ wo3.heap.size := by rw [← hx_]; exact szset hsz
        clear hx_ c0_0 c0_1 c0_2 cf0 c1_0 c1_1 c1_2 c1_3 c1_4 c1_5 cf1 c2_0 c2_1 c2_2 cf2 c3_0 c3_1 c3_2 c3_3 c3_4 c3_5 cf3 hO2
        have c0_0 : wo3.cell? ⟨wo1.heap.size, 0, none⟩ = some (.string j) := hO3.c 0 0
        have c0_1 : wo3.cell? ⟨wo1.heap.size, 1, none⟩ = some (.slice (some ⟨g, og, none⟩) p.1.waiting.length c1) := hO3.c 0 1
        have c0_2 : wo3.cell? ⟨wo1.heap.size, 2, none⟩ = some (.slice A2 p.1.held.length c2) := hO3.c 0 2
        have cf0 := hO3.fr 0
        have c1_0 : wo3.cell? ⟨w.heap.size + 1 + 1, 0, none⟩ = some (.string bE) := hO3.c 1 0
        have c1_1 : wo3.cell? ⟨w.heap.size + 1 + 1, 1, none⟩ = some (.slice none 0 0) := hO3.c 1 1
        have c1_2 : wo3.cell? ⟨w.heap.size + 1 + 1, 2, none⟩ = some (.slice none 0 0) := hO3.c 1 2
        have c1_3 : wo3.cell? ⟨w.heap.size + 1 + 1, 3, none⟩ = some (.string bE) := hO3.c 1 3
        have c1_4 : wo3.cell? ⟨w.heap.size + 1 + 1, 4, none⟩ = some (.slice none 0 0) := hO3.c 1 4
        have c1_5 : wo3.cell? ⟨w.heap.size + 1 + 1, 5, none⟩ = some (.slice none 0 0) := hO3.c 1 5
        have cf1 := hO3.fr 1
        have c2_0 : wo3.cell? ⟨w.heap.size + 1, 0, none⟩ = some (.int .u8 (kd : Int)) := hO3.c 2 0
        have c2_1 : wo3.cell? ⟨w.heap.size + 1, 1, none⟩ = some (.int .u8 (pl : Int)) := hO3.c 2 1
        have c2_2 : wo3.cell? ⟨w.heap.size + 1, 2, none⟩ = some (.int .u8 (jb : Int)) := hO3.c 2 2
        have cf2 := hO3.fr 2
        have c3_0 : wo3.cell? ⟨w.heap.size, 0, none⟩ = some (.string p.1.holder) := hO3.c 3 0
        have c3_1 : wo3.cell? ⟨w.heap.size, 1, none⟩ = some (.slice (some ⟨g, og, none⟩) p.1.waiting.length c1) := hO3.c 3 1
        have c3_2 : wo3.cell? ⟨w.heap.size, 2, none⟩ = some (.slice A2 p.1.held.length c2) := hO3.c 3 2
        have c3_3 : wo3.cell? ⟨w.heap.size, 3, none⟩ = some (.string p.2.holder) := hO3.c 3 3
        have c3_4 : wo3.cell? ⟨w.heap.size, 4, none⟩ = some (.slice B1 p.2.waiting.length d1) := hO3.c 3 4
        have c3_5 : wo3.cell? ⟨w.heap.size, 5, none⟩ = some (.slice B2 p.2.held.length d2) := hO3.c 3 5
        have cf3 := hO3.fr 3
        have hR0 := OwnR.empty (r := rB) (sz := 1) wo3 strT
        have hba := (Below.refl wo3.heap.size wo3).alloc (Nat.le_refl _) (.cells #[] strT)
        have hby : (([] : List ByteArray).length + p.1.held.length) * 16 ≤ 140737488355328 := by simp; omega
        have hxs := (RSlice.below rB_ok k2.fin hba).more rB_ok (S' := Beh (wo3.alloc (.cells #[] strT)) (.slice (some ⟨wo3.heap.size, 0, none⟩) 0 0)) (fun b hb => beh_old hR0 hb)
        replace hxs := Lib.hid hxs
        have hm_ : ∀ ob, OwnB w (wo3.alloc ob) [(wo1.heap.size, [.string j, .slice (some ⟨g, og, none⟩) p.1.waiting.length c1, .slice A2 p.1.held.length c2]), (w.heap.size + 1 + 1, [.string bE, .slice none 0 0, .slice none 0 0, .string bE, .slice none 0 0, .slice none 0 0]), (w.heap.size + 1, [.int .u8 (kd : Int), .int .u8 (pl : Int), .int .u8 (jb : Int)]), (w.heap.size, [.string p.1.holder, .slice (some ⟨g, og, none⟩) p.1.waiting.length c1, .slice A2 p.1.held.length c2, .string p.2.holder, .slice B1 p.2.waiting.length d1, .slice B2 p.2.held.length d2])] := fun ob => hO3.kept ((Below.refl _ _).alloc (Nat.le_refl _) _)
        have m0_0 : ∀ ob, (wo3.alloc ob).cell? ⟨wo1.heap.size, 0, none⟩ = some (.string j) := fun ob => (hm_ ob).c 0 0
        have m0_1 : ∀ ob, (wo3.alloc ob).cell? ⟨wo1.heap.size, 1, none⟩ = some (.slice (some ⟨g, og, none⟩) p.1.waiting.length c1) := fun ob => (hm_ ob).c 0 1
        have m0_2 : ∀ ob, (wo3.alloc ob).cell? ⟨wo1.heap.size, 2, none⟩ = some (.slice A2 p.1.held.length c2) := fun ob => (hm_ ob).c 0 2
        have mf0 : ∀ ob j, (wo3.alloc ob).frozen? ⟨wo1.heap.size, j, none⟩ = false := fun ob => (hm_ ob).fr 0
        have m1_0 : ∀ ob, (wo3.alloc ob).cell? ⟨w.heap.size + 1 + 1, 0, none⟩ = some (.string bE) := fun ob => (hm_ ob).c 1 0
        have m1_1 : ∀ ob, (wo3.alloc ob).cell? ⟨w.heap.size + 1 + 1, 1, none⟩ = some (.slice none 0 0) := fun ob => (hm_ ob).c 1 1
        have m1_2 : ∀ ob, (wo3.alloc ob).cell? ⟨w.heap.size + 1 + 1, 2, none⟩ = some (.slice none 0 0) := fun ob => (hm_ ob).c 1 2
        have m1_3 : ∀ ob, (wo3.alloc ob).cell? ⟨w.heap.size + 1 + 1, 3, none⟩ = some (.string bE) := fun ob => (hm_ ob).c 1 3
        have m1_4 : ∀ ob, (wo3.alloc ob).cell? ⟨w.heap.size + 1 + 1, 4, none⟩ = some (.slice none 0 0) := fun ob => (hm_ ob).c 1 4
        have m1_5 : ∀ ob, (wo3.alloc ob).cell? ⟨w.heap.size + 1 + 1, 5, none⟩ = some (.slice none 0 0) := fun ob => (hm_ ob).c 1 5
        have mf1 : ∀ ob j, (wo3.alloc ob).frozen? ⟨w.heap.size + 1 + 1, j, none⟩ = false := fun ob => (hm_ ob).fr 1
        have m2_0 : ∀ ob, (wo3.alloc ob).cell? ⟨w.heap.size + 1, 0, none⟩ = some (.int .u8 (kd : Int)) := fun ob => (hm_ ob).c 2 0
        have m2_1 : ∀ ob, (wo3.alloc ob).cell? ⟨w.heap.size + 1, 1, none⟩ = some (.int .u8 (pl : Int)) := fun ob => (hm_ ob).c 2 1
        have m2_2 : ∀ ob, (wo3.alloc ob).cell? ⟨w.heap.size + 1, 2, none⟩ = some (.int .u8 (jb : Int)) := fun ob => (hm_ ob).c 2 2
        have mf2 : ∀ ob j, (wo3.alloc ob).frozen? ⟨w.heap.size + 1, j, none⟩ = false := fun ob => (hm_ ob).fr 2
        have m3_0 : ∀ ob, (wo3.alloc ob).cell? ⟨w.heap.size, 0, none⟩ = some (.string p.1.holder) := fun ob => (hm_ ob).c 3 0
        have m3_1 : ∀ ob, (wo3.alloc ob).cell? ⟨w.heap.size, 1, none⟩ = some (.slice (some ⟨g, og, none⟩) p.1.waiting.length c1) := fun ob => (hm_ ob).c 3 1
        have m3_2 : ∀ ob, (wo3.alloc ob).cell? ⟨w.heap.size, 2, none⟩ = some (.slice A2 p.1.held.length c2) := fun ob => (hm_ ob).c 3 2
        have m3_3 : ∀ ob, (wo3.alloc ob).cell? ⟨w.heap.size, 3, none⟩ = some (.string p.2.holder) := fun ob => (hm_ ob).c 3 3
        have m3_4 : ∀ ob, (wo3.alloc ob).cell? ⟨w.heap.size, 4, none⟩ = some (.slice B1 p.2.waiting.length d1) := fun ob => (hm_ ob).c 3 4
        have m3_5 : ∀ ob, (wo3.alloc ob).cell? ⟨w.heap.size, 5, none⟩ = some (.slice B2 p.2.held.length d2) := fun ob => (hm_ ob).c 3 5
        have mf3 : ∀ ob j, (wo3.alloc ob).frozen? ⟨w.heap.size, j, none⟩ = false := fun ob => (hm_ ob).fr 3
        clear hm_
        repeat' ((fail_if_success at_builtin); (first | go_skip | go_guarded | go_step))
        refine wp_appRS rB_ok rB_one hR0 (Below.refl _ _) hxs.out Tryd.underlying45 str_info hby ?_
        intro v4 w4 hR4
        rw [List.nil_append] at hR4
        obtain ⟨A4, c4, rfl⟩ := hR4.form
        clear hR0 hba hxs hby m0_0 m0_1 m0_2 mf0 m1_0 m1_1 m1_2 m1_3 m1_4 m1_5 mf1 m2_0 m2_1 m2_2 mf2 m3_0 m3_1 m3_2 m3_3 m3_4 m3_5 mf3
        have hby : (p.1.held.length + 1) * 16 ≤ 140737488355328 := by omega
        repeat' ((fail_if_success at_builtin); (first | go_skip | go_guarded | go_step))
        refine wp_appR1 rB_ok (cs := #[.string j]) hR4 (Below.refl _ _) (x := j) rfl Tryd.underlying45 str_info hby ?_
        intro v6 w6 hR6
        obtain ⟨A6, c6, rfl⟩ := hR6.form
        have hb6 := hR6.bel
        have n6 : SL S0 w.heap.size wo2.heap.size w6 A6 (p.1.held ++ [j]).length c6 (p.1.held ++ [j]) := SL.new (ownB_new hR6 rfl) hsz
        clear hR4 hR6 hby
        have zw6 := hb6.size
        have hO4 : OwnB w w6 [(wo1.heap.size, [.string j, .slice (some ⟨g, og, none⟩) p.1.waiting.length c1, .slice A2 p.1.held.length c2]), (w.heap.size + 1 + 1, [.string bE, .slice none 0 0, .slice none 0 0, .string bE, .slice none 0 0, .slice none 0 0]), (w.heap.size + 1, [.int .u8 (kd : Int), .int .u8 (pl : Int), .int .u8 (jb : Int)]), (w.heap.size, [.string p.1.holder, .slice (some ⟨g, og, none⟩) p.1.waiting.length c1, .slice A2 p.1.held.length c2, .string p.2.holder, .slice B1 p.2.waiting.length d1, .slice B2 p.2.held.length d2])] := hO3.kept hb6
        clear c0_0 c0_1 c0_2 cf0 c1_0 c1_1 c1_2 c1_3 c1_4 c1_5 cf1 c2_0 c2_1 c2_2 cf2 c3_0 c3_1 c3_2 c3_3 c3_4 c3_5 cf3 hO3
        have c0_0 : w6.cell? ⟨wo1.heap.size, 0, none⟩ = some (.string j) := hO4.c 0 0
        have c0_1 : w6.cell? ⟨wo1.heap.size, 1, none⟩ = some (.slice (some ⟨g, og, none⟩) p.1.waiting.length c1) := hO4.c 0 1
        have c0_2 : w6.cell? ⟨wo1.heap.size, 2, none⟩ = some (.slice A2 p.1.held.length c2) := hO4.c 0 2
        have cf0 := hO4.fr 0
        have c1_0 : w6.cell? ⟨w.heap.size + 1 + 1, 0, none⟩ = some (.string bE) := hO4.c 1 0
        have c1_1 : w6.cell? ⟨w.heap.size + 1 + 1, 1, none⟩ = some (.slice none 0 0) := hO4.c 1 1
        have c1_2 : w6.cell? ⟨w.heap.size + 1 + 1, 2, none⟩ = some (.slice none 0 0) := hO4.c 1 2
        have c1_3 : w6.cell? ⟨w.heap.size + 1 + 1, 3, none⟩ = some (.string bE) := hO4.c 1 3
        have c1_4 : w6.cell? ⟨w.heap.size + 1 + 1, 4, none⟩ = some (.slice none 0 0) := hO4.c 1 4
        have c1_5 : w6.cell? ⟨w.heap.size + 1 + 1, 5, none⟩ = some (.slice none 0 0) := hO4.c 1 5
        have cf1 := hO4.fr 1
        have c2_0 : w6.cell? ⟨w.heap.size + 1, 0, none⟩ = some (.int .u8 (kd : Int)) := hO4.c 2 0
        have c2_1 : w6.cell? ⟨w.heap.size + 1, 1, none⟩ = some (.int .u8 (pl : Int)) := hO4.c 2 1
        have c2_2 : w6.cell? ⟨w.heap.size + 1, 2, none⟩ = some (.int .u8 (jb : Int)) := hO4.c 2 2
        have cf2 := hO4.fr 2
        have c3_0 : w6.cell? ⟨w.heap.size, 0, none⟩ = some (.string p.1.holder) := hO4.c 3 0
        have c3_1 : w6.cell? ⟨w.heap.size, 1, none⟩ = some (.slice (some ⟨g, og, none⟩) p.1.waiting.length c1) := hO4.c 3 1
        have c3_2 : w6.cell? ⟨w.heap.size, 2, none⟩ = some (.slice A2 p.1.held.length c2) := hO4.c 3 2
        have c3_3 : w6.cell? ⟨w.heap.size, 3, none⟩ = some (.string p.2.holder) := hO4.c 3 3
        have c3_4 : w6.cell? ⟨w.heap.size, 4, none⟩ = some (.slice B1 p.2.waiting.length d1) := hO4.c 3 4
        have c3_5 : w6.cell? ⟨w.heap.size, 5, none⟩ = some (.slice B2 p.2.held.length d2) := hO4.c 3 5
        have cf3 := hO4.fr 3
        replace k1 : SL S0 w.heap.size wo2.heap.size w6 (some ⟨g, og, none⟩) p.1.waiting.length c1 p.1.waiting := k1.up hb6
        replace k2 : SL S0 w.heap.size wo2.heap.size w6 A2 p.1.held.length c2 p.1.held := k2.up hb6
        replace k3 : SL S0 w.heap.size wo2.heap.size w6 B1 p.2.waiting.length d1 p.2.waiting := k3.up hb6
        replace k4 : SL S0 w.heap.size wo2.heap.size w6 B2 p.2.held.length d2 p.2.held := k4.up hb6
        replace hsz : wo2.heap.size ≤ w6.heap.size := Nat.le_trans hsz hb6.size
        go_upto_region 13 with (fail)
        generalize hx_ : World.setCell _ _ _ = wo5
        have hO5 : OwnB w wo5 [(wo1.heap.size, [.string j, .slice (some ⟨g, og, none⟩) p.1.waiting.length c1, .slice A6 (p.1.held.length + 1) c6]), (w.heap.size + 1 + 1, [.string bE, .slice none 0 0, .slice none 0 0, .string bE, .slice none 0 0, .slice none 0 0]), (w.heap.size + 1, [.int .u8 (kd : Int), .int .u8 (pl : Int), .int .u8 (jb : Int)]), (w.heap.size, [.string p.1.holder, .slice (some ⟨g, og, none⟩) p.1.waiting.length c1, .slice A2 p.1.held.length c2, .string p.2.holder, .slice B1 p.2.waiting.length d1, .slice B2 p.2.held.length d2])] := by rw [← hx_]; exact hO4.store 0 rfl 2 _
        have zwo5 : w6.heap.size ≤ wo5.heap.size := by rw [← hx_]; simp [World.setCell]
        replace k1 : SL S0 w.heap.size wo2.heap.size wo5 (some ⟨g, og, none⟩) p.1.waiting.length c1 p.1.waiting := by rw [← hx_]; exact k1.set (by omega) (by omega)
        replace k2 : SL S0 w.heap.size wo2.heap.size wo5 A2 p.1.held.length c2 p.1.held := by rw [← hx_]; exact k2.set (by omega) (by omega)
        replace k3 : SL S0 w.heap.size wo2.heap.size wo5 B1 p.2.waiting.length d1 p.2.waiting := by rw [← hx_]; exact k3.set (by omega) (by omega)
        replace k4 : SL S0 w.heap.size wo2.heap.size wo5 B2 p.2.held.length d2 p.2.held := by rw [← hx_]; exact k4.set (by omega) (by omega)
        replace hsz : wo2.heap.size ≤ wo5.heap.size := by rw [← hx_]; exact szset hsz
        replace n6 : SL S0 w.heap.size wo2.heap.size wo5 A6 (p.1.held ++ [j]).length c6 (p.1.held ++ [j]) := by rw [← hx_]; exact n6.set (by omega) (by omega)
        clear hx_ c0_0 c0_1 c0_2 cf0 c1_0 c1_1 c1_2 c1_3 c1_4 c1_5 cf1 c2_0 c2_1 c2_2 cf2 c3_0 c3_1 c3_2 c3_3 c3_4 c3_5 cf3 hO4
        have c0_0 : wo5.cell? ⟨wo1.heap.size, 0, none⟩ = some (.string j) := hO5.c 0 0
        have c0_1 : wo5.cell? ⟨wo1.heap.size, 1, none⟩ = some (.slice (some ⟨g, og, none⟩) p.1.waiting.length c1) := hO5.c 0 1
        have c0_2 : wo5.cell? ⟨wo1.heap.size, 2, none⟩ = some (.slice A6 (p.1.held.length + 1) c6) := hO5.c 0 2
        have cf0 := hO5.fr 0
        have c1_0 : wo5.cell? ⟨w.heap.size + 1 + 1, 0, none⟩ = some (.string bE) := hO5.c 1 0
        have c1_1 : wo5.cell? ⟨w.heap.size + 1 + 1, 1, none⟩ = some (.slice none 0 0) := hO5.c 1 1
        have c1_2 : wo5.cell? ⟨w.heap.size + 1 + 1, 2, none⟩ = some (.slice none 0 0) := hO5.c 1 2
        have c1_3 : wo5.cell? ⟨w.heap.size + 1 + 1, 3, none⟩ = some (.string bE) := hO5.c 1 3
        have c1_4 : wo5.cell? ⟨w.heap.size + 1 + 1, 4, none⟩ = some (.slice none 0 0) := hO5.c 1 4
        have c1_5 : wo5.cell? ⟨w.heap.size + 1 + 1, 5, none⟩ = some (.slice none 0 0) := hO5.c 1 5
        have cf1 := hO5.fr 1
        have c2_0 : wo5.cell? ⟨w.heap.size + 1, 0, none⟩ = some (.int .u8 (kd : Int)) := hO5.c 2 0
        have c2_1 : wo5.cell? ⟨w.heap.size + 1, 1, none⟩ = some (.int .u8 (pl : Int)) := hO5.c 2 1
        have c2_2 : wo5.cell? ⟨w.heap.size + 1, 2, none⟩ = some (.int .u8 (jb : Int)) := hO5.c 2 2
        have cf2 := hO5.fr 2
        have c3_0 : wo5.cell? ⟨w.heap.size, 0, none⟩ = some (.string p.1.holder) := hO5.c 3 0
        have c3_1 : wo5.cell? ⟨w.heap.size, 1, none⟩ = some (.slice (some ⟨g, og, none⟩) p.1.waiting.length c1) := hO5.c 3 1
        have c3_2 : wo5.cell? ⟨w.heap.size, 2, none⟩ = some (.slice A2 p.1.held.length c2) := hO5.c 3 2
        have c3_3 : wo5.cell? ⟨w.heap.size, 3, none⟩ = some (.string p.2.holder) := hO5.c 3 3
        have c3_4 : wo5.cell? ⟨w.heap.size, 4, none⟩ = some (.slice B1 p.2.waiting.length d1) := hO5.c 3 4
        have c3_5 : wo5.cell? ⟨w.heap.size, 5, none⟩ = some (.slice B2 p.2.held.length d2) := hO5.c 3 5
        have cf3 := hO5.fr 3
        have hR0 := OwnR.empty (r := rB) (sz := 1) wo5 strT
        have hba := (Below.refl wo5.heap.size wo5).alloc (Nat.le_refl _) (.cells #[] strT)
        have hby : (([] : List ByteArray).length + (p.1.waiting.length - 1)) * 16 ≤ 140737488355328 := by simp; omega
        have hxs := (RSlice.below rB_ok (k1.fin.drop' (i := 1) (by omega)) hba).more rB_ok (S' := Beh (wo5.alloc (.cells #[] strT)) (.slice (some ⟨wo5.heap.size, 0, none⟩) 0 0)) (fun b hb => beh_old hR0 hb)
        replace hxs := Lib.hid hxs
        have hcc : p.1.waiting.length ≤ c1 := k1.2.1
        have j1 : (1 : Int) ≤ (p.1.waiting.length : Int) := by omega
        have j2 : (1 : Int) ≤ (c1 : Int) := by omega
        have j3 : (p.1.waiting.length : Int) ≤ (c1 : Int) := by omega
        have hm_ : ∀ ob, OwnB w (wo5.alloc ob) [(wo1.heap.size, [.string j, .slice (some ⟨g, og, none⟩) p.1.waiting.length c1, .slice A6 (p.1.held.length + 1) c6]), (w.heap.size + 1 + 1, [.string bE, .slice none 0 0, .slice none 0 0, .string bE, .slice none 0 0, .slice none 0 0]), (w.heap.size + 1, [.int .u8 (kd : Int), .int .u8 (pl : Int), .int .u8 (jb : Int)]), (w.heap.size, [.string p.1.holder, .slice (some ⟨g, og, none⟩) p.1.waiting.length c1, .slice A2 p.1.held.length c2, .string p.2.holder, .slice B1 p.2.waiting.length d1, .slice B2 p.2.held.length d2])] := fun ob => hO5.kept ((Below.refl _ _).alloc (Nat.le_refl _) _)
        have m0_0 : ∀ ob, (wo5.alloc ob).cell? ⟨wo1.heap.size, 0, none⟩ = some (.string j) := fun ob => (hm_ ob).c 0 0
        have m0_1 : ∀ ob, (wo5.alloc ob).cell? ⟨wo1.heap.size, 1, none⟩ = some (.slice (some ⟨g, og, none⟩) p.1.waiting.length c1) := fun ob => (hm_ ob).c 0 1
        have m0_2 : ∀ ob, (wo5.alloc ob).cell? ⟨wo1.heap.size, 2, none⟩ = some (.slice A6 (p.1.held.length + 1) c6) := fun ob => (hm_ ob).c 0 2
        have mf0 : ∀ ob j, (wo5.alloc ob).frozen? ⟨wo1.heap.size, j, none⟩ = false := fun ob => (hm_ ob).fr 0
        have m1_0 : ∀ ob, (wo5.alloc ob).cell? ⟨w.heap.size + 1 + 1, 0, none⟩ = some (.string bE) := fun ob => (hm_ ob).c 1 0
        have m1_1 : ∀ ob, (wo5.alloc ob).cell? ⟨w.heap.size + 1 + 1, 1, none⟩ = some (.slice none 0 0) := fun ob => (hm_ ob).c 1 1
        have m1_2 : ∀ ob, (wo5.alloc ob).cell? ⟨w.heap.size + 1 + 1, 2, none⟩ = some (.slice none 0 0) := fun ob => (hm_ ob).c 1 2
        have m1_3 : ∀ ob, (wo5.alloc ob).cell? ⟨w.heap.size + 1 + 1, 3, none⟩ = some (.string bE) := fun ob => (hm_ ob).c 1 3
        have m1_4 : ∀ ob, (wo5.alloc ob).cell? ⟨w.heap.size + 1 + 1, 4, none⟩ = some (.slice none 0 0) := fun ob => (hm_ ob).c 1 4
        have m1_5 : ∀ ob, (wo5.alloc ob).cell? ⟨w.heap.size + 1 + 1, 5, none⟩ = some (.slice none 0 0) := fun ob => (hm_ ob).c 1 5
        have mf1 : ∀ ob j, (wo5.alloc ob).frozen? ⟨w.heap.size + 1 + 1, j, none⟩ = false := fun ob => (hm_ ob).fr 1
        have m2_0 : ∀ ob, (wo5.alloc ob).cell? ⟨w.heap.size + 1, 0, none⟩ = some (.int .u8 (kd : Int)) := fun ob => (hm_ ob).c 2 0
        have m2_1 : ∀ ob, (wo5.alloc ob).cell? ⟨w.heap.size + 1, 1, none⟩ = some (.int .u8 (pl : Int)) := fun ob => (hm_ ob).c 2 1
        have m2_2 : ∀ ob, (wo5.alloc ob).cell? ⟨w.heap.size + 1, 2, none⟩ = some (.int .u8 (jb : Int)) := fun ob => (hm_ ob).c 2 2
        have mf2 : ∀ ob j, (wo5.alloc ob).frozen? ⟨w.heap.size + 1, j, none⟩ = false := fun ob => (hm_ ob).fr 2
        have m3_0 : ∀ ob, (wo5.alloc ob).cell? ⟨w.heap.size, 0, none⟩ = some (.string p.1.holder) := fun ob => (hm_ ob).c 3 0
        have m3_1 : ∀ ob, (wo5.alloc ob).cell? ⟨w.heap.size, 1, none⟩ = some (.slice (some ⟨g, og, none⟩) p.1.waiting.length c1) := fun ob => (hm_ ob).c 3 1
        have m3_2 : ∀ ob, (wo5.alloc ob).cell? ⟨w.heap.size, 2, none⟩ = some (.slice A2 p.1.held.length c2) := fun ob => (hm_ ob).c 3 2
        have m3_3 : ∀ ob, (wo5.alloc ob).cell? ⟨w.heap.size, 3, none⟩ = some (.string p.2.holder) := fun ob => (hm_ ob).c 3 3
        have m3_4 : ∀ ob, (wo5.alloc ob).cell? ⟨w.heap.size, 4, none⟩ = some (.slice B1 p.2.waiting.length d1) := fun ob => (hm_ ob).c 3 4
        have m3_5 : ∀ ob, (wo5.alloc ob).cell? ⟨w.heap.size, 5, none⟩ = some (.slice B2 p.2.held.length d2) := fun ob => (hm_ ob).c 3 5
        have mf3 : ∀ ob j, (wo5.alloc ob).frozen? ⟨w.heap.size, j, none⟩ = false := fun ob => (hm_ ob).fr 3
        clear hm_
        repeat' ((fail_if_success at_builtin); (first | go_skip | go_guarded | go_step))
        refine wp_appRS rB_ok rB_one hR0 (Below.refl _ _) hxs.out Tryd.underlying45 str_info hby ?_
        intro v7 w7 hR7
        rw [List.nil_append] at hR7
        obtain ⟨A7, c7, rfl⟩ := hR7.form
        clear hR0 hba hxs hby m0_0 m0_1 m0_2 mf0 m1_0 m1_1 m1_2 m1_3 m1_4 m1_5 mf1 m2_0 m2_1 m2_2 mf2 m3_0 m3_1 m3_2 m3_3 m3_4 m3_5 mf3 j1 j2 j3
        have hb7 := hR7.bel
        have n7 : SL S0 w.heap.size wo2.heap.size w7 A7 (List.drop 1 p.1.waiting).length c7 (List.drop 1 p.1.waiting) := SL.new (ownB_new hR7 rfl) hsz
        clear hR7
        have zw7 := hb7.size
        have hO6 : OwnB w w7 [(wo1.heap.size, [.string j, .slice (some ⟨g, og, none⟩) p.1.waiting.length c1, .slice A6 (p.1.held.length + 1) c6]), (w.heap.size + 1 + 1, [.string bE, .slice none 0 0, .slice none 0 0, .string bE, .slice none 0 0, .slice none 0 0]), (w.heap.size + 1, [.int .u8 (kd : Int), .int .u8 (pl : Int), .int .u8 (jb : Int)]), (w.heap.size, [.string p.1.holder, .slice (some ⟨g, og, none⟩) p.1.waiting.length c1, .slice A2 p.1.held.length c2, .string p.2.holder, .slice B1 p.2.waiting.length d1, .slice B2 p.2.held.length d2])] := hO5.kept hb7
        clear c0_0 c0_1 c0_2 cf0 c1_0 c1_1 c1_2 c1_3 c1_4 c1_5 cf1 c2_0 c2_1 c2_2 cf2 c3_0 c3_1 c3_2 c3_3 c3_4 c3_5 cf3 hO5
        have c0_0 : w7.cell? ⟨wo1.heap.size, 0, none⟩ = some (.string j) := hO6.c 0 0
        have c0_1 : w7.cell? ⟨wo1.heap.size, 1, none⟩ = some (.slice (some ⟨g, og, none⟩) p.1.waiting.length c1) := hO6.c 0 1
        have c0_2 : w7.cell? ⟨wo1.heap.size, 2, none⟩ = some (.slice A6 (p.1.held.length + 1) c6) := hO6.c 0 2
        have cf0 := hO6.fr 0
        have c1_0 : w7.cell? ⟨w.heap.size + 1 + 1, 0, none⟩ = some (.string bE) := hO6.c 1 0
        have c1_1 : w7.cell? ⟨w.heap.size + 1 + 1, 1, none⟩ = some (.slice none 0 0) := hO6.c 1 1
        have c1_2 : w7.cell? ⟨w.heap.size + 1 + 1, 2, none⟩ = some (.slice none 0 0) := hO6.c 1 2
        have c1_3 : w7.cell? ⟨w.heap.size + 1 + 1, 3, none⟩ = some (.string bE) := hO6.c 1 3
        have c1_4 : w7.cell? ⟨w.heap.size + 1 + 1, 4, none⟩ = some (.slice none 0 0) := hO6.c 1 4
        have c1_5 : w7.cell? ⟨w.heap.size + 1 + 1, 5, none⟩ = some (.slice none 0 0) := hO6.c 1 5
        have cf1 := hO6.fr 1
        have c2_0 : w7.cell? ⟨w.heap.size + 1, 0, none⟩ = some (.int .u8 (kd : Int)) := hO6.c 2 0
        have c2_1 : w7.cell? ⟨w.heap.size + 1, 1, none⟩ = some (.int .u8 (pl : Int)) := hO6.c 2 1
        have c2_2 : w7.cell? ⟨w.heap.size + 1, 2, none⟩ = some (.int .u8 (jb : Int)) := hO6.c 2 2
        have cf2 := hO6.fr 2
        have c3_0 : w7.cell? ⟨w.heap.size, 0, none⟩ = some (.string p.1.holder) := hO6.c 3 0
        have c3_1 : w7.cell? ⟨w.heap.size, 1, none⟩ = some (.slice (some ⟨g, og, none⟩) p.1.waiting.length c1) := hO6.c 3 1
        have c3_2 : w7.cell? ⟨w.heap.size, 2, none⟩ = some (.slice A2 p.1.held.length c2) := hO6.c 3 2
        have c3_3 : w7.cell? ⟨w.heap.size, 3, none⟩ = some (.string p.2.holder) := hO6.c 3 3
        have c3_4 : w7.cell? ⟨w.heap.size, 4, none⟩ = some (.slice B1 p.2.waiting.length d1) := hO6.c 3 4
        have c3_5 : w7.cell? ⟨w.heap.size, 5, none⟩ = some (.slice B2 p.2.held.length d2) := hO6.c 3 5
        have cf3 := hO6.fr 3
        replace k1 : SL S0 w.heap.size wo2.heap.size w7 (some ⟨g, og, none⟩) p.1.waiting.length c1 p.1.waiting := k1.up hb7
        replace k2 : SL S0 w.heap.size wo2.heap.size w7 A2 p.1.held.length c2 p.1.held := k2.up hb7
        replace k3 : SL S0 w.heap.size wo2.heap.size w7 B1 p.2.waiting.length d1 p.2.waiting := k3.up hb7
        replace k4 : SL S0 w.heap.size wo2.heap.size w7 B2 p.2.held.length d2 p.2.held := k4.up hb7
        replace hsz : wo2.heap.size ≤ w7.heap.size := Nat.le_trans hsz hb7.size
        replace n6 : SL S0 w.heap.size wo2.heap.size w7 A6 (p.1.held ++ [j]).length c6 (p.1.held ++ [j]) := n6.up hb7
        go_upto_region 30 with (fail)
        generalize hx_ : World.setCell _ _ _ = wo7
        have hO7 : OwnB w wo7 [(wo1.heap.size, [.string j, .slice A7 (p.1.waiting.length - 1) c7, .slice A6 (p.1.held.length + 1) c6]), (w.heap.size + 1 + 1, [.string bE, .slice none 0 0, .slice none 0 0, .string bE, .slice none 0 0, .slice none 0 0]), (w.heap.size + 1, [.int .u8 (kd : Int), .int .u8 (pl : Int), .int .u8 (jb : Int)]), (w.heap.size, [.string p.1.holder, .slice (some ⟨g, og, none⟩) p.1.waiting.length c1, .slice A2 p.1.held.length c2, .string p.2.holder, .slice B1 p.2.waiting.length d1, .slice B2 p.2.held.length d2])] := by rw [← hx_]; exact hO6.store 0 rfl 1 _
        have zwo7 : w7.heap.size ≤ wo7.heap.size := by rw [← hx_]; simp [World.setCell]
        replace k1 : SL S0 w.heap.size wo2.heap.size wo7 (some ⟨g, og, none⟩) p.1.waiting.length c1 p.1.waiting := by rw [← hx_]; exact k1.set (by omega) (by omega)
        replace k2 : SL S0 w.heap.size wo2.heap.size wo7 A2 p.1.held.length c2 p.1.held := by rw [← hx_]; exact k2.set (by omega) (by omega)
        replace k3 : SL S0 w.heap.size wo2.heap.size wo7 B1 p.2.waiting.length d1 p.2.waiting := by rw [← hx_]; exact k3.set (by omega) (by omega)
        replace k4 : SL S0 w.heap.size wo2.heap.size wo7 B2 p.2.held.length d2 p.2.held := by rw [← hx_]; exact k4.set (by omega) (by omega)
        replace hsz : wo2.heap.size ≤ wo7.heap.size := by rw [← hx_]; exact szset hsz
        replace n6 : SL S0 w.heap.size wo2.heap.size wo7 A6 (p.1.held ++ [j]).length c6 (p.1.held ++ [j]) := by rw [← hx_]; exact n6.set (by omega) (by omega)
        replace n7 : SL S0 w.heap.size wo2.heap.size wo7 A7 (List.drop 1 p.1.waiting).length c7 (List.drop 1 p.1.waiting) := by rw [← hx_]; exact n7.set (by omega) (by omega)
        clear hx_ c0_0 c0_1 c0_2 cf0 c1_0 c1_1 c1_2 c1_3 c1_4 c1_5 cf1 c2_0 c2_1 c2_2 cf2 c3_0 c3_1 c3_2 c3_3 c3_4 c3_5 cf3 hO6
        have c0_0 : wo7.cell? ⟨wo1.heap.size, 0, none⟩ = some (.string j) := hO7.c 0 0
        have c0_1 : wo7.cell? ⟨wo1.heap.size, 1, none⟩ = some (.slice A7 (p.1.waiting.length - 1) c7) := hO7.c 0 1
        have c0_2 : wo7.cell? ⟨wo1.heap.size, 2, none⟩ = some (.slice A6 (p.1.held.length + 1) c6) := hO7.c 0 2
        have cf0 := hO7.fr 0
        have c1_0 : wo7.cell? ⟨w.heap.size + 1 + 1, 0, none⟩ = some (.string bE) := hO7.c 1 0
        have c1_1 : wo7.cell? ⟨w.heap.size + 1 + 1, 1, none⟩ = some (.slice none 0 0) := hO7.c 1 1
        have c1_2 : wo7.cell? ⟨w.heap.size + 1 + 1, 2, none⟩ = some (.slice none 0 0) := hO7.c 1 2
        have c1_3 : wo7.cell? ⟨w.heap.size + 1 + 1, 3, none⟩ = some (.string bE) := hO7.c 1 3
        have c1_4 : wo7.cell? ⟨w.heap.size + 1 + 1, 4, none⟩ = some (.slice none 0 0) := hO7.c 1 4
        have c1_5 : wo7.cell? ⟨w.heap.size + 1 + 1, 5, none⟩ = some (.slice none 0 0) := hO7.c 1 5
        have cf1 := hO7.fr 1
        have c2_0 : wo7.cell? ⟨w.heap.size + 1, 0, none⟩ = some (.int .u8 (kd : Int)) := hO7.c 2 0
        have c2_1 : wo7.cell? ⟨w.heap.size + 1, 1, none⟩ = some (.int .u8 (pl : Int)) := hO7.c 2 1
        have c2_2 : wo7.cell? ⟨w.heap.size + 1, 2, none⟩ = some (.int .u8 (jb : Int)) := hO7.c 2 2
        have cf2 := hO7.fr 2
        have c3_0 : wo7.cell? ⟨w.heap.size, 0, none⟩ = some (.string p.1.holder) := hO7.c 3 0
        have c3_1 : wo7.cell? ⟨w.heap.size, 1, none⟩ = some (.slice (some ⟨g, og, none⟩) p.1.waiting.length c1) := hO7.c 3 1
        have c3_2 : wo7.cell? ⟨w.heap.size, 2, none⟩ = some (.slice A2 p.1.held.length c2) := hO7.c 3 2
        have c3_3 : wo7.cell? ⟨w.heap.size, 3, none⟩ = some (.string p.2.holder) := hO7.c 3 3
        have c3_4 : wo7.cell? ⟨w.heap.size, 4, none⟩ = some (.slice B1 p.2.waiting.length d1) := hO7.c 3 4
        have c3_5 : wo7.cell? ⟨w.heap.size, 5, none⟩ = some (.slice B2 p.2.held.length d2) := hO7.c 3 5
        have cf3 := hO7.fr 3
        go_upto_region 31 with (fail)
        generalize hx_ : World.setCell (World.setCell (World.setCell _ _ _) _ _) _ _ = wo8
        have hO8 : OwnB w wo8 [(wo1.heap.size, [.string j, .slice A7 (p.1.waiting.length - 1) c7, .slice A6 (p.1.held.length + 1) c6]), (w.heap.size + 1 + 1, [.string bE, .slice none 0 0, .slice none 0 0, .string bE, .slice none 0 0, .slice none 0 0]), (w.heap.size + 1, [.int .u8 (kd : Int), .int .u8 (pl : Int), .int .u8 (jb : Int)]), (w.heap.size, [.string j, .slice A7 (p.1.waiting.length - 1) c7, .slice A6 (p.1.held.length + 1) c6, .string p.2.holder, .slice B1 p.2.waiting.length d1, .slice B2 p.2.held.length d2])] := by rw [← hx_]; exact ((hO7.store 3 rfl 0 _).store 3 rfl 1 _).store 3 rfl 2 _
        have zwo8 : wo7.heap.size ≤ wo8.heap.size := by rw [← hx_]; simp [World.setCell]
        replace k1 : SL S0 w.heap.size wo2.heap.size wo8 (some ⟨g, og, none⟩) p.1.waiting.length c1 p.1.waiting := by rw [← hx_]; exact (((k1.set (by omega) (by omega)).set (by omega) (by omega)).set (by omega) (by omega))
        replace k2 : SL S0 w.heap.size wo2.heap.size wo8 A2 p.1.held.length c2 p.1.held := by rw [← hx_]; exact (((k2.set (by omega) (by omega)).set (by omega) (by omega)).set (by omega) (by omega))
        replace k3 : SL S0 w.heap.size wo2.heap.size wo8 B1 p.2.waiting.length d1 p.2.waiting := by rw [← hx_]; exact (((k3.set (by omega) (by omega)).set (by omega) (by omega)).set (by omega) (by omega))
        replace k4 : SL S0 w.heap.size wo2.heap.size wo8 B2 p.2.held.length d2 p.2.held := by rw [← hx_]; exact (((k4.set (by omega) (by omega)).set (by omega) (by omega)).set (by omega) (by omega))
        replace hsz : wo2.heap.size ≤ wo8.heap.size := by rw [← hx_]; exact (szset (szset (szset hsz)))
        replace n6 : SL S0 w.heap.size wo2.heap.size wo8 A6 (p.1.held ++ [j]).length c6 (p.1.held ++ [j]) := by rw [← hx_]; exact (((n6.set (by omega) (by omega)).set (by omega) (by omega)).set (by omega) (by omega))
        replace n7 : SL S0 w.heap.size wo2.heap.size wo8 A7 (List.drop 1 p.1.waiting).length c7 (List.drop 1 p.1.waiting) := by rw [← hx_]; exact (((n7.set (by omega) (by omega)).set (by omega) (by omega)).set (by omega) (by omega))
        clear hx_ c0_0 c0_1 c0_2 cf0 c1_0 c1_1 c1_2 c1_3 c1_4 c1_5 cf1 c2_0 c2_1 c2_2 cf2 c3_0 c3_1 c3_2 c3_3 c3_4 c3_5 cf3 hO7
        have c0_0 : wo8.cell? ⟨wo1.heap.size, 0, none⟩ = some (.string j) := hO8.c 0 0
        have c0_1 : wo8.cell? ⟨wo1.heap.size, 1, none⟩ = some (.slice A7 (p.1.waiting.length - 1) c7) := hO8.c 0 1
        have c0_2 : wo8.cell? ⟨wo1.heap.size, 2, none⟩ = some (.slice A6 (p.1.held.length + 1) c6) := hO8.c 0 2
        have cf0 := hO8.fr 0
        have c1_0 : wo8.cell? ⟨w.heap.size + 1 + 1, 0, none⟩ = some (.string bE) := hO8.c 1 0
        have c1_1 : wo8.cell? ⟨w.heap.size + 1 + 1, 1, none⟩ = some (.slice none 0 0) := hO8.c 1 1
        have c1_2 : wo8.cell? ⟨w.heap.size + 1 + 1, 2, none⟩ = some (.slice none 0 0) := hO8.c 1 2
        have c1_3 : wo8.cell? ⟨w.heap.size + 1 + 1, 3, none⟩ = some (.string bE) := hO8.c 1 3
        have c1_4 : wo8.cell? ⟨w.heap.size + 1 + 1, 4, none⟩ = some (.slice none 0 0) := hO8.c 1 4
        have c1_5 : wo8.cell? ⟨w.heap.size + 1 + 1, 5, none⟩ = some (.slice none 0 0) := hO8.c 1 5
        have cf1 := hO8.fr 1
        have c2_0 : wo8.cell? ⟨w.heap.size + 1, 0, none⟩ = some (.int .u8 (kd : Int)) := hO8.c 2 0
        have c2_1 : wo8.cell? ⟨w.heap.size + 1, 1, none⟩ = some (.int .u8 (pl : Int)) := hO8.c 2 1
        have c2_2 : wo8.cell? ⟨w.heap.size + 1, 2, none⟩ = some (.int .u8 (jb : Int)) := hO8.c 2 2
        have cf2 := hO8.fr 2
        have c3_0 : wo8.cell? ⟨w.heap.size, 0, none⟩ = some (.string j) := hO8.c 3 0
        have c3_1 : wo8.cell? ⟨w.heap.size, 1, none⟩ = some (.slice A7 (p.1.waiting.length - 1) c7) := hO8.c 3 1
        have c3_2 : wo8.cell? ⟨w.heap.size, 2, none⟩ = some (.slice A6 (p.1.held.length + 1) c6) := hO8.c 3 2
        have c3_3 : wo8.cell? ⟨w.heap.size, 3, none⟩ = some (.string p.2.holder) := hO8.c 3 3
        have c3_4 : wo8.cell? ⟨w.heap.size, 4, none⟩ = some (.slice B1 p.2.waiting.length d1) := hO8.c 3 4
        have c3_5 : wo8.cell? ⟨w.heap.size, 5, none⟩ = some (.slice B2 p.2.held.length d2) := hO8.c 3 5
        have cf3 := hO8.fr 3
        repeat' ((fail_if_success at_builtin); (first | go_skip | go_guarded | go_step))
        generalize hx_ : World.setCell (World.setCell (World.setCell (World.setCell (World.setCell (World.setCell _ _ _) _ _) _ _) _ _) _ _) _ _ = wo9
        have hO9 : OwnB w wo9 [(wo1.heap.size, [.string j, .slice A7 (p.1.waiting.length - 1) c7, .slice A6 (p.1.held.length + 1) c6]), (w.heap.size + 1 + 1, [.string j, .slice A7 (p.1.waiting.length - 1) c7, .slice A6 (p.1.held.length + 1) c6, .string p.2.holder, .slice B1 p.2.waiting.length d1, .slice B2 p.2.held.length d2]), (w.heap.size + 1, [.int .u8 (kd : Int), .int .u8 (pl : Int), .int .u8 (jb : Int)]), (w.heap.size, [.string j, .slice A7 (p.1.waiting.length - 1) c7, .slice A6 (p.1.held.length + 1) c6, .string p.2.holder, .slice B1 p.2.waiting.length d1, .slice B2 p.2.held.length d2])] := by rw [← hx_]; exact (((((hO8.store 1 rfl 0 _).store 1 rfl 1 _).store 1 rfl 2 _).store 1 rfl 3 _).store 1 rfl 4 _).store 1 rfl 5 _
        have zwo9 : wo8.heap.size ≤ wo9.heap.size := by rw [← hx_]; simp [World.setCell]
        replace k1 : SL S0 w.heap.size wo2.heap.size wo9 (some ⟨g, og, none⟩) p.1.waiting.length c1 p.1.waiting := by rw [← hx_]; exact ((((((k1.set (by omega) (by omega)).set (by omega) (by omega)).set (by omega) (by omega)).set (by omega) (by omega)).set (by omega) (by omega)).set (by omega) (by omega))
        replace k2 : SL S0 w.heap.size wo2.heap.size wo9 A2 p.1.held.length c2 p.1.held := by rw [← hx_]; exact ((((((k2.set (by omega) (by omega)).set (by omega) (by omega)).set (by omega) (by omega)).set (by omega) (by omega)).set (by omega) (by omega)).set (by omega) (by omega))
        replace k3 : SL S0 w.heap.size wo2.heap.size wo9 B1 p.2.waiting.length d1 p.2.waiting := by rw [← hx_]; exact ((((((k3.set (by omega) (by omega)).set (by omega) (by omega)).set (by omega) (by omega)).set (by omega) (by omega)).set (by omega) (by omega)).set (by omega) (by omega))
        replace k4 : SL S0 w.heap.size wo2.heap.size wo9 B2 p.2.held.length d2 p.2.held := by rw [← hx_]; exact ((((((k4.set (by omega) (by omega)).set (by omega) (by omega)).set (by omega) (by omega)).set (by omega) (by omega)).set (by omega) (by omega)).set (by omega) (by omega))
        replace hsz : wo2.heap.size ≤ wo9.heap.size := by rw [← hx_]; exact (szset (szset (szset (szset (szset (szset hsz))))))
        replace n6 : SL S0 w.heap.size wo2.heap.size wo9 A6 (p.1.held ++ [j]).length c6 (p.1.held ++ [j]) := by rw [← hx_]; exact ((((((n6.set (by omega) (by omega)).set (by omega) (by omega)).set (by omega) (by omega)).set (by omega) (by omega)).set (by omega) (by omega)).set (by omega) (by omega))
        replace n7 : SL S0 w.heap.size wo2.heap.size wo9 A7 (List.drop 1 p.1.waiting).length c7 (List.drop 1 p.1.waiting) := by rw [← hx_]; exact ((((((n7.set (by omega) (by omega)).set (by omega) (by omega)).set (by omega) (by omega)).set (by omega) (by omega)).set (by omega) (by omega)).set (by omega) (by omega))
        clear hx_ c0_0 c0_1 c0_2 cf0 c1_0 c1_1 c1_2 c1_3 c1_4 c1_5 cf1 c2_0 c2_1 c2_2 cf2 c3_0 c3_1 c3_2 c3_3 c3_4 c3_5 cf3 hO8
        have c0_0 : wo9.cell? ⟨wo1.heap.size, 0, none⟩ = some (.string j) := hO9.c 0 0
        have c0_1 : wo9.cell? ⟨wo1.heap.size, 1, none⟩ = some (.slice A7 (p.1.waiting.length - 1) c7) := hO9.c 0 1
        have c0_2 : wo9.cell? ⟨wo1.heap.size, 2, none⟩ = some (.slice A6 (p.1.held.length + 1) c6) := hO9.c 0 2
        have cf0 := hO9.fr 0
        have c1_0 : wo9.cell? ⟨w.heap.size + 1 + 1, 0, none⟩ = some (.string j) := hO9.c 1 0
        have c1_1 : wo9.cell? ⟨w.heap.size + 1 + 1, 1, none⟩ = some (.slice A7 (p.1.waiting.length - 1) c7) := hO9.c 1 1
        have c1_2 : wo9.cell? ⟨w.heap.size + 1 + 1, 2, none⟩ = some (.slice A6 (p.1.held.length + 1) c6) := hO9.c 1 2
        have c1_3 : wo9.cell? ⟨w.heap.size + 1 + 1, 3, none⟩ = some (.string p.2.holder) := hO9.c 1 3
        have c1_4 : wo9.cell? ⟨w.heap.size + 1 + 1, 4, none⟩ = some (.slice B1 p.2.waiting.length d1) := hO9.c 1 4
        have c1_5 : wo9.cell? ⟨w.heap.size + 1 + 1, 5, none⟩ = some (.slice B2 p.2.held.length d2) := hO9.c 1 5
        have cf1 := hO9.fr 1
        have c2_0 : wo9.cell? ⟨w.heap.size + 1, 0, none⟩ = some (.int .u8 (kd : Int)) := hO9.c 2 0
        have c2_1 : wo9.cell? ⟨w.heap.size + 1, 1, none⟩ = some (.int .u8 (pl : Int)) := hO9.c 2 1
        have c2_2 : wo9.cell? ⟨w.heap.size + 1, 2, none⟩ = some (.int .u8 (jb : Int)) := hO9.c 2 2
        have cf2 := hO9.fr 2
        have c3_0 : wo9.cell? ⟨w.heap.size, 0, none⟩ = some (.string j) := hO9.c 3 0
        have c3_1 : wo9.cell? ⟨w.heap.size, 1, none⟩ = some (.slice A7 (p.1.waiting.length - 1) c7) := hO9.c 3 1
        have c3_2 : wo9.cell? ⟨w.heap.size, 2, none⟩ = some (.slice A6 (p.1.held.length + 1) c6) := hO9.c 3 2
        have c3_3 : wo9.cell? ⟨w.heap.size, 3, none⟩ = some (.string p.2.holder) := hO9.c 3 3
        have c3_4 : wo9.cell? ⟨w.heap.size, 4, none⟩ = some (.slice B1 p.2.waiting.length d1) := hO9.c 3 4
        have c3_5 : wo9.cell? ⟨w.heap.size, 5, none⟩ = some (.slice B2 p.2.held.length d2) := hO9.c 3 5
        have cf3 := hO9.fr 3
        refine bodyPost_ret (v := .tuple #[.agg #[.string j, .slice A7 (p.1.waiting.length - 1) c7, .slice A6 (p.1.held.length + 1) c6, .string p.2.holder, .slice B1 p.2.waiting.length d1, .slice B2 p.2.held.length d2], .bool true]) (by simp only [results, Tryd.results24]; go_simp; first | done | exact ⟨rfl, rfl, rfl⟩ | rfl) rfl ?_
        have hq : Q = expT 1 false j p := by first | exact hQ.out | exact hQ
        clear hQ
        subst hq
        exact ⟨A7, c7, A6, c6, B1, d1, B2, d2, by rw [hm] <;> first | rfl | simp, hO9.below, by rw [hm]; exact ⟨n7.out (by omega), n6.out (by omega), k3.out (by omega), k4.out (by omega)⟩⟩
set_option maxRecDepth 100000 in
set_option maxHeartbeats 4000000 in
theorem exp11_any (kd pl jb : Nat) (p : Turn × Turn) (A1 : Option Addr) (c1 : Nat) (A2 : Option Addr) (c2 : Nat) (B1 : Option Addr) (d1 : Nat) (B2 : Option Addr) (d2 : Nat) (j : ByteArray) (w : World) (S0 : Nat → Prop) (hS0 : ∀ x, S0 x → x < w.heap.size) (h : TwoS S0 w p A1 c1 A2 c2 B1 d1 B2 d2) (_hl1 : p.1.waiting.length ≤ 100000) (hl2 : p.2.waiting.length ≤ 100000) (_hl3 : p.1.held.length ≤ 100000) (hl4 : p.2.held.length ≤ 100000) (hkd : (kd : Int).tmod 4 = 1) (hpl : (wrap64 (pl : Int)).tmod 2 = 1) (Q : (Turn × Turn) × Bool) (hQ : Q = expT 1 true j p) :
    Calls Tryd.prog 24 #[.agg #[.string p.1.holder, .slice A1 p.1.waiting.length c1, .slice A2 p.1.held.length c2, .string p.2.holder, .slice B1 p.2.waiting.length d1, .slice B2 p.2.held.length d2], .agg #[.int .u8 (kd : Int), .int .u8 (pl : Int), .int .u8 (jb : Int)], .string j] w fun e w' => ∃ (A1' : Option Addr) (c1' : Nat) (A2' : Option Addr) (c2' : Nat) (B1' : Option Addr) (d1' : Nat) (B2' : Option Addr) (d2' : Nat), e = .returned (.tuple #[.agg #[.string Q.1.1.holder, .slice A1' Q.1.1.waiting.length c1', .slice A2' Q.1.1.held.length c2', .string Q.1.2.holder, .slice B1' Q.1.2.waiting.length d1', .slice B2' Q.1.2.held.length d2'], .bool Q.2]) ∧ Below w.heap.size w w' ∧ TwoS (fun x => x < w'.heap.size ∧ (S0 x ∨ w.heap.size ≤ x)) w' Q.1 A1' c1' A2' c2' B1' d1' B2' d2' := by
  go_enter Tryd.func24, Tryd.ntmps24
  go_upto_region 1 with (fail)
  generalize hx_ : World.alloc (World.alloc (World.alloc w _) _) _ = wo1
  have hO1 : OwnB w wo1 [(w.heap.size + 1 + 1, [.string bE, .slice none 0 0, .slice none 0 0, .string bE, .slice none 0 0, .slice none 0 0]), (w.heap.size + 1, [.int .u8 (kd : Int), .int .u8 (pl : Int), .int .u8 (jb : Int)]), (w.heap.size, [.string p.1.holder, .slice A1 p.1.waiting.length c1, .slice A2 p.1.held.length c2, .string p.2.holder, .slice B1 p.2.waiting.length d1, .slice B2 p.2.held.length d2])] := by rw [← hx_]; exact (((OwnB.refl w).new #[.string p.1.holder, .slice A1 p.1.waiting.length c1, .slice A2 p.1.held.length c2, .string p.2.holder, .slice B1 p.2.waiting.length d1, .slice B2 p.2.held.length d2] _ (g := w.heap.size)).new #[.int .u8 (kd : Int), .int .u8 (pl : Int), .int .u8 (jb : Int)] _ (g := w.heap.size + 1)).new #[.string bE, .slice none 0 0, .slice none 0 0, .string bE, .slice none 0 0, .slice none 0 0] _ (g := w.heap.size + 1 + 1)
  have hbn : Below w.heap.size w wo1 := by rw [← hx_]; exact (((Below.refl _ _).alloc (Nat.le_refl _) _).alloc (by simp) _).alloc (by simp; omega) _
  have zwo1 : w.heap.size + 2 < wo1.heap.size := by rw [← hx_]; simp <;> omega
  clear hx_
  have c0_0 : wo1.cell? ⟨w.heap.size + 1 + 1, 0, none⟩ = some (.string bE) := hO1.c 0 0
  have c0_1 : wo1.cell? ⟨w.heap.size + 1 + 1, 1, none⟩ = some (.slice none 0 0) := hO1.c 0 1
  have c0_2 : wo1.cell? ⟨w.heap.size + 1 + 1, 2, none⟩ = some (.slice none 0 0) := hO1.c 0 2
  have c0_3 : wo1.cell? ⟨w.heap.size + 1 + 1, 3, none⟩ = some (.string bE) := hO1.c 0 3
  have c0_4 : wo1.cell? ⟨w.heap.size + 1 + 1, 4, none⟩ = some (.slice none 0 0) := hO1.c 0 4
  have c0_5 : wo1.cell? ⟨w.heap.size + 1 + 1, 5, none⟩ = some (.slice none 0 0) := hO1.c 0 5
  have cf0 := hO1.fr 0
  have c1_0 : wo1.cell? ⟨w.heap.size + 1, 0, none⟩ = some (.int .u8 (kd : Int)) := hO1.c 1 0
  have c1_1 : wo1.cell? ⟨w.heap.size + 1, 1, none⟩ = some (.int .u8 (pl : Int)) := hO1.c 1 1
  have c1_2 : wo1.cell? ⟨w.heap.size + 1, 2, none⟩ = some (.int .u8 (jb : Int)) := hO1.c 1 2
  have cf1 := hO1.fr 1
  have c2_0 : wo1.cell? ⟨w.heap.size, 0, none⟩ = some (.string p.1.holder) := hO1.c 2 0
  have c2_1 : wo1.cell? ⟨w.heap.size, 1, none⟩ = some (.slice A1 p.1.waiting.length c1) := hO1.c 2 1
  have c2_2 : wo1.cell? ⟨w.heap.size, 2, none⟩ = some (.slice A2 p.1.held.length c2) := hO1.c 2 2
  have c2_3 : wo1.cell? ⟨w.heap.size, 3, none⟩ = some (.string p.2.holder) := hO1.c 2 3
  have c2_4 : wo1.cell? ⟨w.heap.size, 4, none⟩ = some (.slice B1 p.2.waiting.length d1) := hO1.c 2 4
  have c2_5 : wo1.cell? ⟨w.heap.size, 5, none⟩ = some (.slice B2 p.2.held.length d2) := hO1.c 2 5
  have cf2 := hO1.fr 2
  clear hbn
  go_upto_region 3 with (fail)
  generalize hx_ : World.alloc wo1 _ = wo2
  have hO2 : OwnB w wo2 [(wo1.heap.size, [.string p.2.holder, .slice B1 p.2.waiting.length d1, .slice B2 p.2.held.length d2]), (w.heap.size + 1 + 1, [.string bE, .slice none 0 0, .slice none 0 0, .string bE, .slice none 0 0, .slice none 0 0]), (w.heap.size + 1, [.int .u8 (kd : Int), .int .u8 (pl : Int), .int .u8 (jb : Int)]), (w.heap.size, [.string p.1.holder, .slice A1 p.1.waiting.length c1, .slice A2 p.1.held.length c2, .string p.2.holder, .slice B1 p.2.waiting.length d1, .slice B2 p.2.held.length d2])] := by rw [← hx_]; exact hO1.new #[.string p.2.holder, .slice B1 p.2.waiting.length d1, .slice B2 p.2.held.length d2] _ (g := wo1.heap.size)
  have hbn : Below wo1.heap.size wo1 wo2 := by rw [← hx_]; exact (Below.refl _ _).alloc (Nat.le_refl _) _
  have zwo2 : wo1.heap.size + 0 < wo2.heap.size := by rw [← hx_]; simp <;> omega
  clear hx_ c0_0 c0_1 c0_2 c0_3 c0_4 c0_5 cf0 c1_0 c1_1 c1_2 cf1 c2_0 c2_1 c2_2 c2_3 c2_4 c2_5 cf2 hO1
  have c0_0 : wo2.cell? ⟨wo1.heap.size, 0, none⟩ = some (.string p.2.holder) := hO2.c 0 0
  have c0_1 : wo2.cell? ⟨wo1.heap.size, 1, none⟩ = some (.slice B1 p.2.waiting.length d1) := hO2.c 0 1
  have c0_2 : wo2.cell? ⟨wo1.heap.size, 2, none⟩ = some (.slice B2 p.2.held.length d2) := hO2.c 0 2
  have cf0 := hO2.fr 0
  have c1_0 : wo2.cell? ⟨w.heap.size + 1 + 1, 0, none⟩ = some (.string bE) := hO2.c 1 0
  have c1_1 : wo2.cell? ⟨w.heap.size + 1 + 1, 1, none⟩ = some (.slice none 0 0) := hO2.c 1 1
  have c1_2 : wo2.cell? ⟨w.heap.size + 1 + 1, 2, none⟩ = some (.slice none 0 0) := hO2.c 1 2
  have c1_3 : wo2.cell? ⟨w.heap.size + 1 + 1, 3, none⟩ = some (.string bE) := hO2.c 1 3
  have c1_4 : wo2.cell? ⟨w.heap.size + 1 + 1, 4, none⟩ = some (.slice none 0 0) := hO2.c 1 4
  have c1_5 : wo2.cell? ⟨w.heap.size + 1 + 1, 5, none⟩ = some (.slice none 0 0) := hO2.c 1 5
  have cf1 := hO2.fr 1
  have c2_0 : wo2.cell? ⟨w.heap.size + 1, 0, none⟩ = some (.int .u8 (kd : Int)) := hO2.c 2 0
  have c2_1 : wo2.cell? ⟨w.heap.size + 1, 1, none⟩ = some (.int .u8 (pl : Int)) := hO2.c 2 1
  have c2_2 : wo2.cell? ⟨w.heap.size + 1, 2, none⟩ = some (.int .u8 (jb : Int)) := hO2.c 2 2
  have cf2 := hO2.fr 2
  have c3_0 : wo2.cell? ⟨w.heap.size, 0, none⟩ = some (.string p.1.holder) := hO2.c 3 0
  have c3_1 : wo2.cell? ⟨w.heap.size, 1, none⟩ = some (.slice A1 p.1.waiting.length c1) := hO2.c 3 1
  have c3_2 : wo2.cell? ⟨w.heap.size, 2, none⟩ = some (.slice A2 p.1.held.length c2) := hO2.c 3 2
  have c3_3 : wo2.cell? ⟨w.heap.size, 3, none⟩ = some (.string p.2.holder) := hO2.c 3 3
  have c3_4 : wo2.cell? ⟨w.heap.size, 4, none⟩ = some (.slice B1 p.2.waiting.length d1) := hO2.c 3 4
  have c3_5 : wo2.cell? ⟨w.heap.size, 5, none⟩ = some (.slice B2 p.2.held.length d2) := hO2.c 3 5
  have cf3 := hO2.fr 3
  clear hbn
  have hbz := hO2.below
  have k1 : SL S0 w.heap.size wo2.heap.size wo2 A1 p.1.waiting.length c1 p.1.waiting := SL.old h.w1 hS0 hbz
  have k2 : SL S0 w.heap.size wo2.heap.size wo2 A2 p.1.held.length c2 p.1.held := SL.old h.h1 hS0 hbz
  have k3 : SL S0 w.heap.size wo2.heap.size wo2 B1 p.2.waiting.length d1 p.2.waiting := SL.old h.w2 hS0 hbz
  have k4 : SL S0 w.heap.size wo2.heap.size wo2 B2 p.2.held.length d2 p.2.held := SL.old h.h2 hS0 hbz
  have hsz : wo2.heap.size ≤ wo2.heap.size := Nat.le_refl _
  clear h hbz
  have hm0 : expT 1 true j p = (if (eqB p.2.holder bE && headB p.2.waiting j) = false then (p, false) else ((p.1, ⟨j, p.2.waiting.drop 1, p.2.held ++ [j]⟩), true)) := rfl
  cases hb1 : eqB p.2.holder bE with
  | false =>
    have hm : expT 1 true j p = (p, false) := by rw [hm0, hb1] <;> rfl
    have q1 : (p.2.holder.toList == []) = false := by rw [← hb1]; exact (congrArg (p.2.holder.toList == ·) (ByteArray.toList_eq bE)).symm
    clear hb1 hm0
    repeat' ((fail_if_success at_builtin); (first | go_skip | go_guarded | go_step))
    generalize hx_ : World.setCell (World.setCell (World.setCell (World.setCell (World.setCell (World.setCell _ _ _) _ _) _ _) _ _) _ _) _ _ = wo3
    have hO3 : OwnB w wo3 [(wo1.heap.size, [.string p.2.holder, .slice B1 p.2.waiting.length d1, .slice B2 p.2.held.length d2]), (w.heap.size + 1 + 1, [.string p.1.holder, .slice A1 p.1.waiting.length c1, .slice A2 p.1.held.length c2, .string p.2.holder, .slice B1 p.2.waiting.length d1, .slice B2 p.2.held.length d2]), (w.heap.size + 1, [.int .u8 (kd : Int), .int .u8 (pl : Int), .int .u8 (jb : Int)]), (w.heap.size, [.string p.1.holder, .slice A1 p.1.waiting.length c1, .slice A2 p.1.held.length c2, .string p.2.holder, .slice B1 p.2.waiting.length d1, .slice B2 p.2.held.length d2])] := by rw [← hx_]; exact (((((hO2.store 1 rfl 0 _).store 1 rfl 1 _).store 1 rfl 2 _).store 1 rfl 3 _).store 1 rfl 4 _).store 1 rfl 5 _
    have zwo3 : wo2.heap.size ≤ wo3.heap.size := by rw [← hx_]; simp [World.setCell]
    replace k1 : SL S0 w.heap.size wo2.heap.size wo3 A1 p.1.waiting.length c1 p.1.waiting := by rw [← hx_]; exact ((((((k1.set (by omega) (by omega)).set (by omega) (by omega)).set (by omega) (by omega)).set (by omega) (by omega)).set (by omega) (by omega)).set (by omega) (by omega))
    replace k2 : SL S0 w.heap.size wo2.heap.size wo3 A2 p.1.held.length c2 p.1.held := by rw [← hx_]; exact ((((((k2.set (by omega) (by omega)).set (by omega) (by omega)).set (by omega) (by omega)).set (by omega) (by omega)).set (by omega) (by omega)).set (by omega) (by omega))
    replace k3 : SL S0 w.heap.size wo2.heap.size wo3 B1 p.2.waiting.length d1 p.2.waiting := by rw [← hx_]; exact ((((((k3.set (by omega) (by omega)).set (by omega) (by omega)).set (by omega) (by omega)).set (by omega) (by omega)).set (by omega) (by omega)).set (by omega) (by omega))
    replace k4 : SL S0 w.heap.size wo2.heap.size wo3 B2 p.2.held.length d2 p.2.held := by rw [← hx_]; exact ((((((k4.set (by omega) (by omega)).set (by omega) (by omega)).set (by omega) (by omega)).set (by omega) (by omega)).set (by omega) (by omega)).set (by omega) (by omega))
    replace hsz : wo2.heap.size ≤ wo3.heap.size := by rw [← hx_]; exact (szset (szset (szset (szset (szset (szset hsz))))))
    clear hx_ c0_0 c0_1 c0_2 cf0 c1_0 c1_1 c1_2 c1_3 c1_4 c1_5 cf1 c2_0 c2_1 c2_2 cf2 c3_0 c3_1 c3_2 c3_3 c3_4 c3_5 cf3 hO2
    have c0_0 : wo3.cell? ⟨wo1.heap.size, 0, none⟩ = some (.string p.2.holder) := hO3.c 0 0
    have c0_1 : wo3.cell? ⟨wo1.heap.size, 1, none⟩ = some (.slice B1 p.2.waiting.length d1) := hO3.c 0 1
    have c0_2 : wo3.cell? ⟨wo1.heap.size, 2, none⟩ = some (.slice B2 p.2.held.length d2) := hO3.c 0 2
    have cf0 := hO3.fr 0
    have c1_0 : wo3.cell? ⟨w.heap.size + 1 + 1, 0, none⟩ = some (.string p.1.holder) := hO3.c 1 0
    have c1_1 : wo3.cell? ⟨w.heap.size + 1 + 1, 1, none⟩ = some (.slice A1 p.1.waiting.length c1) := hO3.c 1 1
    have c1_2 : wo3.cell? ⟨w.heap.size + 1 + 1, 2, none⟩ = some (.slice A2 p.1.held.length c2) := hO3.c 1 2
    have c1_3 : wo3.cell? ⟨w.heap.size + 1 + 1, 3, none⟩ = some (.string p.2.holder) := hO3.c 1 3
    have c1_4 : wo3.cell? ⟨w.heap.size + 1 + 1, 4, none⟩ = some (.slice B1 p.2.waiting.length d1) := hO3.c 1 4
    have c1_5 : wo3.cell? ⟨w.heap.size + 1 + 1, 5, none⟩ = some (.slice B2 p.2.held.length d2) := hO3.c 1 5
    have cf1 := hO3.fr 1
    have c2_0 : wo3.cell? ⟨w.heap.size + 1, 0, none⟩ = some (.int .u8 (kd : Int)) := hO3.c 2 0
    have c2_1 : wo3.cell? ⟨w.heap.size + 1, 1, none⟩ = some (.int .u8 (pl : Int)) := hO3.c 2 1
    have c2_2 : wo3.cell? ⟨w.heap.size + 1, 2, none⟩ = some (.int .u8 (jb : Int)) := hO3.c 2 2
    have cf2 := hO3.fr 2
    have c3_0 : wo3.cell? ⟨w.heap.size, 0, none⟩ = some (.string p.1.holder) := hO3.c 3 0
    have c3_1 : wo3.cell? ⟨w.heap.size, 1, none⟩ = some (.slice A1 p.1.waiting.length c1) := hO3.c 3 1
    have c3_2 : wo3.cell? ⟨w.heap.size, 2, none⟩ = some (.slice A2 p.1.held.length c2) := hO3.c 3 2
    have c3_3 : wo3.cell? ⟨w.heap.size, 3, none⟩ = some (.string p.2.holder) := hO3.c 3 3
    have c3_4 : wo3.cell? ⟨w.heap.size, 4, none⟩ = some (.slice B1 p.2.waiting.length d1) := hO3.c 3 4
    have c3_5 : wo3.cell? ⟨w.heap.size, 5, none⟩ = some (.slice B2 p.2.held.length d2) := hO3.c 3 5
    have cf3 := hO3.fr 3
    refine bodyPost_ret (v := .tuple #[.agg #[.string p.1.holder, .slice A1 p.1.waiting.length c1, .slice A2 p.1.held.length c2, .string p.2.holder, .slice B1 p.2.waiting.length d1, .slice B2 p.2.held.length d2], .bool false]) (by simp only [results, Tryd.results24]; go_simp; first | done | exact ⟨rfl, rfl, rfl⟩ | rfl) rfl ?_
    have hq : Q = expT 1 true j p := by first | exact hQ.out | exact hQ
    clear hQ
    subst hq
    exact ⟨A1, c1, A2, c2, B1, d1, B2, d2, by rw [hm] <;> first | rfl | simp, hO3.below, by rw [hm]; exact ⟨k1.out (by omega), k2.out (by omega), k3.out (by omega), k4.out (by omega)⟩⟩
  | true =>
    have q1 : (p.2.holder.toList == []) = true := by rw [← hb1]; exact (congrArg (p.2.holder.toList == ·) (ByteArray.toList_eq bE)).symm
    rw [hb1, Bool.true_and] at hm0
    clear hb1
    by_cases hl0 : p.2.waiting.length = 0
    · have q2 : ((p.2.waiting.length : Int) == 0) = true := by rw [hl0]; rfl
      have hnil := List.length_eq_zero_iff.1 hl0
      have hm : expT 1 true j p = (p, false) := by rw [hm0, hnil] <;> rfl
      clear hm0 hnil hl0
      repeat' ((fail_if_success at_builtin); (first | go_skip | go_guarded | go_step))
      generalize hx_ : World.setCell (World.setCell (World.setCell (World.setCell (World.setCell (World.setCell _ _ _) _ _) _ _) _ _) _ _) _ _ = wo3
      have hO3 : OwnB w wo3 [(wo1.heap.size, [.string p.2.holder, .slice B1 p.2.waiting.length d1, .slice B2 p.2.held.length d2]), (w.heap.size + 1 + 1, [.string p.1.holder, .slice A1 p.1.waiting.length c1, .slice A2 p.1.held.length c2, .string p.2.holder, .slice B1 p.2.waiting.length d1, .slice B2 p.2.held.length d2]), (w.heap.size + 1, [.int .u8 (kd : Int), .int .u8 (pl : Int), .int .u8 (jb : Int)]), (w.heap.size, [.string p.1.holder, .slice A1 p.1.waiting.length c1, .slice A2 p.1.held.length c2, .string p.2.holder, .slice B1 p.2.waiting.length d1, .slice B2 p.2.held.length d2])] := by rw [← hx_]; exact (((((hO2.store 1 rfl 0 _).store 1 rfl 1 _).store 1 rfl 2 _).store 1 rfl 3 _).store 1 rfl 4 _).store 1 rfl 5 _
      have zwo3 : wo2.heap.size ≤ wo3.heap.size := by rw [← hx_]; simp [World.setCell]
      replace k1 : SL S0 w.heap.size wo2.heap.size wo3 A1 p.1.waiting.length c1 p.1.waiting := by rw [← hx_]; exact ((((((k1.set (by omega) (by omega)).set (by omega) (by omega)).set (by omega) (by omega)).set (by omega) (by omega)).set (by omega) (by omega)).set (by omega) (by omega))
      replace k2 : SL S0 w.heap.size wo2.heap.size wo3 A2 p.1.held.length c2 p.1.held := by rw [← hx_]; exact ((((((k2.set (by omega) (by omega)).set (by omega) (by omega)).set (by omega) (by omega)).set (by omega) (by omega)).set (by omega) (by omega)).set (by omega) (by omega))
      replace k3 : SL S0 w.heap.size wo2.heap.size wo3 B1 p.2.waiting.length d1 p.2.waiting := by rw [← hx_]; exact ((((((k3.set (by omega) (by omega)).set (by omega) (by omega)).set (by omega) (by omega)).set (by omega) (by omega)).set (by omega) (by omega)).set (by omega) (by omega))
      replace k4 : SL S0 w.heap.size wo2.heap.size wo3 B2 p.2.held.length d2 p.2.held := by rw [← hx_]; exact ((((((k4.set (by omega) (by omega)).set (by omega) (by omega)).set (by omega) (by omega)).set (by omega) (by omega)).set (by omega) (by omega)).set (by omega) (by omega))
      replace hsz : wo2.heap.size ≤ wo3.heap.size := by rw [← hx_]; exact (szset (szset (szset (szset (szset (szset hsz))))))
      clear hx_ c0_0 c0_1 c0_2 cf0 c1_0 c1_1 c1_2 c1_3 c1_4 c1_5 cf1 c2_0 c2_1 c2_2 cf2 c3_0 c3_1 c3_2 c3_3 c3_4 c3_5 cf3 hO2
      have c0_0 : wo3.cell? ⟨wo1.heap.size, 0, none⟩ = some (.string p.2.holder) := hO3.c 0 0
      have c0_1 : wo3.cell? ⟨wo1.heap.size, 1, none⟩ = some (.slice B1 p.2.waiting.length d1) := hO3.c 0 1
      have c0_2 : wo3.cell? ⟨wo1.heap.size, 2, none⟩ = some (.slice B2 p.2.held.length d2) := hO3.c 0 2
      have cf0 := hO3.fr 0
      have c1_0 : wo3.cell? ⟨w.heap.size + 1 + 1, 0, none⟩ = some (.string p.1.holder) := hO3.c 1 0
      have c1_1 : wo3.cell? ⟨w.heap.size + 1 + 1, 1, none⟩ = some (.slice A1 p.1.waiting.length c1) := hO3.c 1 1
      have c1_2 : wo3.cell? ⟨w.heap.size + 1 + 1, 2, none⟩ = some (.slice A2 p.1.held.length c2) := hO3.c 1 2
      have c1_3 : wo3.cell? ⟨w.heap.size + 1 + 1, 3, none⟩ = some (.string p.2.holder) := hO3.c 1 3
      have c1_4 : wo3.cell? ⟨w.heap.size + 1 + 1, 4, none⟩ = some (.slice B1 p.2.waiting.length d1) := hO3.c 1 4
      have c1_5 : wo3.cell? ⟨w.heap.size + 1 + 1, 5, none⟩ = some (.slice B2 p.2.held.length d2) := hO3.c 1 5
      have cf1 := hO3.fr 1
      have c2_0 : wo3.cell? ⟨w.heap.size + 1, 0, none⟩ = some (.int .u8 (kd : Int)) := hO3.c 2 0
      have c2_1 : wo3.cell? ⟨w.heap.size + 1, 1, none⟩ = some (.int .u8 (pl : Int)) := hO3.c 2 1
      have c2_2 : wo3.cell? ⟨w.heap.size + 1, 2, none⟩ = some (.int .u8 (jb : Int)) := hO3.c 2 2
      have cf2 := hO3.fr 2
      have c3_0 : wo3.cell? ⟨w.heap.size, 0, none⟩ = some (.string p.1.holder) := hO3.c 3 0
      have c3_1 : wo3.cell? ⟨w.heap.size, 1, none⟩ = some (.slice A1 p.1.waiting.length c1) := hO3.c 3 1
      have c3_2 : wo3.cell? ⟨w.heap.size, 2, none⟩ = some (.slice A2 p.1.held.length c2) := hO3.c 3 2
      have c3_3 : wo3.cell? ⟨w.heap.size, 3, none⟩ = some (.string p.2.holder) := hO3.c 3 3
      have c3_4 : wo3.cell? ⟨w.heap.size, 4, none⟩ = some (.slice B1 p.2.waiting.length d1) := hO3.c 3 4
      have c3_5 : wo3.cell? ⟨w.heap.size, 5, none⟩ = some (.slice B2 p.2.held.length d2) := hO3.c 3 5
      have cf3 := hO3.fr 3
      refine bodyPost_ret (v := .tuple #[.agg #[.string p.1.holder, .slice A1 p.1.waiting.length c1, .slice A2 p.1.held.length c2, .string p.2.holder, .slice B1 p.2.waiting.length d1, .slice B2 p.2.held.length d2], .bool false]) (by simp only [results, Tryd.results24]; go_simp; first | done | exact ⟨rfl, rfl, rfl⟩ | rfl) rfl ?_
      have hq : Q = expT 1 true j p := by first | exact hQ.out | exact hQ
      clear hQ
      subst hq
      exact ⟨A1, c1, A2, c2, B1, d1, B2, d2, by rw [hm] <;> first | rfl | simp, hO3.below, by rw [hm]; exact ⟨k1.out (by omega), k2.out (by omega), k3.out (by omega), k4.out (by omega)⟩⟩
    · have q2 : ((p.2.waiting.length : Int) == 0) = false := by simp; intro h; exact hl0 (by rw [h]; rfl)
      have l1 : (0 : Int) < (p.2.waiting.length : Int) := by omega
      obtain ⟨x, hx⟩ : ∃ x, p.2.waiting[0]? = some x := ⟨_, List.getElem?_eq_getElem (by omega)⟩
      obtain ⟨g, og, hA, hg, e0⟩ := strS_at k3 hx
      have hhead : headB p.2.waiting j = eqB x j := by
        cases hw : p.2.waiting with
        | nil => rw [hw] at hx; cases hx
        | cons y r => rw [hw] at hx; injection hx with hx; subst hx; rfl
      rw [hhead] at hm0
      clear hhead hx
      cases hxj : eqB x j with
      | false =>
        have hm : expT 1 true j p = (p, false) := by rw [hm0, hxj] <;> rfl
        have q3 : (x.toList == j.toList) = false := hxj
        clear hm0 hxj
        subst hA
        repeat' ((fail_if_success at_builtin); (first | go_skip | go_guarded | go_step))
        generalize hx_ : World.setCell (World.setCell (World.setCell (World.setCell (World.setCell (World.setCell _ _ _) _ _) _ _) _ _) _ _) _ _ = wo3
        have hO3 : OwnB w wo3 [(wo1.heap.size, [.string p.2.holder, .slice (some ⟨g, og, none⟩) p.2.waiting.length d1, .slice B2 p.2.held.length d2]), (w.heap.size + 1 + 1, [.string p.1.holder, .slice A1 p.1.waiting.length c1, .slice A2 p.1.held.length c2, .string p.2.holder, .slice (some ⟨g, og, none⟩) p.2.waiting.length d1, .slice B2 p.2.held.length d2]), (w.heap.size + 1, [.int .u8 (kd : Int), .int .u8 (pl : Int), .int .u8 (jb : Int)]), (w.heap.size, [.string p.1.holder, .slice A1 p.1.waiting.length c1, .slice A2 p.1.held.length c2, .string p.2.holder, .slice (some ⟨g, og, none⟩) p.2.waiting.length d1, .slice B2 p.2.held.length d2])] := by rw [← hx_]; exact (((((hO2.store 1 rfl 0 _).store 1 rfl 1 _).store 1 rfl 2 _).store 1 rfl 3 _).store 1 rfl 4 _).store 1 rfl 5 _
        have zwo3 : wo2.heap.size ≤ wo3.heap.size := by rw [← hx_]; simp [World.setCell]
        replace k1 : SL S0 w.heap.size wo2.heap.size wo3 A1 p.1.waiting.length c1 p.1.waiting := by rw [← hx_]; exact ((((((k1.set (by omega) (by omega)).set (by omega) (by omega)).set (by omega) (by omega)).set (by omega) (by omega)).set (by omega) (by omega)).set (by omega) (by omega))
        replace k2 : SL S0 w.heap.size wo2.heap.size wo3 A2 p.1.held.length c2 p.1.held := by rw [← hx_]; exact ((((((k2.set (by omega) (by omega)).set (by omega) (by omega)).set (by omega) (by omega)).set (by omega) (by omega)).set (by omega) (by omega)).set (by omega) (by omega))
        replace k3 : SL S0 w.heap.size wo2.heap.size wo3 (some ⟨g, og, none⟩) p.2.waiting.length d1 p.2.waiting := by rw [← hx_]; exact ((((((k3.set (by omega) (by omega)).set (by omega) (by omega)).set (by omega) (by omega)).set (by omega) (by omega)).set (by omega) (by omega)).set (by omega) (by omega))
        replace k4 : SL S0 w.heap.size wo2.heap.size wo3 B2 p.2.held.length d2 p.2.held := by rw [← hx_]; exact ((((((k4.set (by omega) (by omega)).set (by omega) (by omega)).set (by omega) (by omega)).set (by omega) (by omega)).set (by omega) (by omega)).set (by omega) (by omega))
        replace hsz : wo2.heap.size ≤ wo3.heap.size := by rw [← hx_]; exact (szset (szset (szset (szset (szset (szset hsz))))))
        clear hx_ c0_0 c0_1 c0_2 cf0 c1_0 c1_1 c1_2 c1_3 c1_4 c1_5 cf1 c2_0 c2_1 c2_2 cf2 c3_0 c3_1 c3_2 c3_3 c3_4 c3_5 cf3 hO2
        have c0_0 : wo3.cell? ⟨wo1.heap.size, 0, none⟩ = some (.string p.2.holder) := hO3.c 0 0
        have c0_1 : wo3.cell? ⟨wo1.heap.size, 1, none⟩ = some (.slice (some ⟨g, og, none⟩) p.2.waiting.length d1) := hO3.c 0 1
        have c0_2 : wo3.cell? ⟨wo1.heap.size, 2, none⟩ = some (.slice B2 p.2.held.length d2) := hO3.c 0 2
        have cf0 := hO3.fr 0
        have c1_0 : wo3.cell? ⟨w.heap.size + 1 + 1, 0, none⟩ = some (.string p.1.holder) := hO3.c 1 0
        have c1_1 : wo3.cell? ⟨w.heap.size + 1 + 1, 1, none⟩ = some (.slice A1 p.1.waiting.length c1) := hO3.c 1 1
        have c1_2 : wo3.cell? ⟨w.heap.size + 1 + 1, 2, none⟩ = some (.slice A2 p.1.held.length c2) := hO3.c 1 2
        have c1_3 : wo3.cell? ⟨w.heap.size + 1 + 1, 3, none⟩ = some (.string p.2.holder) := hO3.c 1 3
        have c1_4 : wo3.cell? ⟨w.heap.size + 1 + 1, 4, none⟩ = some (.slice (some ⟨g, og, none⟩) p.2.waiting.length d1) := hO3.c 1 4
        have c1_5 : wo3.cell? ⟨w.heap.size + 1 + 1, 5, none⟩ = some (.slice B2 p.2.held.length d2) := hO3.c 1 5
        have cf1 := hO3.fr 1
        have c2_0 : wo3.cell? ⟨w.heap.size + 1, 0, none⟩ = some (.int .u8 (kd : Int)) := hO3.c 2 0
        have c2_1 : wo3.cell? ⟨w.heap.size + 1, 1, none⟩ = some (.int .u8 (pl : Int)) := hO3.c 2 1
        have c2_2 : wo3.cell? ⟨w.heap.size + 1, 2, none⟩ = some (.int .u8 (jb : Int)) := hO3.c 2 2
        have cf2 := hO3.fr 2
        have c3_0 : wo3.cell? ⟨w.heap.size, 0, none⟩ = some (.string p.1.holder) := hO3.c 3 0
        have c3_1 : wo3.cell? ⟨w.heap.size, 1, none⟩ = some (.slice A1 p.1.waiting.length c1) := hO3.c 3 1
        have c3_2 : wo3.cell? ⟨w.heap.size, 2, none⟩ = some (.slice A2 p.1.held.length c2) := hO3.c 3 2
        have c3_3 : wo3.cell? ⟨w.heap.size, 3, none⟩ = some (.string p.2.holder) := hO3.c 3 3
        have c3_4 : wo3.cell? ⟨w.heap.size, 4, none⟩ = some (.slice (some ⟨g, og, none⟩) p.2.waiting.length d1) := hO3.c 3 4
        have c3_5 : wo3.cell? ⟨w.heap.size, 5, none⟩ = some (.slice B2 p.2.held.length d2) := hO3.c 3 5
        have cf3 := hO3.fr 3
        refine bodyPost_ret (v := .tuple #[.agg #[.string p.1.holder, .slice A1 p.1.waiting.length c1, .slice A2 p.1.held.length c2, .string p.2.holder, .slice (some ⟨g, og, none⟩) p.2.waiting.length d1, .slice B2 p.2.held.length d2], .bool false]) (by simp only [results, Tryd.results24]; go_simp; first | done | exact ⟨rfl, rfl, rfl⟩ | rfl) rfl ?_
        have hq : Q = expT 1 true j p := by first | exact hQ.out | exact hQ
        clear hQ
        subst hq
        exact ⟨A1, c1, A2, c2, (some ⟨g, og, none⟩), d1, B2, d2, by rw [hm] <;> first | rfl | simp, hO3.below, by rw [hm]; exact ⟨k1.out (by omega), k2.out (by omega), k3.out (by omega), k4.out (by omega)⟩⟩
      | true =>
        have hm : expT 1 true j p = ((p.1, ⟨j, p.2.waiting.drop 1, p.2.held ++ [j]⟩), true) := by rw [hm0, hxj] <;> rfl
        have q3 : (x.toList == j.toList) = true := hxj
        clear hm0 hxj
        subst hA
        go_upto_region 12 with (fail)
        generalize hx_ : World.setCell _ _ _ = wo3
        have hO3 : OwnB w wo3 [(wo1.heap.size, [.string j, .slice (some ⟨g, og, none⟩) p.2.waiting.length d1, .slice B2 p.2.held.length d2]), (w.heap.size + 1 + 1, [.string bE, .slice none 0 0, .slice none 0 0, .string bE, .slice none 0 0, .slice none 0 0]), (w.heap.size + 1, [.int .u8 (kd : Int), .int .u8 (pl : Int), .int .u8 (jb : Int)]), (w.heap.size, [.string p.1.holder, .slice A1 p.1.waiting.length c1, .slice A2 p.1.held.length c2, .string p.2.holder, .slice (some ⟨g, og, none⟩) p.2.waiting.length d1, .slice B2 p.2.held.length d2])] := by rw [← hx_]; exact hO2.store 0 rfl 0 _
        have zwo3 : wo2.heap.size ≤ wo3.heap.size := by rw [← hx_]; simp [World.setCell]
        replace k1 : SL S0 w.heap.size wo2.heap.size wo3 A1 p.1.waiting.length c1 p.1.waiting := by rw [← hx_]; exact k1.set (by omega) (by omega)
        replace k2 : SL S0 w.heap.size wo2.heap.size wo3 A2 p.1.held.length c2 p.1.held := by rw [← hx_]; exact k2.set (by omega) (by omega)
        replace k3 : SL S0 w.heap.size wo2.heap.size wo3 (some ⟨g, og, none⟩) p.2.waiting.length d1 p.2.waiting := by rw [← hx_]; exact k3.set (by omega) (by omega)
        replace k4 : SL S0 w.heap.size wo2.heap.size wo3 B2 p.2.held.length d2 p.2.held := by rw [← hx_]; exact k4.set (by omega) (by omega)
        replace hsz : wo2.heap.size ≤ wo3.heap.size := by rw [← hx_]; exact szset hsz
        clear hx_ c0_0 c0_1 c0_2 cf0 c1_0 c1_1 c1_2 c1_3 c1_4 c1_5 cf1 c2_0 c2_1 c2_2 cf2 c3_0 c3_1 c3_2 c3_3 c3_4 c3_5 cf3 hO2
        have c0_0 : wo3.cell? ⟨wo1.heap.size, 0, none⟩ = some (.string j) := hO3.c 0 0
        have c0_1 : wo3.cell? ⟨wo1.heap.size, 1, none⟩ = some (.slice (some ⟨g, og, none⟩) p.2.waiting.length d1) := hO3.c 0 1
        have c0_2 : wo3.cell? ⟨wo1.heap.size, 2, none⟩ = some (.slice B2 p.2.held.length d2) := hO3.c 0 2
        have cf0 := hO3.fr 0
        have c1_0 : wo3.cell? ⟨w.heap.size + 1 + 1, 0, none⟩ = some (.string bE) := hO3.c 1 0
        have c1_1 : wo3.cell? ⟨w.heap.size + 1 + 1, 1, none⟩ = some (.slice none 0 0) := hO3.c 1 1
        have c1_2 : wo3.cell? ⟨w.heap.size + 1 + 1, 2, none⟩ = some (.slice none 0 0) := hO3.c 1 2
        have c1_3 : wo3.cell? ⟨w.heap.size + 1 + 1, 3, none⟩ = some (.string bE) := hO3.c 1 3
        have c1_4 : wo3.cell? ⟨w.heap.size + 1 + 1, 4, none⟩ = some (.slice none 0 0) := hO3.c 1 4
        have c1_5 : wo3.cell? ⟨w.heap.size + 1 + 1, 5, none⟩ = some (.slice none 0 0) := hO3.c 1 5
        have cf1 := hO3.fr 1
        have c2_0 : wo3.cell? ⟨w.heap.size + 1, 0, none⟩ = some (.int .u8 (kd : Int)) := hO3.c 2 0
        have c2_1 : wo3.cell? ⟨w.heap.size + 1, 1, none⟩ = some (.int .u8 (pl : Int)) := hO3.c 2 1
        have c2_2 : wo3.cell? ⟨w.heap.size + 1, 2, none⟩ = some (.int .u8 (jb : Int)) := hO3.c 2 2
        have cf2 := hO3.fr 2
        have c3_0 : wo3.cell? ⟨w.heap.size, 0, none⟩ = some (.string p.1.holder) := hO3.c 3 0
        have c3_1 : wo3.cell? ⟨w.heap.size, 1, none⟩ = some (.slice A1 p.1.waiting.length c1) := hO3.c 3 1
        have c3_2 : wo3.cell? ⟨w.heap.size, 2, none⟩ = some (.slice A2 p.1.held.length c2) := hO3.c 3 2
        have c3_3 : wo3.cell? ⟨w.heap.size, 3, none⟩ = some (.string p.2.holder) := hO3.c 3 3
        have c3_4 : wo3.cell? ⟨w.heap.size, 4, none⟩ = some (.slice (some ⟨g, og, none⟩) p.2.waiting.length d1) := hO3.c 3 4
        have c3_5 : wo3.cell? ⟨w.heap.size, 5, none⟩ = some (.slice B2 p.2.held.length d2) := hO3.c 3 5
        have cf3 := hO3.fr 3
        have hR0 := OwnR.empty (r := rB) (sz := 1) wo3 strT
        have hba := (Below.refl wo3.heap.size wo3).alloc (Nat.le_refl _) (.cells #[] strT)
        have hby : (([] : List ByteArray).length + p.2.held.length) * 16 ≤ 140737488355328 := by simp; omega
        have hxs := (RSlice.below rB_ok k4.fin hba).more rB_ok (S' := Beh (wo3.alloc (.cells #[] strT)) (.slice (some ⟨wo3.heap.size, 0, none⟩) 0 0)) (fun b hb => beh_old hR0 hb)
        replace hxs := Lib.hid hxs
        have hm_ : ∀ ob, OwnB w (wo3.alloc ob) [(wo1.heap.size, [.string j, .slice (some ⟨g, og, none⟩) p.2.waiting.length d1, .slice B2 p.2.held.length d2]), (w.heap.size + 1 + 1, [.string bE, .slice none 0 0, .slice none 0 0, .string bE, .slice none 0 0, .slice none 0 0]), (w.heap.size + 1, [.int .u8 (kd : Int), .int .u8 (pl : Int), .int .u8 (jb : Int)]), (w.heap.size, [.string p.1.holder, .slice A1 p.1.waiting.length c1, .slice A2 p.1.held.length c2, .string p.2.holder, .slice (some ⟨g, og, none⟩) p.2.waiting.length d1, .slice B2 p.2.held.length d2])] := fun ob => hO3.kept ((Below.refl _ _).alloc (Nat.le_refl _) _)
        have m0_0 : ∀ ob, (wo3.alloc ob).cell? ⟨wo1.heap.size, 0, none⟩ = some (.string j) := fun ob => (hm_ ob).c 0 0
        have m0_1 : ∀ ob, (wo3.alloc ob).cell? ⟨wo1.heap.size, 1, none⟩ = some (.slice (some ⟨g, og, none⟩) p.2.waiting.length d1) := fun ob => (hm_ ob).c 0 1
        have m0_2 : ∀ ob, (wo3.alloc ob).cell? ⟨wo1.heap.size, 2, none⟩ = some (.slice B2 p.2.held.length d2) := fun ob => (hm_ ob).c 0 2
        have mf0 : ∀ ob j, (wo3.alloc ob).frozen? ⟨wo1.heap.size, j, none⟩ = false := fun ob => (hm_ ob).fr 0
        have m1_0 : ∀ ob, (wo3.alloc ob).cell? ⟨w.heap.size + 1 + 1, 0, none⟩ = some (.string bE) := fun ob => (hm_ ob).c 1 0
        have m1_1 : ∀ ob, (wo3.alloc ob).cell? ⟨w.heap.size + 1 + 1, 1, none⟩ = some (.slice none 0 0) := fun ob => (hm_ ob).c 1 1
        have m1_2 : ∀ ob, (wo3.alloc ob).cell? ⟨w.heap.size + 1 + 1, 2, none⟩ = some (.slice none 0 0) := fun ob => (hm_ ob).c 1 2
        have m1_3 : ∀ ob, (wo3.alloc ob).cell? ⟨w.heap.size + 1 + 1, 3, none⟩ = some (.string bE) := fun ob => (hm_ ob).c 1 3
        have m1_4 : ∀ ob, (wo3.alloc ob).cell? ⟨w.heap.size + 1 + 1, 4, none⟩ = some (.slice none 0 0) := fun ob => (hm_ ob).c 1 4
        have m1_5 : ∀ ob, (wo3.alloc ob).cell? ⟨w.heap.size + 1 + 1, 5, none⟩ = some (.slice none 0 0) := fun ob => (hm_ ob).c 1 5
        have mf1 : ∀ ob j, (wo3.alloc ob).frozen? ⟨w.heap.size + 1 + 1, j, none⟩ = false := fun ob => (hm_ ob).fr 1
        have m2_0 : ∀ ob, (wo3.alloc ob).cell? ⟨w.heap.size + 1, 0, none⟩ = some (.int .u8 (kd : Int)) := fun ob => (hm_ ob).c 2 0
        have m2_1 : ∀ ob, (wo3.alloc ob).cell? ⟨w.heap.size + 1, 1, none⟩ = some (.int .u8 (pl : Int)) := fun ob => (hm_ ob).c 2 1
        have m2_2 : ∀ ob, (wo3.alloc ob).cell? ⟨w.heap.size + 1, 2, none⟩ = some (.int .u8 (jb : Int)) := fun ob => (hm_ ob).c 2 2
        have mf2 : ∀ ob j, (wo3.alloc ob).frozen? ⟨w.heap.size + 1, j, none⟩ = false := fun ob => (hm_ ob).fr 2
        have m3_0 : ∀ ob, (wo3.alloc ob).cell? ⟨w.heap.size, 0, none⟩ = some (.string p.1.holder) := fun ob => (hm_ ob).c 3 0
        have m3_1 : ∀ ob, (wo3.alloc ob).cell? ⟨w.heap.size, 1, none⟩ = some (.slice A1 p.1.waiting.length c1) := fun ob => (hm_ ob).c 3 1
        have m3_2 : ∀ ob, (wo3.alloc ob).cell? ⟨w.heap.size, 2, none⟩ = some (.slice A2 p.1.held.length c2) := fun ob => (hm_ ob).c 3 2
        have m3_3 : ∀ ob, (wo3.alloc ob).cell? ⟨w.heap.size, 3, none⟩ = some (.string p.2.holder) := fun ob => (hm_ ob).c 3 3
        have m3_4 : ∀ ob, (wo3.alloc ob).cell? ⟨w.heap.size, 4, none⟩ = some (.slice (some ⟨g, og, none⟩) p.2.waiting.length d1) := fun ob => (hm_ ob).c 3 4
        have m3_5 : ∀ ob, (wo3.alloc ob).cell? ⟨w.heap.size, 5, none⟩ = some (.slice B2 p.2.held.length d2) := fun ob => (hm_ ob).c 3 5
        have mf3 : ∀ ob j, (wo3.alloc ob).frozen? ⟨w.heap.size, j, none⟩ = false := fun ob => (hm_ ob).fr 3
        clear hm_
        repeat' ((fail_if_success at_builtin); (first | go_skip | go_guarded | go_step))
        refine wp_appRS rB_ok rB_one hR0 (Below.refl _ _) hxs.out Tryd.underlying45 str_info hby ?_
        intro v4 w4 hR4
        rw [List.nil_append] at hR4
        obtain ⟨A4, c4, rfl⟩ := hR4.form
        clear hR0 hba hxs hby m0_0 m0_1 m0_2 mf0 m1_0 m1_1 m1_2 m1_3 m1_4 m1_5 mf1 m2_0 m2_1 m2_2 mf2 m3_0 m3_1 m3_2 m3_3 m3_4 m3_5 mf3
        have hby : (p.2.held.length + 1) * 16 ≤ 140737488355328 := by omega
        repeat' ((fail_if_success at_builtin); (first | go_skip | go_guarded | go_step))
        refine wp_appR1 rB_ok (cs := #[.string j]) hR4 (Below.refl _ _) (x := j) rfl Tryd.underlying45 str_info hby ?_
        intro v6 w6 hR6
        obtain ⟨A6, c6, rfl⟩ := hR6.form
        have hb6 := hR6.bel
        have n6 : SL S0 w.heap.size wo2.heap.size w6 A6 (p.2.held ++ [j]).length c6 (p.2.held ++ [j]) := SL.new (ownB_new hR6 rfl) hsz
        clear hR4 hR6 hby
        have zw6 := hb6.size
        have hO4 : OwnB w w6 [(wo1.heap.size, [.string j, .slice (some ⟨g, og, none⟩) p.2.waiting.length d1, .slice B2 p.2.held.length d2]), (w.heap.size + 1 + 1, [.string bE, .slice none 0 0, .slice none 0 0, .string bE, .slice none 0 0, .slice none 0 0]), (w.heap.size + 1, [.int .u8 (kd : Int), .int .u8 (pl : Int), .int .u8 (jb : Int)]), (w.heap.size, [.string p.1.holder, .slice A1 p.1.waiting.length c1, .slice A2 p.1.held.length c2, .string p.2.holder, .slice (some ⟨g, og, none⟩) p.2.waiting.length d1, .slice B2 p.2.held.length d2])] := hO3.kept hb6
        clear c0_0 c0_1 c0_2 cf0 c1_0 c1_1 c1_2 c1_3 c1_4 c1_5 cf1 c2_0 c2_1 c2_2 cf2 c3_0 c3_1 c3_2 c3_3 c3_4 c3_5 cf3 hO3
        have c0_0 : w6.cell? ⟨wo1.heap.size, 0, none⟩ = some (.string j) := hO4.c 0 0
        have c0_1 : w6.cell? ⟨wo1.heap.size, 1, none⟩ = some (.slice (some ⟨g, og, none⟩) p.2.waiting.length d1) := hO4.c 0 1
        have c0_2 : w6.cell? ⟨wo1.heap.size, 2, none⟩ = some (.slice B2 p.2.held.length d2) := hO4.c 0 2
        have cf0 := hO4.fr 0
        have c1_0 : w6.cell? ⟨w.heap.size + 1 + 1, 0, none⟩ = some (.string bE) := hO4.c 1 0
        have c1_1 : w6.cell? ⟨w.heap.size + 1 + 1, 1, none⟩ = some (.slice none 0 0) := hO4.c 1 1
        have c1_2 : w6.cell? ⟨w.heap.size + 1 + 1, 2, none⟩ = some (.slice none 0 0) := hO4.c 1 2
        have c1_3 : w6.cell? ⟨w.heap.size + 1 + 1, 3, none⟩ = some (.string bE) := hO4.c 1 3
        have c1_4 : w6.cell? ⟨w.heap.size + 1 + 1, 4, none⟩ = some (.slice none 0 0) := hO4.c 1 4
        have c1_5 : w6.cell? ⟨w.heap.size + 1 + 1, 5, none⟩ = some (.slice none 0 0) := hO4.c 1 5
        have cf1 := hO4.fr 1
        have c2_0 : w6.cell? ⟨w.heap.size + 1, 0, none⟩ = some (.int .u8 (kd : Int)) := hO4.c 2 0
        have c2_1 : w6.cell? ⟨w.heap.size + 1, 1, none⟩ = some (.int .u8 (pl : Int)) := hO4.c 2 1
        have c2_2 : w6.cell? ⟨w.heap.size + 1, 2, none⟩ = some (.int .u8 (jb : Int)) := hO4.c 2 2
        have cf2 := hO4.fr 2
        have c3_0 : w6.cell? ⟨w.heap.size, 0, none⟩ = some (.string p.1.holder) := hO4.c 3 0
        have c3_1 : w6.cell? ⟨w.heap.size, 1, none⟩ = some (.slice A1 p.1.waiting.length c1) := hO4.c 3 1
        have c3_2 : w6.cell? ⟨w.heap.size, 2, none⟩ = some (.slice A2 p.1.held.length c2) := hO4.c 3 2
        have c3_3 : w6.cell? ⟨w.heap.size, 3, none⟩ = some (.string p.2.holder) := hO4.c 3 3
        have c3_4 : w6.cell? ⟨w.heap.size, 4, none⟩ = some (.slice (some ⟨g, og, none⟩) p.2.waiting.length d1) := hO4.c 3 4
        have c3_5 : w6.cell? ⟨w.heap.size, 5, none⟩ = some (.slice B2 p.2.held.length d2) := hO4.c 3 5
        have cf3 := hO4.fr 3
        replace k1 : SL S0 w.heap.size wo2.heap.size w6 A1 p.1.waiting.length c1 p.1.waiting := k1.up hb6
        replace k2 : SL S0 w.heap.size wo2.heap.size w6 A2 p.1.held.length c2 p.1.held := k2.up hb6
        replace k3 : SL S0 w.heap.size wo2.heap.size w6 (some ⟨g, og, none⟩) p.2.waiting.length d1 p.2.waiting := k3.up hb6
        replace k4 : SL S0 w.heap.size wo2.heap.size w6 B2 p.2.held.length d2 p.2.held := k4.up hb6
        replace hsz : wo2.heap.size ≤ w6.heap.size := Nat.le_trans hsz hb6.size
        go_upto_region 13 with (fail)
        generalize hx_ : World.setCell _ _ _ = wo5
        have hO5 : OwnB w wo5 [(wo1.heap.size, [.string j, .slice (some ⟨g, og, none⟩) p.2.waiting.length d1, .slice A6 (p.2.held.length + 1) c6]), (w.heap.size + 1 + 1, [.string bE, .slice none 0 0, .slice none 0 0, .string bE, .slice none 0 0, .slice none 0 0]), (w.heap.size + 1, [.int .u8 (kd : Int), .int .u8 (pl : Int), .int .u8 (jb : Int)]), (w.heap.size, [.string p.1.holder, .slice A1 p.1.waiting.length c1, .slice A2 p.1.held.length c2, .string p.2.holder, .slice (some ⟨g, og, none⟩) p.2.waiting.length d1, .slice B2 p.2.held.length d2])] := by rw [← hx_]; exact hO4.store 0 rfl 2 _
        have zwo5 : w6.heap.size ≤ wo5.heap.size := by rw [← hx_]; simp [World.setCell]
        replace k1 : SL S0 w.heap.size wo2.heap.size wo5 A1 p.1.waiting.length c1 p.1.waiting := by rw [← hx_]; exact k1.set (by omega) (by omega)
        replace k2 : SL S0 w.heap.size wo2.heap.size wo5 A2 p.1.held.length c2 p.1.held := by rw [← hx_]; exact k2.set (by omega) (by omega)
        replace k3 : SL S0 w.heap.size wo2.heap.size wo5 (some ⟨g, og, none⟩) p.2.waiting.length d1 p.2.waiting := by rw [← hx_]; exact k3.set (by omega) (by omega)
        replace k4 : SL S0 w.heap.size wo2.heap.size wo5 B2 p.2.held.length d2 p.2.held := by rw [← hx_]; exact k4.set (by omega) (by omega)
        replace hsz : wo2.heap.size ≤ wo5.heap.size := by rw [← hx_]; exact szset hsz
        replace n6 : SL S0 w.heap.size wo2.heap.size wo5 A6 (p.2.held ++ [j]).length c6 (p.2.held ++ [j]) := by rw [← hx_]; exact n6.set (by omega) (by omega)
        clear hx_ c0_0 c0_1 c0_2 cf0 c1_0 c1_1 c1_2 c1_3 c1_4 c1_5 cf1 c2_0 c2_1 c2_2 cf2 c3_0 c3_1 c3_2 c3_3 c3_4 c3_5 cf3 hO4
        have c0_0 : wo5.cell? ⟨wo1.heap.size, 0, none⟩ = some (.string j) := hO5.c 0 0
        have c0_1 : wo5.cell? ⟨wo1.heap.size, 1, none⟩ = some (.slice (some ⟨g, og, none⟩) p.2.waiting.length d1) := hO5.c 0 1
        have c0_2 : wo5.cell? ⟨wo1.heap.size, 2, none⟩ = some (.slice A6 (p.2.held.length + 1) c6) := hO5.c 0 2
        have cf0 := hO5.fr 0
        have c1_0 : wo5.cell? ⟨w.heap.size + 1 + 1, 0, none⟩ = some (.string bE) := hO5.c 1 0
        have c1_1 : wo5.cell? ⟨w.heap.size + 1 + 1, 1, none⟩ = some (.slice none 0 0) := hO5.c 1 1
        have c1_2 : wo5.cell? ⟨w.heap.size + 1 + 1, 2, none⟩ = some (.slice none 0 0) := hO5.c 1 2
        have c1_3 : wo5.cell? ⟨w.heap.size + 1 + 1, 3, none⟩ = some (.string bE) := hO5.c 1 3
        have c1_4 : wo5.cell? ⟨w.heap.size + 1 + 1, 4, none⟩ = some (.slice none 0 0) := hO5.c 1 4
        have c1_5 : wo5.cell? ⟨w.heap.size + 1 + 1, 5, none⟩ = some (.slice none 0 0) := hO5.c 1 5
        have cf1 := hO5.fr 1
        have c2_0 : wo5.cell? ⟨w.heap.size + 1, 0, none⟩ = some (.int .u8 (kd : Int)) := hO5.c 2 0
        have c2_1 : wo5.cell? ⟨w.heap.size + 1, 1, none⟩ = some (.int .u8 (pl : Int)) := hO5.c 2 1
        have c2_2 : wo5.cell? ⟨w.heap.size + 1, 2, none⟩ = some (.int .u8 (jb : Int)) := hO5.c 2 2
        have cf2 := hO5.fr 2
        have c3_0 : wo5.cell? ⟨w.heap.size, 0, none⟩ = some (.string p.1.holder) := hO5.c 3 0
        have c3_1 : wo5.cell? ⟨w.heap.size, 1, none⟩ = some (.slice A1 p.1.waiting.length c1) := hO5.c 3 1
        have c3_2 : wo5.cell? ⟨w.heap.size, 2, none⟩ = some (.slice A2 p.1.held.length c2) := hO5.c 3 2
        have c3_3 : wo5.cell? ⟨w.heap.size, 3, none⟩ = some (.string p.2.holder) := hO5.c 3 3
        have c3_4 : wo5.cell? ⟨w.heap.size, 4, none⟩ = some (.slice (some ⟨g, og, none⟩) p.2.waiting.length d1) := hO5.c 3 4
        have c3_5 : wo5.cell? ⟨w.heap.size, 5, none⟩ = some (.slice B2 p.2.held.length d2) := hO5.c 3 5
        have cf3 := hO5.fr 3
        have hR0 := OwnR.empty (r := rB) (sz := 1) wo5 strT
        have hba := (Below.refl wo5.heap.size wo5).alloc (Nat.le_refl _) (.cells #[] strT)
        have hby : (([] : List ByteArray).length + (p.2.waiting.length - 1)) * 16 ≤ 140737488355328 := by simp; omega
        have hxs := (RSlice.below rB_ok (k3.fin.drop' (i := 1) (by omega)) hba).more rB_ok (S' := Beh (wo5.alloc (.cells #[] strT)) (.slice (some ⟨wo5.heap.size, 0, none⟩) 0 0)) (fun b hb => beh_old hR0 hb)
        replace hxs := Lib.hid hxs
        have hcc : p.2.waiting.length ≤ d1 := k3.2.1
        have j1 : (1 : Int) ≤ (p.2.waiting.length : Int) := by omega
        have j2 : (1 : Int) ≤ (d1 : Int) := by omega
        have j3 : (p.2.waiting.length : Int) ≤ (d1 : Int) := by omega
        have hm_ : ∀ ob, OwnB w (wo5.alloc ob) [(wo1.heap.size, [.string j, .slice (some ⟨g, og, none⟩) p.2.waiting.length d1, .slice A6 (p.2.held.length + 1) c6]), (w.heap.size + 1 + 1, [.string bE, .slice none 0 0, .slice none 0 0, .string bE, .slice none 0 0, .slice none 0 0]), (w.heap.size + 1, [.int .u8 (kd : Int), .int .u8 (pl : Int), .int .u8 (jb : Int)]), (w.heap.size, [.string p.1.holder, .slice A1 p.1.waiting.length c1, .slice A2 p.1.held.length c2, .string p.2.holder, .slice (some ⟨g, og, none⟩) p.2.waiting.length d1, .slice B2 p.2.held.length d2])] := fun ob => hO5.kept ((Below.refl _ _).alloc (Nat.le_refl _) _)
        have m0_0 : ∀ ob, (wo5.alloc ob).cell? ⟨wo1.heap.size, 0, none⟩ = some (.string j) := fun ob => (hm_ ob).c 0 0
        have m0_1 : ∀ ob, (wo5.alloc ob).cell? ⟨wo1.heap.size, 1, none⟩ = some (.slice (some ⟨g, og, none⟩) p.2.waiting.length d1) := fun ob => (hm_ ob).c 0 1
        have m0_2 : ∀ ob, (wo5.alloc ob).cell? ⟨wo1.heap.size, 2, none⟩ = some (.slice A6 (p.2.held.length + 1) c6) := fun ob => (hm_ ob).c 0 2
        have mf0 : ∀ ob j, (wo5.alloc ob).frozen? ⟨wo1.heap.size, j, none⟩ = false := fun ob => (hm_ ob).fr 0
        have m1_0 : ∀ ob, (wo5.alloc ob).cell? ⟨w.heap.size + 1 + 1, 0, none⟩ = some (.string bE) := fun ob => (hm_ ob).c 1 0
        have m1_1 : ∀ ob, (wo5.alloc ob).cell? ⟨w.heap.size + 1 + 1, 1, none⟩ = some (.slice none 0 0) := fun ob => (hm_ ob).c 1 1
        have m1_2 : ∀ ob, (wo5.alloc ob).cell? ⟨w.heap.size + 1 + 1, 2, none⟩ = some (.slice none 0 0) := fun ob => (hm_ ob).c 1 2
        have m1_3 : ∀ ob, (wo5.alloc ob).cell? ⟨w.heap.size + 1 + 1, 3, none⟩ = some (.string bE) := fun ob => (hm_ ob).c 1 3
        have m1_4 : ∀ ob, (wo5.alloc ob).cell? ⟨w.heap.size + 1 + 1, 4, none⟩ = some (.slice none 0 0) := fun ob => (hm_ ob).c 1 4
        have m1_5 : ∀ ob, (wo5.alloc ob).cell? ⟨w.heap.size + 1 + 1, 5, none⟩ = some (.slice none 0 0) := fun ob => (hm_ ob).c 1 5
        have mf1 : ∀ ob j, (wo5.alloc ob).frozen? ⟨w.heap.size + 1 + 1, j, none⟩ = false := fun ob => (hm_ ob).fr 1
        have m2_0 : ∀ ob, (wo5.alloc ob).cell? ⟨w.heap.size + 1, 0, none⟩ = some (.int .u8 (kd : Int)) := fun ob => (hm_ ob).c 2 0
        have m2_1 : ∀ ob, (wo5.alloc ob).cell? ⟨w.heap.size + 1, 1, none⟩ = some (.int .u8 (pl : Int)) := fun ob => (hm_ ob).c 2 1
        have m2_2 : ∀ ob, (wo5.alloc ob).cell? ⟨w.heap.size + 1, 2, none⟩ = some (.int .u8 (jb : Int)) := fun ob => (hm_ ob).c 2 2
        have mf2 : ∀ ob j, (wo5.alloc ob).frozen? ⟨w.heap.size + 1, j, none⟩ = false := fun ob => (hm_ ob).fr 2
        have m3_0 : ∀ ob, (wo5.alloc ob).cell? ⟨w.heap.size, 0, none⟩ = some (.string p.1.holder) := fun ob => (hm_ ob).c 3 0
        have m3_1 : ∀ ob, (wo5.alloc ob).cell? ⟨w.heap.size, 1, none⟩ = some (.slice A1 p.1.waiting.length c1) := fun ob => (hm_ ob).c 3 1
        have m3_2 : ∀ ob, (wo5.alloc ob).cell? ⟨w.heap.size, 2, none⟩ = some (.slice A2 p.1.held.length c2) := fun ob => (hm_ ob).c 3 2
        have m3_3 : ∀ ob, (wo5.alloc ob).cell? ⟨w.heap.size, 3, none⟩ = some (.string p.2.holder) := fun ob => (hm_ ob).c 3 3
        have m3_4 : ∀ ob, (wo5.alloc ob).cell? ⟨w.heap.size, 4, none⟩ = some (.slice (some ⟨g, og, none⟩) p.2.waiting.length d1) := fun ob => (hm_ ob).c 3 4
        have m3_5 : ∀ ob, (wo5.alloc ob).cell? ⟨w.heap.size, 5, none⟩ = some (.slice B2 p.2.held.length d2) := fun ob => (hm_ ob).c 3 5
        have mf3 : ∀ ob j, (wo5.alloc ob).frozen? ⟨w.heap.size, j, none⟩ = false := fun ob => (hm_ ob).fr 3
        clear hm_
        repeat' ((fail_if_success at_builtin); (first | go_skip | go_guarded | go_step))
        refine wp_appRS rB_ok rB_one hR0 (Below.refl _ _) hxs.out Tryd.underlying45 str_info hby ?_
        intro v7 w7 hR7
        rw [List.nil_append] at hR7
        obtain ⟨A7, c7, rfl⟩ := hR7.form
        clear hR0 hba hxs hby m0_0 m0_1 m0_2 mf0 m1_0 m1_1 m1_2 m1_3 m1_4 m1_5 mf1 m2_0 m2_1 m2_2 mf2 m3_0 m3_1 m3_2 m3_3 m3_4 m3_5 mf3 j1 j2 j3
        have hb7 := hR7.bel
        have n7 : SL S0 w.heap.size wo2.heap.size w7 A7 (List.drop 1 p.2.waiting).length c7 (List.drop 1 p.2.waiting) := SL.new (ownB_new hR7 rfl) hsz
        clear hR7
        have zw7 := hb7.size
        have hO6 : OwnB w w7 [(wo1.heap.size, [.string j, .slice (some ⟨g, og, none⟩) p.2.waiting.length d1, .slice A6 (p.2.held.length + 1) c6]), (w.heap.size + 1 + 1, [.string bE, .slice none 0 0, .slice none 0 0, .string bE, .slice none 0 0, .slice none 0 0]), (w.heap.size + 1, [.int .u8 (kd : Int), .int .u8 (pl : Int), .int .u8 (jb : Int)]), (w.heap.size, [.string p.1.holder, .slice A1 p.1.waiting.length c1, .slice A2 p.1.held.length c2, .string p.2.holder, .slice (some ⟨g, og, none⟩) p.2.waiting.length d1, .slice B2 p.2.held.length d2])] := hO5.kept hb7
        clear c0_0 c0_1 c0_2 cf0 c1_0 c1_1 c1_2 c1_3 c1_4 c1_5 cf1 c2_0 c2_1 c2_2 cf2 c3_0 c3_1 c3_2 c3_3 c3_4 c3_5 cf3 hO5
        have c0_0 : w7.cell? ⟨wo1.heap.size, 0, none⟩ = some (.string j) := hO6.c 0 0
        have c0_1 : w7.cell? ⟨wo1.heap.size, 1, none⟩ = some (.slice (some ⟨g, og, none⟩) p.2.waiting.length d1) := hO6.c 0 1
        have c0_2 : w7.cell? ⟨wo1.heap.size, 2, none⟩ = some (.slice A6 (p.2.held.length + 1) c6) := hO6.c 0 2
        have cf0 := hO6.fr 0
        have c1_0 : w7.cell? ⟨w.heap.size + 1 + 1, 0, none⟩ = some (.string bE) := hO6.c 1 0
        have c1_1 : w7.cell? ⟨w.heap.size + 1 + 1, 1, none⟩ = some (.slice none 0 0) := hO6.c 1 1
        have c1_2 : w7.cell? ⟨w.heap.size + 1 + 1, 2, none⟩ = some (.slice none 0 0) := hO6.c 1 2
        have c1_3 : w7.cell? ⟨w.heap.size + 1 + 1, 3, none⟩ = some (.string bE) := hO6.c 1 3
        have c1_4 : w7.cell? ⟨w.heap.size + 1 + 1, 4, none⟩ = some (.slice none 0 0) := hO6.c 1 4
        have c1_5 : w7.cell? ⟨w.heap.size + 1 + 1, 5, none⟩ = some (.slice none 0 0) := hO6.c 1 5
        have cf1 := hO6.fr 1
        have c2_0 : w7.cell? ⟨w.heap.size + 1, 0, none⟩ = some (.int .u8 (kd : Int)) := hO6.c 2 0
        have c2_1 : w7.cell? ⟨w.heap.size + 1, 1, none⟩ = some (.int .u8 (pl : Int)) := hO6.c 2 1
        have c2_2 : w7.cell? ⟨w.heap.size + 1, 2, none⟩ = some (.int .u8 (jb : Int)) := hO6.c 2 2
        have cf2 := hO6.fr 2
        have c3_0 : w7.cell? ⟨w.heap.size, 0, none⟩ = some (.string p.1.holder) := hO6.c 3 0
        have c3_1 : w7.cell? ⟨w.heap.size, 1, none⟩ = some (.slice A1 p.1.waiting.length c1) := hO6.c 3 1
        have c3_2 : w7.cell? ⟨w.heap.size, 2, none⟩ = some (.slice A2 p.1.held.length c2) := hO6.c 3 2
        have c3_3 : w7.cell? ⟨w.heap.size, 3, none⟩ = some (.string p.2.holder) := hO6.c 3 3
        have c3_4 : w7.cell? ⟨w.heap.size, 4, none⟩ = some (.slice (some ⟨g, og, none⟩) p.2.waiting.length d1) := hO6.c 3 4
        have c3_5 : w7.cell? ⟨w.heap.size, 5, none⟩ = some (.slice B2 p.2.held.length d2) := hO6.c 3 5
        have cf3 := hO6.fr 3
        replace k1 : SL S0 w.heap.size wo2.heap.size w7 A1 p.1.waiting.length c1 p.1.waiting := k1.up hb7
        replace k2 : SL S0 w.heap.size wo2.heap.size w7 A2 p.1.held.length c2 p.1.held := k2.up hb7
        replace k3 : SL S0 w.heap.size wo2.heap.size w7 (some ⟨g, og, none⟩) p.2.waiting.length d1 p.2.waiting := k3.up hb7
        replace k4 : SL S0 w.heap.size wo2.heap.size w7 B2 p.2.held.length d2 p.2.held := k4.up hb7
        replace hsz : wo2.heap.size ≤ w7.heap.size := Nat.le_trans hsz hb7.size
        replace n6 : SL S0 w.heap.size wo2.heap.size w7 A6 (p.2.held ++ [j]).length c6 (p.2.held ++ [j]) := n6.up hb7
        go_upto_region 30 with (fail)
        generalize hx_ : World.setCell _ _ _ = wo7
        have hO7 : OwnB w wo7 [(wo1.heap.size, [.string j, .slice A7 (p.2.waiting.length - 1) c7, .slice A6 (p.2.held.length + 1) c6]), (w.heap.size + 1 + 1, [.string bE, .slice none 0 0, .slice none 0 0, .string bE, .slice none 0 0, .slice none 0 0]), (w.heap.size + 1, [.int .u8 (kd : Int), .int .u8 (pl : Int), .int .u8 (jb : Int)]), (w.heap.size, [.string p.1.holder, .slice A1 p.1.waiting.length c1, .slice A2 p.1.held.length c2, .string p.2.holder, .slice (some ⟨g, og, none⟩) p.2.waiting.length d1, .slice B2 p.2.held.length d2])] := by rw [← hx_]; exact hO6.store 0 rfl 1 _
        have zwo7 : w7.heap.size ≤ wo7.heap.size := by rw [← hx_]; simp [World.setCell]
        replace k1 : SL S0 w.heap.size wo2.heap.size wo7 A1 p.1.waiting.length c1 p.1.waiting := by rw [← hx_]; exact k1.set (by omega) (by omega)
        replace k2 : SL S0 w.heap.size wo2.heap.size wo7 A2 p.1.held.length c2 p.1.held := by rw [← hx_]; exact k2.set (by omega) (by omega)
        replace k3 : SL S0 w.heap.size wo2.heap.size wo7 (some ⟨g, og, none⟩) p.2.waiting.length d1 p.2.waiting := by rw [← hx_]; exact k3.set (by omega) (by omega)
        replace k4 : SL S0 w.heap.size wo2.heap.size wo7 B2 p.2.held.length d2 p.2.held := by rw [← hx_]; exact k4.set (by omega) (by omega)
        replace hsz : wo2.heap.size ≤ wo7.heap.size := by rw [← hx_]; exact szset hsz
        replace n6 : SL S0 w.heap.size wo2.heap.size wo7 A6 (p.2.held ++ [j]).length c6 (p.2.held ++ [j]) := by rw [← hx_]; exact n6.set (by omega) (by omega)
        replace n7 : SL S0 w.heap.size wo2.heap.size wo7 A7 (List.drop 1 p.2.waiting).length c7 (List.drop 1 p.2.waiting) := by rw [← hx_]; exact n7.set (by omega) (by omega)
        clear hx_ c0_0 c0_1 c0_2 cf0 c1_0 c1_1 c1_2 c1_3 c1_4 c1_5 cf1 c2_0 c2_1 c2_2 cf2 c3_0 c3_1 c3_2 c3_3 c3_4 c3_5 cf3 hO6
        have c0_0 : wo7.cell? ⟨wo1.heap.size, 0, none⟩ = some (.string j) := hO7.c 0 0
        have c0_1 : wo7.cell? ⟨wo1.heap.size, 1, none⟩ = some (.slice A7 (p.2.waiting.length - 1) c7) := hO7.c 0 1
        have c0_2 : wo7.cell? ⟨wo1.heap.size, 2, none⟩ = some (.slice A6 (p.2.held.length + 1) c6) := hO7.c 0 2
        have cf0 := hO7.fr 0
        have c1_0 : wo7.cell? ⟨w.heap.size + 1 + 1, 0, none⟩ = some (.string bE) := hO7.c 1 0
        have c1_1 : wo7.cell? ⟨w.heap.size + 1 + 1, 1, none⟩ = some (.slice none 0 0) := hO7.c 1 1
        have c1_2 : wo7.cell? ⟨w.heap.size + 1 + 1, 2, none⟩ = some (.slice none 0 0) := hO7.c 1 2
        have c1_3 : wo7.cell? ⟨w.heap.size + 1 + 1, 3, none⟩ = some (.string bE) := hO7.c 1 3
        have c1_4 : wo7.cell? ⟨w.heap.size + 1 + 1, 4, none⟩ = some (.slice none 0 0) := hO7.c 1 4
        have c1_5 : wo7.cell? ⟨w.heap.size + 1 + 1, 5, none⟩ = some (.slice none 0 0) := hO7.c 1 5
        have cf1 := hO7.fr 1
        have c2_0 : wo7.cell? ⟨w.heap.size + 1, 0, none⟩ = some (.int .u8 (kd : Int)) := hO7.c 2 0
        have c2_1 : wo7.cell? ⟨w.heap.size + 1, 1, none⟩ = some (.int .u8 (pl : Int)) := hO7.c 2 1
        have c2_2 : wo7.cell? ⟨w.heap.size + 1, 2, none⟩ = some (.int .u8 (jb : Int)) := hO7.c 2 2
        have cf2 := hO7.fr 2
        have c3_0 : wo7.cell? ⟨w.heap.size, 0, none⟩ = some (.string p.1.holder) := hO7.c 3 0
        have c3_1 : wo7.cell? ⟨w.heap.size, 1, none⟩ = some (.slice A1 p.1.waiting.length c1) := hO7.c 3 1
        have c3_2 : wo7.cell? ⟨w.heap.size, 2, none⟩ = some (.slice A2 p.1.held.length c2) := hO7.c 3 2
        have c3_3 : wo7.cell? ⟨w.heap.size, 3, none⟩ = some (.string p.2.holder) := hO7.c 3 3
        have c3_4 : wo7.cell? ⟨w.heap.size, 4, none⟩ = some (.slice (some ⟨g, og, none⟩) p.2.waiting.length d1) := hO7.c 3 4
        have c3_5 : wo7.cell? ⟨w.heap.size, 5, none⟩ = some (.slice B2 p.2.held.length d2) := hO7.c 3 5
        have cf3 := hO7.fr 3
        go_upto_region 31 with (fail)
        generalize hx_ : World.setCell (World.setCell (World.setCell _ _ _) _ _) _ _ = wo8
        have hO8 : OwnB w wo8 [(wo1.heap.size, [.string j, .slice A7 (p.2.waiting.length - 1) c7, .slice A6 (p.2.held.length + 1) c6]), (w.heap.size + 1 + 1, [.string bE, .slice none 0 0, .slice none 0 0, .string bE, .slice none 0 0, .slice none 0 0]), (w.heap.size + 1, [.int .u8 (kd : Int), .int .u8 (pl : Int), .int .u8 (jb : Int)]), (w.heap.size, [.string p.1.holder, .slice A1 p.1.waiting.length c1, .slice A2 p.1.held.length c2, .string j, .slice A7 (p.2.waiting.length - 1) c7, .slice A6 (p.2.held.length + 1) c6])] := by rw [← hx_]; exact ((hO7.store 3 rfl 3 _).store 3 rfl 4 _).store 3 rfl 5 _
        have zwo8 : wo7.heap.size ≤ wo8.heap.size := by rw [← hx_]; simp [World.setCell]
        replace k1 : SL S0 w.heap.size wo2.heap.size wo8 A1 p.1.waiting.length c1 p.1.waiting := by rw [← hx_]; exact (((k1.set (by omega) (by omega)).set (by omega) (by omega)).set (by omega) (by omega))
        replace k2 : SL S0 w.heap.size wo2.heap.size wo8 A2 p.1.held.length c2 p.1.held := by rw [← hx_]; exact (((k2.set (by omega) (by omega)).set (by omega) (by omega)).set (by omega) (by omega))
        replace k3 : SL S0 w.heap.size wo2.heap.size wo8 (some ⟨g, og, none⟩) p.2.waiting.length d1 p.2.waiting := by rw [← hx_]; exact (((k3.set (by omega) (by omega)).set (by omega) (by omega)).set (by omega) (by omega))
        replace k4 : SL S0 w.heap.size wo2.heap.size wo8 B2 p.2.held.length d2 p.2.held := by rw [← hx_]; exact (((k4.set (by omega) (by omega)).set (by omega) (by omega)).set (by omega) (by omega))
        replace hsz : wo2.heap.size ≤ wo8.heap.size := by rw [← hx_]; exact (szset (szset (szset hsz)))
        replace n6 : SL S0 w.heap.size wo2.heap.size wo8 A6 (p.2.held ++ [j]).length c6 (p.2.held ++ [j]) := by rw [← hx_]; exact (((n6.set (by omega) (by omega)).set (by omega) (by omega)).set (by omega) (by omega))
        replace n7 : SL S0 w.heap.size wo2.heap.size wo8 A7 (List.drop 1 p.2.waiting).length c7 (List.drop 1 p.2.waiting) := by rw [← hx_]; exact (((n7.set (by omega) (by omega)).set (by omega) (by omega)).set (by omega) (by omega))
        clear hx_ c0_0 c0_1 c0_2 cf0 c1_0 c1_1 c1_2 c1_3 c1_4 c1_5 cf1 c2_0 c2_1 c2_2 cf2 c3_0 c3_1 c3_2 c3_3 c3_4 c3_5 cf3 hO7
        have c0_0 : wo8.cell? ⟨wo1.heap.size, 0, none⟩ = some (.string j) := hO8.c 0 0
        have c0_1 : wo8.cell? ⟨wo1.heap.size, 1, none⟩ = some (.slice A7 (p.2.waiting.length - 1) c7) := hO8.c 0 1
        have c0_2 : wo8.cell? ⟨wo1.heap.size, 2, none⟩ = some (.slice A6 (p.2.held.length + 1) c6) := hO8.c 0 2
        have cf0 := hO8.fr 0
        have c1_0 : wo8.cell? ⟨w.heap.size + 1 + 1, 0, none⟩ = some (.string bE) := hO8.c 1 0
        have c1_1 : wo8.cell? ⟨w.heap.size + 1 + 1, 1, none⟩ = some (.slice none 0 0) := hO8.c 1 1
        have c1_2 : wo8.cell? ⟨w.heap.size + 1 + 1, 2, none⟩ = some (.slice none 0 0) := hO8.c 1 2
        have c1_3 : wo8.cell? ⟨w.heap.size + 1 + 1, 3, none⟩ = some (.string bE) := hO8.c 1 3
        have c1_4 : wo8.cell? ⟨w.heap.size + 1 + 1, 4, none⟩ = some (.slice none 0 0) := hO8.c 1 4
        have c1_5 : wo8.cell? ⟨w.heap.size + 1 + 1, 5, none⟩ = some (.slice none 0 0) := hO8.c 1 5
        have cf1 := hO8.fr 1
        have c2_0 : wo8.cell? ⟨w.heap.size + 1, 0, none⟩ = some (.int .u8 (kd : Int)) := hO8.c 2 0
        have c2_1 : wo8.cell? ⟨w.heap.size + 1, 1, none⟩ = some (.int .u8 (pl : Int)) := hO8.c 2 1
        have c2_2 : wo8.cell? ⟨w.heap.size + 1, 2, none⟩ = some (.int .u8 (jb : Int)) := hO8.c 2 2
        have cf2 := hO8.fr 2
        have c3_0 : wo8.cell? ⟨w.heap.size, 0, none⟩ = some (.string p.1.holder) := hO8.c 3 0
        have c3_1 : wo8.cell? ⟨w.heap.size, 1, none⟩ = some (.slice A1 p.1.waiting.length c1) := hO8.c 3 1
        have c3_2 : wo8.cell? ⟨w.heap.size, 2, none⟩ = some (.slice A2 p.1.held.length c2) := hO8.c 3 2
        have c3_3 : wo8.cell? ⟨w.heap.size, 3, none⟩ = some (.string j) := hO8.c 3 3
        have c3_4 : wo8.cell? ⟨w.heap.size, 4, none⟩ = some (.slice A7 (p.2.waiting.length - 1) c7) := hO8.c 3 4
        have c3_5 : wo8.cell? ⟨w.heap.size, 5, none⟩ = some (.slice A6 (p.2.held.length + 1) c6) := hO8.c 3 5
        have cf3 := hO8.fr 3
        repeat' ((fail_if_success at_builtin); (first | go_skip | go_guarded | go_step))
        generalize hx_ : World.setCell (World.setCell (World.setCell (World.setCell (World.setCell (World.setCell _ _ _) _ _) _ _) _ _) _ _) _ _ = wo9
        have hO9 : OwnB w wo9 [(wo1.heap.size, [.string j, .slice A7 (p.2.waiting.length - 1) c7, .slice A6 (p.2.held.length + 1) c6]), (w.heap.size + 1 + 1, [.string p.1.holder, .slice A1 p.1.waiting.length c1, .slice A2 p.1.held.length c2, .string j, .slice A7 (p.2.waiting.length - 1) c7, .slice A6 (p.2.held.length + 1) c6]), (w.heap.size + 1, [.int .u8 (kd : Int), .int .u8 (pl : Int), .int .u8 (jb : Int)]), (w.heap.size, [.string p.1.holder, .slice A1 p.1.waiting.length c1, .slice A2 p.1.held.length c2, .string j, .slice A7 (p.2.waiting.length - 1) c7, .slice A6 (p.2.held.length + 1) c6])] := by rw [← hx_]; exact (((((hO8.store 1 rfl 0 _).store 1 rfl 1 _).store 1 rfl 2 _).store 1 rfl 3 _).store 1 rfl 4 _).store 1 rfl 5 _
        have zwo9 : wo8.heap.size ≤ wo9.heap.size := by rw [← hx_]; simp [World.setCell]
        replace k1 : SL S0 w.heap.size wo2.heap.size wo9 A1 p.1.waiting.length c1 p.1.waiting := by rw [← hx_]; exact ((((((k1.set (by omega) (by omega)).set (by omega) (by omega)).set (by omega) (by omega)).set (by omega) (by omega)).set (by omega) (by omega)).set (by omega) (by omega))
        replace k2 : SL S0 w.heap.size wo2.heap.size wo9 A2 p.1.held.length c2 p.1.held := by rw [← hx_]; exact ((((((k2.set (by omega) (by omega)).set (by omega) (by omega)).set (by omega) (by omega)).set (by omega) (by omega)).set (by omega) (by omega)).set (by omega) (by omega))
        replace k3 : SL S0 w.heap.size wo2.heap.size wo9 (some ⟨g, og, none⟩) p.2.waiting.length d1 p.2.waiting := by rw [← hx_]; exact ((((((k3.set (by omega) (by omega)).set (by omega) (by omega)).set (by omega) (by omega)).set (by omega) (by omega)).set (by omega) (by omega)).set (by omega) (by omega))
        replace k4 : SL S0 w.heap.size wo2.heap.size wo9 B2 p.2.held.length d2 p.2.held := by rw [← hx_]; exact ((((((k4.set (by omega) (by omega)).set (by omega) (by omega)).set (by omega) (by omega)).set (by omega) (by omega)).set (by omega) (by omega)).set (by omega) (by omega))
        replace hsz : wo2.heap.size ≤ wo9.heap.size := by rw [← hx_]; exact (szset (szset (szset (szset (szset (szset hsz))))))
        replace n6 : SL S0 w.heap.size wo2.heap.size wo9 A6 (p.2.held ++ [j]).length c6 (p.2.held ++ [j]) := by rw [← hx_]; exact ((((((n6.set (by omega) (by omega)).set (by omega) (by omega)).set (by omega) (by omega)).set (by omega) (by omega)).set (by omega) (by omega)).set (by omega) (by omega))
        replace n7 : SL S0 w.heap.size wo2.heap.size wo9 A7 (List.drop 1 p.2.waiting).length c7 (List.drop 1 p.2.waiting) := by rw [← hx_]; exact ((((((n7.set (by omega) (by omega)).set (by omega) (by omega)).set (by omega) (by omega)).set (by omega) (by omega)).set (by omega) (by omega)).set (by omega) (by omega))
        clear hx_ c0_0 c0_1 c0_2 cf0 c1_0 c1_1 c1_2 c1_3 c1_4 c1_5 cf1 c2_0 c2_1 c2_2 cf2 c3_0 c3_1 c3_2 c3_3 c3_4 c3_5 cf3 hO8
        have c0_0 : wo9.cell? ⟨wo1.heap.size, 0, none⟩ = some (.string j) := hO9.c 0 0
        have c0_1 : wo9.cell? ⟨wo1.heap.size, 1, none⟩ = some (.slice A7 (p.2.waiting.length - 1) c7) := hO9.c 0 1
        have c0_2 : wo9.cell? ⟨wo1.heap.size, 2, none⟩ = some (.slice A6 (p.2.held.length + 1) c6) := hO9.c 0 2
        have cf0 := hO9.fr 0
        have c1_0 : wo9.cell? ⟨w.heap.size + 1 + 1, 0, none⟩ = some (.string p.1.holder) := hO9.c 1 0
        have c1_1 : wo9.cell? ⟨w.heap.size + 1 + 1, 1, none⟩ = some (.slice A1 p.1.waiting.length c1) := hO9.c 1 1
        have c1_2 : wo9.cell? ⟨w.heap.size + 1 + 1, 2, none⟩ = some (.slice A2 p.1.held.length c2) := hO9.c 1 2
        have c1_3 : wo9.cell? ⟨w.heap.size + 1 + 1, 3, none⟩ = some (.string j) := hO9.c 1 3
        have c1_4 : wo9.cell? ⟨w.heap.size + 1 + 1, 4, none⟩ = some (.slice A7 (p.2.waiting.length - 1) c7) := hO9.c 1 4
        have c1_5 : wo9.cell? ⟨w.heap.size + 1 + 1, 5, none⟩ = some (.slice A6 (p.2.held.length + 1) c6) := hO9.c 1 5
        have cf1 := hO9.fr 1
        have c2_0 : wo9.cell? ⟨w.heap.size + 1, 0, none⟩ = some (.int .u8 (kd : Int)) := hO9.c 2 0
        have c2_1 : wo9.cell? ⟨w.heap.size + 1, 1, none⟩ = some (.int .u8 (pl : Int)) := hO9.c 2 1
        have c2_2 : wo9.cell? ⟨w.heap.size + 1, 2, none⟩ = some (.int .u8 (jb : Int)) := hO9.c 2 2
        have cf2 := hO9.fr 2
        have c3_0 : wo9.cell? ⟨w.heap.size, 0, none⟩ = some (.string p.1.holder) := hO9.c 3 0
        have c3_1 : wo9.cell? ⟨w.heap.size, 1, none⟩ = some (.slice A1 p.1.waiting.length c1) := hO9.c 3 1
        have c3_2 : wo9.cell? ⟨w.heap.size, 2, none⟩ = some (.slice A2 p.1.held.length c2) := hO9.c 3 2
        have c3_3 : wo9.cell? ⟨w.heap.size, 3, none⟩ = some (.string j) := hO9.c 3 3
        have c3_4 : wo9.cell? ⟨w.heap.size, 4, none⟩ = some (.slice A7 (p.2.waiting.length - 1) c7) := hO9.c 3 4
        have c3_5 : wo9.cell? ⟨w.heap.size, 5, none⟩ = some (.slice A6 (p.2.held.length + 1) c6) := hO9.c 3 5
        have cf3 := hO9.fr 3
        refine bodyPost_ret (v := .tuple #[.agg #[.string p.1.holder, .slice A1 p.1.waiting.length c1, .slice A2 p.1.held.length c2, .string j, .slice A7 (p.2.waiting.length - 1) c7, .slice A6 (p.2.held.length + 1) c6], .bool true]) (by simp only [results, Tryd.results24]; go_simp; first | done | exact ⟨rfl, rfl, rfl⟩ | rfl) rfl ?_
        have hq : Q = expT 1 true j p := by first | exact hQ.out | exact hQ
        clear hQ
        subst hq
        exact ⟨A1, c1, A2, c2, A7, c7, A6, c6, by rw [hm] <;> first | rfl | simp, hO9.below, by rw [hm]; exact ⟨k1.out (by omega), k2.out (by omega), n7.out (by omega), n6.out (by omega)⟩⟩
end Go.Proofs.YtennhjkhjplmoaaDoor
