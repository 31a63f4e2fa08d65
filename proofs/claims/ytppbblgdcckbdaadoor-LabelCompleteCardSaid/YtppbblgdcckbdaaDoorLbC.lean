/- Label: the document's cases. -/
import Derived.Test.YtppbblgdcckbdaaDoorLbIm
import Derived.Test.YtppbblgdcckbdaaDoorLbRV
namespace Go.Proofs.YtppbblgdcckbdaaDoor
open Go.RowKit
abbrev cval (c : Cs) : Array Value := #[.bool c.absent, .bool c.plain, .int .i64 (c.lo : Int), .int .i64 (c.hi : Int)]
theorem ret_v {a b : Value} (h : a = b) : Ending.returned a = Ending.returned b := by rw [h]
set_option maxRecDepth 100000 in
set_option maxHeartbeats 2000000 in
theorem meet_any (c : Cs) (t : Prt) (w : World) (h1 : 1 ≤ t.form) (h5 : t.form ≤ 5) : Calls Tryd.prog 51 #[.agg (cval c), .agg (pval t)] w fun e w' => e = .returned (.agg (cval (meetC c t))) ∧ Below w.heap.size w w' := by
  obtain ⟨ab, pl, lo, hi⟩ := c
  obtain ⟨tf, tn, tm⟩ := t
  have m1 : max (lo : Int) (tm : Int) = ((max lo tm : Nat) : Int) := by omega
  have m2 : min (hi : Int) (tm : Int) = ((min hi tm : Nat) : Int) := by omega
  rcases (show tf = 1 ∨ tf = 2 ∨ tf = 3 ∨ tf = 4 ∨ tf = 5 by simp at h1 h5; omega) with rfl | rfl | rfl | rfl | rfl
  · cases pl
    · go_enter Tryd.func51, Tryd.ntmps51
      go_upto_region 1 with (fail)
      generalize hx_ : World.alloc (World.alloc (World.alloc w _) _) _ = wo1
      have hO1 : OwnB w wo1 [(w.heap.size + 2, [.bool false, .bool false, .int .i64 0, .int .i64 0]), (w.heap.size + 1, [.int .i64 1, .string (strS tn), .int .i64 (tm : Int)]), (w.heap.size, [.bool ab, .bool false, .int .i64 (lo : Int), .int .i64 (hi : Int)])] := by rw [← hx_]; exact (((OwnB.refl w).new #[.bool ab, .bool false, .int .i64 (lo : Int), .int .i64 (hi : Int)] _).new #[.int .i64 1, .string (strS tn), .int .i64 (tm : Int)] _ (g := w.heap.size + 1)).new #[.bool false, .bool false, .int .i64 0, .int .i64 0] _ (g := w.heap.size + 2)
      clear hx_
      have c0_0 : wo1.cell? ⟨w.heap.size + 2, 0, none⟩ = some (.bool false) := hO1.c 0 0
      have c0_1 : wo1.cell? ⟨w.heap.size + 2, 1, none⟩ = some (.bool false) := hO1.c 0 1
      have c0_2 : wo1.cell? ⟨w.heap.size + 2, 2, none⟩ = some (.int .i64 0) := hO1.c 0 2
      have c0_3 : wo1.cell? ⟨w.heap.size + 2, 3, none⟩ = some (.int .i64 0) := hO1.c 0 3
      have cf0 := hO1.fr 0
      have c1_0 : wo1.cell? ⟨w.heap.size + 1, 0, none⟩ = some (.int .i64 1) := hO1.c 1 0
      have c1_1 : wo1.cell? ⟨w.heap.size + 1, 1, none⟩ = some (.string (strS tn)) := hO1.c 1 1
      have c1_2 : wo1.cell? ⟨w.heap.size + 1, 2, none⟩ = some (.int .i64 (tm : Int)) := hO1.c 1 2
      have cf1 := hO1.fr 1
      have c2_0 : wo1.cell? ⟨w.heap.size, 0, none⟩ = some (.bool ab) := hO1.c 2 0
      have c2_1 : wo1.cell? ⟨w.heap.size, 1, none⟩ = some (.bool false) := hO1.c 2 1
      have c2_2 : wo1.cell? ⟨w.heap.size, 2, none⟩ = some (.int .i64 (lo : Int)) := hO1.c 2 2
      have c2_3 : wo1.cell? ⟨w.heap.size, 3, none⟩ = some (.int .i64 (hi : Int)) := hO1.c 2 3
      have cf2 := hO1.fr 2
      go_upto_region 4 with (fail)
      generalize hx_ : World.setCell _ _ _ = wo2
      have hO2 : OwnB w wo2 [(w.heap.size + 2, [.bool false, .bool false, .int .i64 0, .int .i64 0]), (w.heap.size + 1, [.int .i64 1, .string (strS tn), .int .i64 (tm : Int)]), (w.heap.size, [.bool false, .bool false, .int .i64 (lo : Int), .int .i64 (hi : Int)])] := by rw [← hx_]; exact hO1.store 2 rfl 0 _
      clear hx_ c0_0 c0_1 c0_2 c0_3 cf0 c1_0 c1_1 c1_2 cf1 c2_0 c2_1 c2_2 c2_3 cf2 hO1
      have c0_0 : wo2.cell? ⟨w.heap.size + 2, 0, none⟩ = some (.bool false) := hO2.c 0 0
      have c0_1 : wo2.cell? ⟨w.heap.size + 2, 1, none⟩ = some (.bool false) := hO2.c 0 1
      have c0_2 : wo2.cell? ⟨w.heap.size + 2, 2, none⟩ = some (.int .i64 0) := hO2.c 0 2
      have c0_3 : wo2.cell? ⟨w.heap.size + 2, 3, none⟩ = some (.int .i64 0) := hO2.c 0 3
      have cf0 := hO2.fr 0
      have c1_0 : wo2.cell? ⟨w.heap.size + 1, 0, none⟩ = some (.int .i64 1) := hO2.c 1 0
      have c1_1 : wo2.cell? ⟨w.heap.size + 1, 1, none⟩ = some (.string (strS tn)) := hO2.c 1 1
      have c1_2 : wo2.cell? ⟨w.heap.size + 1, 2, none⟩ = some (.int .i64 (tm : Int)) := hO2.c 1 2
      have cf1 := hO2.fr 1
      have c2_0 : wo2.cell? ⟨w.heap.size, 0, none⟩ = some (.bool false) := hO2.c 2 0
      have c2_1 : wo2.cell? ⟨w.heap.size, 1, none⟩ = some (.bool false) := hO2.c 2 1
      have c2_2 : wo2.cell? ⟨w.heap.size, 2, none⟩ = some (.int .i64 (lo : Int)) := hO2.c 2 2
      have c2_3 : wo2.cell? ⟨w.heap.size, 3, none⟩ = some (.int .i64 (hi : Int)) := hO2.c 2 3
      have cf2 := hO2.fr 2
      go_upto_region 5 with (fail)
      generalize hx_ : World.setCell _ _ _ = wo3
      have hO3 : OwnB w wo3 [(w.heap.size + 2, [.bool false, .bool false, .int .i64 0, .int .i64 0]), (w.heap.size + 1, [.int .i64 1, .string (strS tn), .int .i64 (tm : Int)]), (w.heap.size, [.bool false, .bool false, .int .i64 (lo : Int), .int .i64 (hi : Int)])] := by rw [← hx_]; exact hO2.store 2 rfl 1 _
      clear hx_ c0_0 c0_1 c0_2 c0_3 cf0 c1_0 c1_1 c1_2 cf1 c2_0 c2_1 c2_2 c2_3 cf2 hO2
      have c0_0 : wo3.cell? ⟨w.heap.size + 2, 0, none⟩ = some (.bool false) := hO3.c 0 0
      have c0_1 : wo3.cell? ⟨w.heap.size + 2, 1, none⟩ = some (.bool false) := hO3.c 0 1
      have c0_2 : wo3.cell? ⟨w.heap.size + 2, 2, none⟩ = some (.int .i64 0) := hO3.c 0 2
      have c0_3 : wo3.cell? ⟨w.heap.size + 2, 3, none⟩ = some (.int .i64 0) := hO3.c 0 3
      have cf0 := hO3.fr 0
      have c1_0 : wo3.cell? ⟨w.heap.size + 1, 0, none⟩ = some (.int .i64 1) := hO3.c 1 0
      have c1_1 : wo3.cell? ⟨w.heap.size + 1, 1, none⟩ = some (.string (strS tn)) := hO3.c 1 1
      have c1_2 : wo3.cell? ⟨w.heap.size + 1, 2, none⟩ = some (.int .i64 (tm : Int)) := hO3.c 1 2
      have cf1 := hO3.fr 1
      have c2_0 : wo3.cell? ⟨w.heap.size, 0, none⟩ = some (.bool false) := hO3.c 2 0
      have c2_1 : wo3.cell? ⟨w.heap.size, 1, none⟩ = some (.bool false) := hO3.c 2 1
      have c2_2 : wo3.cell? ⟨w.heap.size, 2, none⟩ = some (.int .i64 (lo : Int)) := hO3.c 2 2
      have c2_3 : wo3.cell? ⟨w.heap.size, 3, none⟩ = some (.int .i64 (hi : Int)) := hO3.c 2 3
      have cf2 := hO3.fr 2
      repeat' ((fail_if_success at_builtin); (first | go_skip | go_guarded | go_step))
      generalize hx_ : World.setCell (World.setCell (World.setCell (World.setCell _ _ _) _ _) _ _) _ _ = wo4
      have hO4 : OwnB w wo4 [(w.heap.size + 2, [.bool false, .bool false, .int .i64 (lo : Int), .int .i64 (hi : Int)]), (w.heap.size + 1, [.int .i64 1, .string (strS tn), .int .i64 (tm : Int)]), (w.heap.size, [.bool false, .bool false, .int .i64 (lo : Int), .int .i64 (hi : Int)])] := by rw [← hx_]; exact (((hO3.store 0 rfl 0 _).store 0 rfl 1 _).store 0 rfl 2 _).store 0 rfl 3 _
      clear hx_ c0_0 c0_1 c0_2 c0_3 cf0 c1_0 c1_1 c1_2 cf1 c2_0 c2_1 c2_2 c2_3 cf2 hO3
      have c0_0 : wo4.cell? ⟨w.heap.size + 2, 0, none⟩ = some (.bool false) := hO4.c 0 0
      have c0_1 : wo4.cell? ⟨w.heap.size + 2, 1, none⟩ = some (.bool false) := hO4.c 0 1
      have c0_2 : wo4.cell? ⟨w.heap.size + 2, 2, none⟩ = some (.int .i64 (lo : Int)) := hO4.c 0 2
      have c0_3 : wo4.cell? ⟨w.heap.size + 2, 3, none⟩ = some (.int .i64 (hi : Int)) := hO4.c 0 3
      have cf0 := hO4.fr 0
      have c1_0 : wo4.cell? ⟨w.heap.size + 1, 0, none⟩ = some (.int .i64 1) := hO4.c 1 0
      have c1_1 : wo4.cell? ⟨w.heap.size + 1, 1, none⟩ = some (.string (strS tn)) := hO4.c 1 1
      have c1_2 : wo4.cell? ⟨w.heap.size + 1, 2, none⟩ = some (.int .i64 (tm : Int)) := hO4.c 1 2
      have cf1 := hO4.fr 1
      have c2_0 : wo4.cell? ⟨w.heap.size, 0, none⟩ = some (.bool false) := hO4.c 2 0
      have c2_1 : wo4.cell? ⟨w.heap.size, 1, none⟩ = some (.bool false) := hO4.c 2 1
      have c2_2 : wo4.cell? ⟨w.heap.size, 2, none⟩ = some (.int .i64 (lo : Int)) := hO4.c 2 2
      have c2_3 : wo4.cell? ⟨w.heap.size, 3, none⟩ = some (.int .i64 (hi : Int)) := hO4.c 2 3
      have cf2 := hO4.fr 2
      have hb9 := hO4.below
      refine bodyPost_ret (v := .agg #[.bool false, .bool false, .int .i64 (lo : Int), .int .i64 (hi : Int)]) (by simp only [results, Tryd.results51]; go_simp; first | done | exact ⟨rfl, rfl, rfl⟩ | rfl) rfl ?_
      exact ⟨rfl, hb9⟩
    · go_enter Tryd.func51, Tryd.ntmps51
      go_upto_region 1 with (fail)
      generalize hx_ : World.alloc (World.alloc (World.alloc w _) _) _ = wo1
      have hO1 : OwnB w wo1 [(w.heap.size + 2, [.bool false, .bool false, .int .i64 0, .int .i64 0]), (w.heap.size + 1, [.int .i64 1, .string (strS tn), .int .i64 (tm : Int)]), (w.heap.size, [.bool ab, .bool true, .int .i64 (lo : Int), .int .i64 (hi : Int)])] := by rw [← hx_]; exact (((OwnB.refl w).new #[.bool ab, .bool true, .int .i64 (lo : Int), .int .i64 (hi : Int)] _).new #[.int .i64 1, .string (strS tn), .int .i64 (tm : Int)] _ (g := w.heap.size + 1)).new #[.bool false, .bool false, .int .i64 0, .int .i64 0] _ (g := w.heap.size + 2)
      clear hx_
      have c0_0 : wo1.cell? ⟨w.heap.size + 2, 0, none⟩ = some (.bool false) := hO1.c 0 0
      have c0_1 : wo1.cell? ⟨w.heap.size + 2, 1, none⟩ = some (.bool false) := hO1.c 0 1
      have c0_2 : wo1.cell? ⟨w.heap.size + 2, 2, none⟩ = some (.int .i64 0) := hO1.c 0 2
      have c0_3 : wo1.cell? ⟨w.heap.size + 2, 3, none⟩ = some (.int .i64 0) := hO1.c 0 3
      have cf0 := hO1.fr 0
      have c1_0 : wo1.cell? ⟨w.heap.size + 1, 0, none⟩ = some (.int .i64 1) := hO1.c 1 0
      have c1_1 : wo1.cell? ⟨w.heap.size + 1, 1, none⟩ = some (.string (strS tn)) := hO1.c 1 1
      have c1_2 : wo1.cell? ⟨w.heap.size + 1, 2, none⟩ = some (.int .i64 (tm : Int)) := hO1.c 1 2
      have cf1 := hO1.fr 1
      have c2_0 : wo1.cell? ⟨w.heap.size, 0, none⟩ = some (.bool ab) := hO1.c 2 0
      have c2_1 : wo1.cell? ⟨w.heap.size, 1, none⟩ = some (.bool true) := hO1.c 2 1
      have c2_2 : wo1.cell? ⟨w.heap.size, 2, none⟩ = some (.int .i64 (lo : Int)) := hO1.c 2 2
      have c2_3 : wo1.cell? ⟨w.heap.size, 3, none⟩ = some (.int .i64 (hi : Int)) := hO1.c 2 3
      have cf2 := hO1.fr 2
      go_upto_region 4 with (fail)
      generalize hx_ : World.setCell _ _ _ = wo2
      have hO2 : OwnB w wo2 [(w.heap.size + 2, [.bool false, .bool false, .int .i64 0, .int .i64 0]), (w.heap.size + 1, [.int .i64 1, .string (strS tn), .int .i64 (tm : Int)]), (w.heap.size, [.bool false, .bool true, .int .i64 (lo : Int), .int .i64 (hi : Int)])] := by rw [← hx_]; exact hO1.store 2 rfl 0 _
      clear hx_ c0_0 c0_1 c0_2 c0_3 cf0 c1_0 c1_1 c1_2 cf1 c2_0 c2_1 c2_2 c2_3 cf2 hO1
      have c0_0 : wo2.cell? ⟨w.heap.size + 2, 0, none⟩ = some (.bool false) := hO2.c 0 0
      have c0_1 : wo2.cell? ⟨w.heap.size + 2, 1, none⟩ = some (.bool false) := hO2.c 0 1
      have c0_2 : wo2.cell? ⟨w.heap.size + 2, 2, none⟩ = some (.int .i64 0) := hO2.c 0 2
      have c0_3 : wo2.cell? ⟨w.heap.size + 2, 3, none⟩ = some (.int .i64 0) := hO2.c 0 3
      have cf0 := hO2.fr 0
      have c1_0 : wo2.cell? ⟨w.heap.size + 1, 0, none⟩ = some (.int .i64 1) := hO2.c 1 0
      have c1_1 : wo2.cell? ⟨w.heap.size + 1, 1, none⟩ = some (.string (strS tn)) := hO2.c 1 1
      have c1_2 : wo2.cell? ⟨w.heap.size + 1, 2, none⟩ = some (.int .i64 (tm : Int)) := hO2.c 1 2
      have cf1 := hO2.fr 1
      have c2_0 : wo2.cell? ⟨w.heap.size, 0, none⟩ = some (.bool false) := hO2.c 2 0
      have c2_1 : wo2.cell? ⟨w.heap.size, 1, none⟩ = some (.bool true) := hO2.c 2 1
      have c2_2 : wo2.cell? ⟨w.heap.size, 2, none⟩ = some (.int .i64 (lo : Int)) := hO2.c 2 2
      have c2_3 : wo2.cell? ⟨w.heap.size, 3, none⟩ = some (.int .i64 (hi : Int)) := hO2.c 2 3
      have cf2 := hO2.fr 2
      go_upto_region 5 with (fail)
      generalize hx_ : World.setCell _ _ _ = wo3
      have hO3 : OwnB w wo3 [(w.heap.size + 2, [.bool false, .bool false, .int .i64 0, .int .i64 0]), (w.heap.size + 1, [.int .i64 1, .string (strS tn), .int .i64 (tm : Int)]), (w.heap.size, [.bool false, .bool true, .int .i64 (lo : Int), .int .i64 (hi : Int)])] := by rw [← hx_]; exact hO2.store 2 rfl 1 _
      clear hx_ c0_0 c0_1 c0_2 c0_3 cf0 c1_0 c1_1 c1_2 cf1 c2_0 c2_1 c2_2 c2_3 cf2 hO2
      have c0_0 : wo3.cell? ⟨w.heap.size + 2, 0, none⟩ = some (.bool false) := hO3.c 0 0
      have c0_1 : wo3.cell? ⟨w.heap.size + 2, 1, none⟩ = some (.bool false) := hO3.c 0 1
      have c0_2 : wo3.cell? ⟨w.heap.size + 2, 2, none⟩ = some (.int .i64 0) := hO3.c 0 2
      have c0_3 : wo3.cell? ⟨w.heap.size + 2, 3, none⟩ = some (.int .i64 0) := hO3.c 0 3
      have cf0 := hO3.fr 0
      have c1_0 : wo3.cell? ⟨w.heap.size + 1, 0, none⟩ = some (.int .i64 1) := hO3.c 1 0
      have c1_1 : wo3.cell? ⟨w.heap.size + 1, 1, none⟩ = some (.string (strS tn)) := hO3.c 1 1
      have c1_2 : wo3.cell? ⟨w.heap.size + 1, 2, none⟩ = some (.int .i64 (tm : Int)) := hO3.c 1 2
      have cf1 := hO3.fr 1
      have c2_0 : wo3.cell? ⟨w.heap.size, 0, none⟩ = some (.bool false) := hO3.c 2 0
      have c2_1 : wo3.cell? ⟨w.heap.size, 1, none⟩ = some (.bool true) := hO3.c 2 1
      have c2_2 : wo3.cell? ⟨w.heap.size, 2, none⟩ = some (.int .i64 (lo : Int)) := hO3.c 2 2
      have c2_3 : wo3.cell? ⟨w.heap.size, 3, none⟩ = some (.int .i64 (hi : Int)) := hO3.c 2 3
      have cf2 := hO3.fr 2
      repeat' ((fail_if_success at_builtin); (first | go_skip | go_guarded | go_step))
      generalize hx_ : World.setCell (World.setCell (World.setCell (World.setCell _ _ _) _ _) _ _) _ _ = wo4
      have hO4 : OwnB w wo4 [(w.heap.size + 2, [.bool false, .bool true, .int .i64 (lo : Int), .int .i64 (hi : Int)]), (w.heap.size + 1, [.int .i64 1, .string (strS tn), .int .i64 (tm : Int)]), (w.heap.size, [.bool false, .bool true, .int .i64 (lo : Int), .int .i64 (hi : Int)])] := by rw [← hx_]; exact (((hO3.store 0 rfl 0 _).store 0 rfl 1 _).store 0 rfl 2 _).store 0 rfl 3 _
      clear hx_ c0_0 c0_1 c0_2 c0_3 cf0 c1_0 c1_1 c1_2 cf1 c2_0 c2_1 c2_2 c2_3 cf2 hO3
      have c0_0 : wo4.cell? ⟨w.heap.size + 2, 0, none⟩ = some (.bool false) := hO4.c 0 0
      have c0_1 : wo4.cell? ⟨w.heap.size + 2, 1, none⟩ = some (.bool true) := hO4.c 0 1
      have c0_2 : wo4.cell? ⟨w.heap.size + 2, 2, none⟩ = some (.int .i64 (lo : Int)) := hO4.c 0 2
      have c0_3 : wo4.cell? ⟨w.heap.size + 2, 3, none⟩ = some (.int .i64 (hi : Int)) := hO4.c 0 3
      have cf0 := hO4.fr 0
      have c1_0 : wo4.cell? ⟨w.heap.size + 1, 0, none⟩ = some (.int .i64 1) := hO4.c 1 0
      have c1_1 : wo4.cell? ⟨w.heap.size + 1, 1, none⟩ = some (.string (strS tn)) := hO4.c 1 1
      have c1_2 : wo4.cell? ⟨w.heap.size + 1, 2, none⟩ = some (.int .i64 (tm : Int)) := hO4.c 1 2
      have cf1 := hO4.fr 1
      have c2_0 : wo4.cell? ⟨w.heap.size, 0, none⟩ = some (.bool false) := hO4.c 2 0
      have c2_1 : wo4.cell? ⟨w.heap.size, 1, none⟩ = some (.bool true) := hO4.c 2 1
      have c2_2 : wo4.cell? ⟨w.heap.size, 2, none⟩ = some (.int .i64 (lo : Int)) := hO4.c 2 2
      have c2_3 : wo4.cell? ⟨w.heap.size, 3, none⟩ = some (.int .i64 (hi : Int)) := hO4.c 2 3
      have cf2 := hO4.fr 2
      have hb9 := hO4.below
      refine bodyPost_ret (v := .agg #[.bool false, .bool true, .int .i64 (lo : Int), .int .i64 (hi : Int)]) (by simp only [results, Tryd.results51]; go_simp; first | done | exact ⟨rfl, rfl, rfl⟩ | rfl) rfl ?_
      exact ⟨rfl, hb9⟩
  · cases pl
    · go_enter Tryd.func51, Tryd.ntmps51
      go_upto_region 1 with (fail)
      generalize hx_ : World.alloc (World.alloc (World.alloc w _) _) _ = wo1
      have hO1 : OwnB w wo1 [(w.heap.size + 2, [.bool false, .bool false, .int .i64 0, .int .i64 0]), (w.heap.size + 1, [.int .i64 2, .string (strS tn), .int .i64 (tm : Int)]), (w.heap.size, [.bool ab, .bool false, .int .i64 (lo : Int), .int .i64 (hi : Int)])] := by rw [← hx_]; exact (((OwnB.refl w).new #[.bool ab, .bool false, .int .i64 (lo : Int), .int .i64 (hi : Int)] _).new #[.int .i64 2, .string (strS tn), .int .i64 (tm : Int)] _ (g := w.heap.size + 1)).new #[.bool false, .bool false, .int .i64 0, .int .i64 0] _ (g := w.heap.size + 2)
      clear hx_
      have c0_0 : wo1.cell? ⟨w.heap.size + 2, 0, none⟩ = some (.bool false) := hO1.c 0 0
      have c0_1 : wo1.cell? ⟨w.heap.size + 2, 1, none⟩ = some (.bool false) := hO1.c 0 1
      have c0_2 : wo1.cell? ⟨w.heap.size + 2, 2, none⟩ = some (.int .i64 0) := hO1.c 0 2
      have c0_3 : wo1.cell? ⟨w.heap.size + 2, 3, none⟩ = some (.int .i64 0) := hO1.c 0 3
      have cf0 := hO1.fr 0
      have c1_0 : wo1.cell? ⟨w.heap.size + 1, 0, none⟩ = some (.int .i64 2) := hO1.c 1 0
      have c1_1 : wo1.cell? ⟨w.heap.size + 1, 1, none⟩ = some (.string (strS tn)) := hO1.c 1 1
      have c1_2 : wo1.cell? ⟨w.heap.size + 1, 2, none⟩ = some (.int .i64 (tm : Int)) := hO1.c 1 2
      have cf1 := hO1.fr 1
      have c2_0 : wo1.cell? ⟨w.heap.size, 0, none⟩ = some (.bool ab) := hO1.c 2 0
      have c2_1 : wo1.cell? ⟨w.heap.size, 1, none⟩ = some (.bool false) := hO1.c 2 1
      have c2_2 : wo1.cell? ⟨w.heap.size, 2, none⟩ = some (.int .i64 (lo : Int)) := hO1.c 2 2
      have c2_3 : wo1.cell? ⟨w.heap.size, 3, none⟩ = some (.int .i64 (hi : Int)) := hO1.c 2 3
      have cf2 := hO1.fr 2
      repeat' ((fail_if_success at_builtin); (first | go_skip | go_guarded | go_step))
      generalize hx_ : World.setCell (World.setCell (World.setCell (World.setCell _ _ _) _ _) _ _) _ _ = wo2
      have hO2 : OwnB w wo2 [(w.heap.size + 2, [.bool ab, .bool false, .int .i64 1, .int .i64 0]), (w.heap.size + 1, [.int .i64 2, .string (strS tn), .int .i64 (tm : Int)]), (w.heap.size, [.bool ab, .bool false, .int .i64 (lo : Int), .int .i64 (hi : Int)])] := by rw [← hx_]; exact (((hO1.store 0 rfl 0 _).store 0 rfl 1 _).store 0 rfl 2 _).store 0 rfl 3 _
      clear hx_ c0_0 c0_1 c0_2 c0_3 cf0 c1_0 c1_1 c1_2 cf1 c2_0 c2_1 c2_2 c2_3 cf2 hO1
      have c0_0 : wo2.cell? ⟨w.heap.size + 2, 0, none⟩ = some (.bool ab) := hO2.c 0 0
      have c0_1 : wo2.cell? ⟨w.heap.size + 2, 1, none⟩ = some (.bool false) := hO2.c 0 1
      have c0_2 : wo2.cell? ⟨w.heap.size + 2, 2, none⟩ = some (.int .i64 1) := hO2.c 0 2
      have c0_3 : wo2.cell? ⟨w.heap.size + 2, 3, none⟩ = some (.int .i64 0) := hO2.c 0 3
      have cf0 := hO2.fr 0
      have c1_0 : wo2.cell? ⟨w.heap.size + 1, 0, none⟩ = some (.int .i64 2) := hO2.c 1 0
      have c1_1 : wo2.cell? ⟨w.heap.size + 1, 1, none⟩ = some (.string (strS tn)) := hO2.c 1 1
      have c1_2 : wo2.cell? ⟨w.heap.size + 1, 2, none⟩ = some (.int .i64 (tm : Int)) := hO2.c 1 2
      have cf1 := hO2.fr 1
      have c2_0 : wo2.cell? ⟨w.heap.size, 0, none⟩ = some (.bool ab) := hO2.c 2 0
      have c2_1 : wo2.cell? ⟨w.heap.size, 1, none⟩ = some (.bool false) := hO2.c 2 1
      have c2_2 : wo2.cell? ⟨w.heap.size, 2, none⟩ = some (.int .i64 (lo : Int)) := hO2.c 2 2
      have c2_3 : wo2.cell? ⟨w.heap.size, 3, none⟩ = some (.int .i64 (hi : Int)) := hO2.c 2 3
      have cf2 := hO2.fr 2
      have hb9 := hO2.below
      refine bodyPost_ret (v := .agg #[.bool ab, .bool false, .int .i64 1, .int .i64 0]) (by simp only [results, Tryd.results51]; go_simp; first | done | exact ⟨rfl, rfl, rfl⟩ | rfl) rfl ?_
      exact ⟨rfl, hb9⟩
    · go_enter Tryd.func51, Tryd.ntmps51
      go_upto_region 1 with (fail)
      generalize hx_ : World.alloc (World.alloc (World.alloc w _) _) _ = wo1
      have hO1 : OwnB w wo1 [(w.heap.size + 2, [.bool false, .bool false, .int .i64 0, .int .i64 0]), (w.heap.size + 1, [.int .i64 2, .string (strS tn), .int .i64 (tm : Int)]), (w.heap.size, [.bool ab, .bool true, .int .i64 (lo : Int), .int .i64 (hi : Int)])] := by rw [← hx_]; exact (((OwnB.refl w).new #[.bool ab, .bool true, .int .i64 (lo : Int), .int .i64 (hi : Int)] _).new #[.int .i64 2, .string (strS tn), .int .i64 (tm : Int)] _ (g := w.heap.size + 1)).new #[.bool false, .bool false, .int .i64 0, .int .i64 0] _ (g := w.heap.size + 2)
      clear hx_
      have c0_0 : wo1.cell? ⟨w.heap.size + 2, 0, none⟩ = some (.bool false) := hO1.c 0 0
      have c0_1 : wo1.cell? ⟨w.heap.size + 2, 1, none⟩ = some (.bool false) := hO1.c 0 1
      have c0_2 : wo1.cell? ⟨w.heap.size + 2, 2, none⟩ = some (.int .i64 0) := hO1.c 0 2
      have c0_3 : wo1.cell? ⟨w.heap.size + 2, 3, none⟩ = some (.int .i64 0) := hO1.c 0 3
      have cf0 := hO1.fr 0
      have c1_0 : wo1.cell? ⟨w.heap.size + 1, 0, none⟩ = some (.int .i64 2) := hO1.c 1 0
      have c1_1 : wo1.cell? ⟨w.heap.size + 1, 1, none⟩ = some (.string (strS tn)) := hO1.c 1 1
      have c1_2 : wo1.cell? ⟨w.heap.size + 1, 2, none⟩ = some (.int .i64 (tm : Int)) := hO1.c 1 2
      have cf1 := hO1.fr 1
      have c2_0 : wo1.cell? ⟨w.heap.size, 0, none⟩ = some (.bool ab) := hO1.c 2 0
      have c2_1 : wo1.cell? ⟨w.heap.size, 1, none⟩ = some (.bool true) := hO1.c 2 1
      have c2_2 : wo1.cell? ⟨w.heap.size, 2, none⟩ = some (.int .i64 (lo : Int)) := hO1.c 2 2
      have c2_3 : wo1.cell? ⟨w.heap.size, 3, none⟩ = some (.int .i64 (hi : Int)) := hO1.c 2 3
      have cf2 := hO1.fr 2
      repeat' ((fail_if_success at_builtin); (first | go_skip | go_guarded | go_step))
      generalize hx_ : World.setCell (World.setCell (World.setCell (World.setCell _ _ _) _ _) _ _) _ _ = wo2
      have hO2 : OwnB w wo2 [(w.heap.size + 2, [.bool ab, .bool false, .int .i64 1, .int .i64 0]), (w.heap.size + 1, [.int .i64 2, .string (strS tn), .int .i64 (tm : Int)]), (w.heap.size, [.bool ab, .bool true, .int .i64 (lo : Int), .int .i64 (hi : Int)])] := by rw [← hx_]; exact (((hO1.store 0 rfl 0 _).store 0 rfl 1 _).store 0 rfl 2 _).store 0 rfl 3 _
      clear hx_ c0_0 c0_1 c0_2 c0_3 cf0 c1_0 c1_1 c1_2 cf1 c2_0 c2_1 c2_2 c2_3 cf2 hO1
      have c0_0 : wo2.cell? ⟨w.heap.size + 2, 0, none⟩ = some (.bool ab) := hO2.c 0 0
      have c0_1 : wo2.cell? ⟨w.heap.size + 2, 1, none⟩ = some (.bool false) := hO2.c 0 1
      have c0_2 : wo2.cell? ⟨w.heap.size + 2, 2, none⟩ = some (.int .i64 1) := hO2.c 0 2
      have c0_3 : wo2.cell? ⟨w.heap.size + 2, 3, none⟩ = some (.int .i64 0) := hO2.c 0 3
      have cf0 := hO2.fr 0
      have c1_0 : wo2.cell? ⟨w.heap.size + 1, 0, none⟩ = some (.int .i64 2) := hO2.c 1 0
      have c1_1 : wo2.cell? ⟨w.heap.size + 1, 1, none⟩ = some (.string (strS tn)) := hO2.c 1 1
      have c1_2 : wo2.cell? ⟨w.heap.size + 1, 2, none⟩ = some (.int .i64 (tm : Int)) := hO2.c 1 2
      have cf1 := hO2.fr 1
      have c2_0 : wo2.cell? ⟨w.heap.size, 0, none⟩ = some (.bool ab) := hO2.c 2 0
      have c2_1 : wo2.cell? ⟨w.heap.size, 1, none⟩ = some (.bool true) := hO2.c 2 1
      have c2_2 : wo2.cell? ⟨w.heap.size, 2, none⟩ = some (.int .i64 (lo : Int)) := hO2.c 2 2
      have c2_3 : wo2.cell? ⟨w.heap.size, 3, none⟩ = some (.int .i64 (hi : Int)) := hO2.c 2 3
      have cf2 := hO2.fr 2
      have hb9 := hO2.below
      refine bodyPost_ret (v := .agg #[.bool ab, .bool false, .int .i64 1, .int .i64 0]) (by simp only [results, Tryd.results51]; go_simp; first | done | exact ⟨rfl, rfl, rfl⟩ | rfl) rfl ?_
      exact ⟨rfl, hb9⟩
  · cases pl
    · go_enter Tryd.func51, Tryd.ntmps51
      go_upto_region 1 with (fail)
      generalize hx_ : World.alloc (World.alloc (World.alloc w _) _) _ = wo1
      have hO1 : OwnB w wo1 [(w.heap.size + 2, [.bool false, .bool false, .int .i64 0, .int .i64 0]), (w.heap.size + 1, [.int .i64 3, .string (strS tn), .int .i64 (tm : Int)]), (w.heap.size, [.bool ab, .bool false, .int .i64 (lo : Int), .int .i64 (hi : Int)])] := by rw [← hx_]; exact (((OwnB.refl w).new #[.bool ab, .bool false, .int .i64 (lo : Int), .int .i64 (hi : Int)] _).new #[.int .i64 3, .string (strS tn), .int .i64 (tm : Int)] _ (g := w.heap.size + 1)).new #[.bool false, .bool false, .int .i64 0, .int .i64 0] _ (g := w.heap.size + 2)
      clear hx_
      have c0_0 : wo1.cell? ⟨w.heap.size + 2, 0, none⟩ = some (.bool false) := hO1.c 0 0
      have c0_1 : wo1.cell? ⟨w.heap.size + 2, 1, none⟩ = some (.bool false) := hO1.c 0 1
      have c0_2 : wo1.cell? ⟨w.heap.size + 2, 2, none⟩ = some (.int .i64 0) := hO1.c 0 2
      have c0_3 : wo1.cell? ⟨w.heap.size + 2, 3, none⟩ = some (.int .i64 0) := hO1.c 0 3
      have cf0 := hO1.fr 0
      have c1_0 : wo1.cell? ⟨w.heap.size + 1, 0, none⟩ = some (.int .i64 3) := hO1.c 1 0
      have c1_1 : wo1.cell? ⟨w.heap.size + 1, 1, none⟩ = some (.string (strS tn)) := hO1.c 1 1
      have c1_2 : wo1.cell? ⟨w.heap.size + 1, 2, none⟩ = some (.int .i64 (tm : Int)) := hO1.c 1 2
      have cf1 := hO1.fr 1
      have c2_0 : wo1.cell? ⟨w.heap.size, 0, none⟩ = some (.bool ab) := hO1.c 2 0
      have c2_1 : wo1.cell? ⟨w.heap.size, 1, none⟩ = some (.bool false) := hO1.c 2 1
      have c2_2 : wo1.cell? ⟨w.heap.size, 2, none⟩ = some (.int .i64 (lo : Int)) := hO1.c 2 2
      have c2_3 : wo1.cell? ⟨w.heap.size, 3, none⟩ = some (.int .i64 (hi : Int)) := hO1.c 2 3
      have cf2 := hO1.fr 2
      go_upto_region 4 with (fail)
      generalize hx_ : World.setCell _ _ _ = wo2
      have hO2 : OwnB w wo2 [(w.heap.size + 2, [.bool false, .bool false, .int .i64 0, .int .i64 0]), (w.heap.size + 1, [.int .i64 3, .string (strS tn), .int .i64 (tm : Int)]), (w.heap.size, [.bool false, .bool false, .int .i64 (lo : Int), .int .i64 (hi : Int)])] := by rw [← hx_]; exact hO1.store 2 rfl 0 _
      clear hx_ c0_0 c0_1 c0_2 c0_3 cf0 c1_0 c1_1 c1_2 cf1 c2_0 c2_1 c2_2 c2_3 cf2 hO1
      have c0_0 : wo2.cell? ⟨w.heap.size + 2, 0, none⟩ = some (.bool false) := hO2.c 0 0
      have c0_1 : wo2.cell? ⟨w.heap.size + 2, 1, none⟩ = some (.bool false) := hO2.c 0 1
      have c0_2 : wo2.cell? ⟨w.heap.size + 2, 2, none⟩ = some (.int .i64 0) := hO2.c 0 2
      have c0_3 : wo2.cell? ⟨w.heap.size + 2, 3, none⟩ = some (.int .i64 0) := hO2.c 0 3
      have cf0 := hO2.fr 0
      have c1_0 : wo2.cell? ⟨w.heap.size + 1, 0, none⟩ = some (.int .i64 3) := hO2.c 1 0
      have c1_1 : wo2.cell? ⟨w.heap.size + 1, 1, none⟩ = some (.string (strS tn)) := hO2.c 1 1
      have c1_2 : wo2.cell? ⟨w.heap.size + 1, 2, none⟩ = some (.int .i64 (tm : Int)) := hO2.c 1 2
      have cf1 := hO2.fr 1
      have c2_0 : wo2.cell? ⟨w.heap.size, 0, none⟩ = some (.bool false) := hO2.c 2 0
      have c2_1 : wo2.cell? ⟨w.heap.size, 1, none⟩ = some (.bool false) := hO2.c 2 1
      have c2_2 : wo2.cell? ⟨w.heap.size, 2, none⟩ = some (.int .i64 (lo : Int)) := hO2.c 2 2
      have c2_3 : wo2.cell? ⟨w.heap.size, 3, none⟩ = some (.int .i64 (hi : Int)) := hO2.c 2 3
      have cf2 := hO2.fr 2
      go_upto_region 5 with (fail)
      generalize hx_ : World.setCell _ _ _ = wo3
      have hO3 : OwnB w wo3 [(w.heap.size + 2, [.bool false, .bool false, .int .i64 0, .int .i64 0]), (w.heap.size + 1, [.int .i64 3, .string (strS tn), .int .i64 (tm : Int)]), (w.heap.size, [.bool false, .bool false, .int .i64 (lo : Int), .int .i64 (hi : Int)])] := by rw [← hx_]; exact hO2.store 2 rfl 1 _
      clear hx_ c0_0 c0_1 c0_2 c0_3 cf0 c1_0 c1_1 c1_2 cf1 c2_0 c2_1 c2_2 c2_3 cf2 hO2
      have c0_0 : wo3.cell? ⟨w.heap.size + 2, 0, none⟩ = some (.bool false) := hO3.c 0 0
      have c0_1 : wo3.cell? ⟨w.heap.size + 2, 1, none⟩ = some (.bool false) := hO3.c 0 1
      have c0_2 : wo3.cell? ⟨w.heap.size + 2, 2, none⟩ = some (.int .i64 0) := hO3.c 0 2
      have c0_3 : wo3.cell? ⟨w.heap.size + 2, 3, none⟩ = some (.int .i64 0) := hO3.c 0 3
      have cf0 := hO3.fr 0
      have c1_0 : wo3.cell? ⟨w.heap.size + 1, 0, none⟩ = some (.int .i64 3) := hO3.c 1 0
      have c1_1 : wo3.cell? ⟨w.heap.size + 1, 1, none⟩ = some (.string (strS tn)) := hO3.c 1 1
      have c1_2 : wo3.cell? ⟨w.heap.size + 1, 2, none⟩ = some (.int .i64 (tm : Int)) := hO3.c 1 2
      have cf1 := hO3.fr 1
      have c2_0 : wo3.cell? ⟨w.heap.size, 0, none⟩ = some (.bool false) := hO3.c 2 0
      have c2_1 : wo3.cell? ⟨w.heap.size, 1, none⟩ = some (.bool false) := hO3.c 2 1
      have c2_2 : wo3.cell? ⟨w.heap.size, 2, none⟩ = some (.int .i64 (lo : Int)) := hO3.c 2 2
      have c2_3 : wo3.cell? ⟨w.heap.size, 3, none⟩ = some (.int .i64 (hi : Int)) := hO3.c 2 3
      have cf2 := hO3.fr 2
      go_upto_region 7 with (fail)
      generalize hx_ : World.setCell _ _ _ = wo4
      have hO4 : OwnB w wo4 [(w.heap.size + 2, [.bool false, .bool false, .int .i64 0, .int .i64 0]), (w.heap.size + 1, [.int .i64 3, .string (strS tn), .int .i64 (tm : Int)]), (w.heap.size, [.bool false, .bool false, .int .i64 ((max lo tm : Nat) : Int), .int .i64 (hi : Int)])] := by rw [← hx_]; exact hO3.store 2 rfl 2 _
      clear hx_ c0_0 c0_1 c0_2 c0_3 cf0 c1_0 c1_1 c1_2 cf1 c2_0 c2_1 c2_2 c2_3 cf2 hO3
      have c0_0 : wo4.cell? ⟨w.heap.size + 2, 0, none⟩ = some (.bool false) := hO4.c 0 0
      have c0_1 : wo4.cell? ⟨w.heap.size + 2, 1, none⟩ = some (.bool false) := hO4.c 0 1
      have c0_2 : wo4.cell? ⟨w.heap.size + 2, 2, none⟩ = some (.int .i64 0) := hO4.c 0 2
      have c0_3 : wo4.cell? ⟨w.heap.size + 2, 3, none⟩ = some (.int .i64 0) := hO4.c 0 3
      have cf0 := hO4.fr 0
      have c1_0 : wo4.cell? ⟨w.heap.size + 1, 0, none⟩ = some (.int .i64 3) := hO4.c 1 0
      have c1_1 : wo4.cell? ⟨w.heap.size + 1, 1, none⟩ = some (.string (strS tn)) := hO4.c 1 1
      have c1_2 : wo4.cell? ⟨w.heap.size + 1, 2, none⟩ = some (.int .i64 (tm : Int)) := hO4.c 1 2
      have cf1 := hO4.fr 1
      have c2_0 : wo4.cell? ⟨w.heap.size, 0, none⟩ = some (.bool false) := hO4.c 2 0
      have c2_1 : wo4.cell? ⟨w.heap.size, 1, none⟩ = some (.bool false) := hO4.c 2 1
      have c2_2 : wo4.cell? ⟨w.heap.size, 2, none⟩ = some (.int .i64 ((max lo tm : Nat) : Int)) := hO4.c 2 2
      have c2_3 : wo4.cell? ⟨w.heap.size, 3, none⟩ = some (.int .i64 (hi : Int)) := hO4.c 2 3
      have cf2 := hO4.fr 2
      repeat' ((fail_if_success at_builtin); (first | go_skip | go_guarded | go_step))
      generalize hx_ : World.setCell (World.setCell (World.setCell (World.setCell _ _ _) _ _) _ _) _ _ = wo5
      have hO5 : OwnB w wo5 [(w.heap.size + 2, [.bool false, .bool false, .int .i64 ((max lo tm : Nat) : Int), .int .i64 (hi : Int)]), (w.heap.size + 1, [.int .i64 3, .string (strS tn), .int .i64 (tm : Int)]), (w.heap.size, [.bool false, .bool false, .int .i64 ((max lo tm : Nat) : Int), .int .i64 (hi : Int)])] := by rw [← hx_]; exact (((hO4.store 0 rfl 0 _).store 0 rfl 1 _).store 0 rfl 2 _).store 0 rfl 3 _
      clear hx_ c0_0 c0_1 c0_2 c0_3 cf0 c1_0 c1_1 c1_2 cf1 c2_0 c2_1 c2_2 c2_3 cf2 hO4
      have c0_0 : wo5.cell? ⟨w.heap.size + 2, 0, none⟩ = some (.bool false) := hO5.c 0 0
      have c0_1 : wo5.cell? ⟨w.heap.size + 2, 1, none⟩ = some (.bool false) := hO5.c 0 1
      have c0_2 : wo5.cell? ⟨w.heap.size + 2, 2, none⟩ = some (.int .i64 ((max lo tm : Nat) : Int)) := hO5.c 0 2
      have c0_3 : wo5.cell? ⟨w.heap.size + 2, 3, none⟩ = some (.int .i64 (hi : Int)) := hO5.c 0 3
      have cf0 := hO5.fr 0
      have c1_0 : wo5.cell? ⟨w.heap.size + 1, 0, none⟩ = some (.int .i64 3) := hO5.c 1 0
      have c1_1 : wo5.cell? ⟨w.heap.size + 1, 1, none⟩ = some (.string (strS tn)) := hO5.c 1 1
      have c1_2 : wo5.cell? ⟨w.heap.size + 1, 2, none⟩ = some (.int .i64 (tm : Int)) := hO5.c 1 2
      have cf1 := hO5.fr 1
      have c2_0 : wo5.cell? ⟨w.heap.size, 0, none⟩ = some (.bool false) := hO5.c 2 0
      have c2_1 : wo5.cell? ⟨w.heap.size, 1, none⟩ = some (.bool false) := hO5.c 2 1
      have c2_2 : wo5.cell? ⟨w.heap.size, 2, none⟩ = some (.int .i64 ((max lo tm : Nat) : Int)) := hO5.c 2 2
      have c2_3 : wo5.cell? ⟨w.heap.size, 3, none⟩ = some (.int .i64 (hi : Int)) := hO5.c 2 3
      have cf2 := hO5.fr 2
      have hb9 := hO5.below
      refine bodyPost_ret (v := .agg #[.bool false, .bool false, .int .i64 ((max lo tm : Nat) : Int), .int .i64 (hi : Int)]) (by simp only [results, Tryd.results51]; go_simp; first | done | exact ⟨rfl, rfl, rfl⟩ | rfl) rfl ?_
      exact ⟨rfl, hb9⟩
    · go_enter Tryd.func51, Tryd.ntmps51
      go_upto_region 1 with (fail)
      generalize hx_ : World.alloc (World.alloc (World.alloc w _) _) _ = wo1
      have hO1 : OwnB w wo1 [(w.heap.size + 2, [.bool false, .bool false, .int .i64 0, .int .i64 0]), (w.heap.size + 1, [.int .i64 3, .string (strS tn), .int .i64 (tm : Int)]), (w.heap.size, [.bool ab, .bool true, .int .i64 (lo : Int), .int .i64 (hi : Int)])] := by rw [← hx_]; exact (((OwnB.refl w).new #[.bool ab, .bool true, .int .i64 (lo : Int), .int .i64 (hi : Int)] _).new #[.int .i64 3, .string (strS tn), .int .i64 (tm : Int)] _ (g := w.heap.size + 1)).new #[.bool false, .bool false, .int .i64 0, .int .i64 0] _ (g := w.heap.size + 2)
      clear hx_
      have c0_0 : wo1.cell? ⟨w.heap.size + 2, 0, none⟩ = some (.bool false) := hO1.c 0 0
      have c0_1 : wo1.cell? ⟨w.heap.size + 2, 1, none⟩ = some (.bool false) := hO1.c 0 1
      have c0_2 : wo1.cell? ⟨w.heap.size + 2, 2, none⟩ = some (.int .i64 0) := hO1.c 0 2
      have c0_3 : wo1.cell? ⟨w.heap.size + 2, 3, none⟩ = some (.int .i64 0) := hO1.c 0 3
      have cf0 := hO1.fr 0
      have c1_0 : wo1.cell? ⟨w.heap.size + 1, 0, none⟩ = some (.int .i64 3) := hO1.c 1 0
      have c1_1 : wo1.cell? ⟨w.heap.size + 1, 1, none⟩ = some (.string (strS tn)) := hO1.c 1 1
      have c1_2 : wo1.cell? ⟨w.heap.size + 1, 2, none⟩ = some (.int .i64 (tm : Int)) := hO1.c 1 2
      have cf1 := hO1.fr 1
      have c2_0 : wo1.cell? ⟨w.heap.size, 0, none⟩ = some (.bool ab) := hO1.c 2 0
      have c2_1 : wo1.cell? ⟨w.heap.size, 1, none⟩ = some (.bool true) := hO1.c 2 1
      have c2_2 : wo1.cell? ⟨w.heap.size, 2, none⟩ = some (.int .i64 (lo : Int)) := hO1.c 2 2
      have c2_3 : wo1.cell? ⟨w.heap.size, 3, none⟩ = some (.int .i64 (hi : Int)) := hO1.c 2 3
      have cf2 := hO1.fr 2
      go_upto_region 4 with (fail)
      generalize hx_ : World.setCell _ _ _ = wo2
      have hO2 : OwnB w wo2 [(w.heap.size + 2, [.bool false, .bool false, .int .i64 0, .int .i64 0]), (w.heap.size + 1, [.int .i64 3, .string (strS tn), .int .i64 (tm : Int)]), (w.heap.size, [.bool false, .bool true, .int .i64 (lo : Int), .int .i64 (hi : Int)])] := by rw [← hx_]; exact hO1.store 2 rfl 0 _
      clear hx_ c0_0 c0_1 c0_2 c0_3 cf0 c1_0 c1_1 c1_2 cf1 c2_0 c2_1 c2_2 c2_3 cf2 hO1
      have c0_0 : wo2.cell? ⟨w.heap.size + 2, 0, none⟩ = some (.bool false) := hO2.c 0 0
      have c0_1 : wo2.cell? ⟨w.heap.size + 2, 1, none⟩ = some (.bool false) := hO2.c 0 1
      have c0_2 : wo2.cell? ⟨w.heap.size + 2, 2, none⟩ = some (.int .i64 0) := hO2.c 0 2
      have c0_3 : wo2.cell? ⟨w.heap.size + 2, 3, none⟩ = some (.int .i64 0) := hO2.c 0 3
      have cf0 := hO2.fr 0
      have c1_0 : wo2.cell? ⟨w.heap.size + 1, 0, none⟩ = some (.int .i64 3) := hO2.c 1 0
      have c1_1 : wo2.cell? ⟨w.heap.size + 1, 1, none⟩ = some (.string (strS tn)) := hO2.c 1 1
      have c1_2 : wo2.cell? ⟨w.heap.size + 1, 2, none⟩ = some (.int .i64 (tm : Int)) := hO2.c 1 2
      have cf1 := hO2.fr 1
      have c2_0 : wo2.cell? ⟨w.heap.size, 0, none⟩ = some (.bool false) := hO2.c 2 0
      have c2_1 : wo2.cell? ⟨w.heap.size, 1, none⟩ = some (.bool true) := hO2.c 2 1
      have c2_2 : wo2.cell? ⟨w.heap.size, 2, none⟩ = some (.int .i64 (lo : Int)) := hO2.c 2 2
      have c2_3 : wo2.cell? ⟨w.heap.size, 3, none⟩ = some (.int .i64 (hi : Int)) := hO2.c 2 3
      have cf2 := hO2.fr 2
      go_upto_region 5 with (fail)
      generalize hx_ : World.setCell _ _ _ = wo3
      have hO3 : OwnB w wo3 [(w.heap.size + 2, [.bool false, .bool false, .int .i64 0, .int .i64 0]), (w.heap.size + 1, [.int .i64 3, .string (strS tn), .int .i64 (tm : Int)]), (w.heap.size, [.bool false, .bool false, .int .i64 (lo : Int), .int .i64 (hi : Int)])] := by rw [← hx_]; exact hO2.store 2 rfl 1 _
      clear hx_ c0_0 c0_1 c0_2 c0_3 cf0 c1_0 c1_1 c1_2 cf1 c2_0 c2_1 c2_2 c2_3 cf2 hO2
      have c0_0 : wo3.cell? ⟨w.heap.size + 2, 0, none⟩ = some (.bool false) := hO3.c 0 0
      have c0_1 : wo3.cell? ⟨w.heap.size + 2, 1, none⟩ = some (.bool false) := hO3.c 0 1
      have c0_2 : wo3.cell? ⟨w.heap.size + 2, 2, none⟩ = some (.int .i64 0) := hO3.c 0 2
      have c0_3 : wo3.cell? ⟨w.heap.size + 2, 3, none⟩ = some (.int .i64 0) := hO3.c 0 3
      have cf0 := hO3.fr 0
      have c1_0 : wo3.cell? ⟨w.heap.size + 1, 0, none⟩ = some (.int .i64 3) := hO3.c 1 0
      have c1_1 : wo3.cell? ⟨w.heap.size + 1, 1, none⟩ = some (.string (strS tn)) := hO3.c 1 1
      have c1_2 : wo3.cell? ⟨w.heap.size + 1, 2, none⟩ = some (.int .i64 (tm : Int)) := hO3.c 1 2
      have cf1 := hO3.fr 1
      have c2_0 : wo3.cell? ⟨w.heap.size, 0, none⟩ = some (.bool false) := hO3.c 2 0
      have c2_1 : wo3.cell? ⟨w.heap.size, 1, none⟩ = some (.bool false) := hO3.c 2 1
      have c2_2 : wo3.cell? ⟨w.heap.size, 2, none⟩ = some (.int .i64 (lo : Int)) := hO3.c 2 2
      have c2_3 : wo3.cell? ⟨w.heap.size, 3, none⟩ = some (.int .i64 (hi : Int)) := hO3.c 2 3
      have cf2 := hO3.fr 2
      go_upto_region 7 with (fail)
      generalize hx_ : World.setCell _ _ _ = wo4
      have hO4 : OwnB w wo4 [(w.heap.size + 2, [.bool false, .bool false, .int .i64 0, .int .i64 0]), (w.heap.size + 1, [.int .i64 3, .string (strS tn), .int .i64 (tm : Int)]), (w.heap.size, [.bool false, .bool false, .int .i64 ((max lo tm : Nat) : Int), .int .i64 (hi : Int)])] := by rw [← hx_]; exact hO3.store 2 rfl 2 _
      clear hx_ c0_0 c0_1 c0_2 c0_3 cf0 c1_0 c1_1 c1_2 cf1 c2_0 c2_1 c2_2 c2_3 cf2 hO3
      have c0_0 : wo4.cell? ⟨w.heap.size + 2, 0, none⟩ = some (.bool false) := hO4.c 0 0
      have c0_1 : wo4.cell? ⟨w.heap.size + 2, 1, none⟩ = some (.bool false) := hO4.c 0 1
      have c0_2 : wo4.cell? ⟨w.heap.size + 2, 2, none⟩ = some (.int .i64 0) := hO4.c 0 2
      have c0_3 : wo4.cell? ⟨w.heap.size + 2, 3, none⟩ = some (.int .i64 0) := hO4.c 0 3
      have cf0 := hO4.fr 0
      have c1_0 : wo4.cell? ⟨w.heap.size + 1, 0, none⟩ = some (.int .i64 3) := hO4.c 1 0
      have c1_1 : wo4.cell? ⟨w.heap.size + 1, 1, none⟩ = some (.string (strS tn)) := hO4.c 1 1
      have c1_2 : wo4.cell? ⟨w.heap.size + 1, 2, none⟩ = some (.int .i64 (tm : Int)) := hO4.c 1 2
      have cf1 := hO4.fr 1
      have c2_0 : wo4.cell? ⟨w.heap.size, 0, none⟩ = some (.bool false) := hO4.c 2 0
      have c2_1 : wo4.cell? ⟨w.heap.size, 1, none⟩ = some (.bool false) := hO4.c 2 1
      have c2_2 : wo4.cell? ⟨w.heap.size, 2, none⟩ = some (.int .i64 ((max lo tm : Nat) : Int)) := hO4.c 2 2
      have c2_3 : wo4.cell? ⟨w.heap.size, 3, none⟩ = some (.int .i64 (hi : Int)) := hO4.c 2 3
      have cf2 := hO4.fr 2
      repeat' ((fail_if_success at_builtin); (first | go_skip | go_guarded | go_step))
      generalize hx_ : World.setCell (World.setCell (World.setCell (World.setCell _ _ _) _ _) _ _) _ _ = wo5
      have hO5 : OwnB w wo5 [(w.heap.size + 2, [.bool false, .bool false, .int .i64 ((max lo tm : Nat) : Int), .int .i64 (hi : Int)]), (w.heap.size + 1, [.int .i64 3, .string (strS tn), .int .i64 (tm : Int)]), (w.heap.size, [.bool false, .bool false, .int .i64 ((max lo tm : Nat) : Int), .int .i64 (hi : Int)])] := by rw [← hx_]; exact (((hO4.store 0 rfl 0 _).store 0 rfl 1 _).store 0 rfl 2 _).store 0 rfl 3 _
      clear hx_ c0_0 c0_1 c0_2 c0_3 cf0 c1_0 c1_1 c1_2 cf1 c2_0 c2_1 c2_2 c2_3 cf2 hO4
      have c0_0 : wo5.cell? ⟨w.heap.size + 2, 0, none⟩ = some (.bool false) := hO5.c 0 0
      have c0_1 : wo5.cell? ⟨w.heap.size + 2, 1, none⟩ = some (.bool false) := hO5.c 0 1
      have c0_2 : wo5.cell? ⟨w.heap.size + 2, 2, none⟩ = some (.int .i64 ((max lo tm : Nat) : Int)) := hO5.c 0 2
      have c0_3 : wo5.cell? ⟨w.heap.size + 2, 3, none⟩ = some (.int .i64 (hi : Int)) := hO5.c 0 3
      have cf0 := hO5.fr 0
      have c1_0 : wo5.cell? ⟨w.heap.size + 1, 0, none⟩ = some (.int .i64 3) := hO5.c 1 0
      have c1_1 : wo5.cell? ⟨w.heap.size + 1, 1, none⟩ = some (.string (strS tn)) := hO5.c 1 1
      have c1_2 : wo5.cell? ⟨w.heap.size + 1, 2, none⟩ = some (.int .i64 (tm : Int)) := hO5.c 1 2
      have cf1 := hO5.fr 1
      have c2_0 : wo5.cell? ⟨w.heap.size, 0, none⟩ = some (.bool false) := hO5.c 2 0
      have c2_1 : wo5.cell? ⟨w.heap.size, 1, none⟩ = some (.bool false) := hO5.c 2 1
      have c2_2 : wo5.cell? ⟨w.heap.size, 2, none⟩ = some (.int .i64 ((max lo tm : Nat) : Int)) := hO5.c 2 2
      have c2_3 : wo5.cell? ⟨w.heap.size, 3, none⟩ = some (.int .i64 (hi : Int)) := hO5.c 2 3
      have cf2 := hO5.fr 2
      have hb9 := hO5.below
      refine bodyPost_ret (v := .agg #[.bool false, .bool false, .int .i64 ((max lo tm : Nat) : Int), .int .i64 (hi : Int)]) (by simp only [results, Tryd.results51]; go_simp; first | done | exact ⟨rfl, rfl, rfl⟩ | rfl) rfl ?_
      exact ⟨rfl, hb9⟩
  · cases pl
    · go_enter Tryd.func51, Tryd.ntmps51
      go_upto_region 1 with (fail)
      generalize hx_ : World.alloc (World.alloc (World.alloc w _) _) _ = wo1
      have hO1 : OwnB w wo1 [(w.heap.size + 2, [.bool false, .bool false, .int .i64 0, .int .i64 0]), (w.heap.size + 1, [.int .i64 4, .string (strS tn), .int .i64 (tm : Int)]), (w.heap.size, [.bool ab, .bool false, .int .i64 (lo : Int), .int .i64 (hi : Int)])] := by rw [← hx_]; exact (((OwnB.refl w).new #[.bool ab, .bool false, .int .i64 (lo : Int), .int .i64 (hi : Int)] _).new #[.int .i64 4, .string (strS tn), .int .i64 (tm : Int)] _ (g := w.heap.size + 1)).new #[.bool false, .bool false, .int .i64 0, .int .i64 0] _ (g := w.heap.size + 2)
      clear hx_
      have c0_0 : wo1.cell? ⟨w.heap.size + 2, 0, none⟩ = some (.bool false) := hO1.c 0 0
      have c0_1 : wo1.cell? ⟨w.heap.size + 2, 1, none⟩ = some (.bool false) := hO1.c 0 1
      have c0_2 : wo1.cell? ⟨w.heap.size + 2, 2, none⟩ = some (.int .i64 0) := hO1.c 0 2
      have c0_3 : wo1.cell? ⟨w.heap.size + 2, 3, none⟩ = some (.int .i64 0) := hO1.c 0 3
      have cf0 := hO1.fr 0
      have c1_0 : wo1.cell? ⟨w.heap.size + 1, 0, none⟩ = some (.int .i64 4) := hO1.c 1 0
      have c1_1 : wo1.cell? ⟨w.heap.size + 1, 1, none⟩ = some (.string (strS tn)) := hO1.c 1 1
      have c1_2 : wo1.cell? ⟨w.heap.size + 1, 2, none⟩ = some (.int .i64 (tm : Int)) := hO1.c 1 2
      have cf1 := hO1.fr 1
      have c2_0 : wo1.cell? ⟨w.heap.size, 0, none⟩ = some (.bool ab) := hO1.c 2 0
      have c2_1 : wo1.cell? ⟨w.heap.size, 1, none⟩ = some (.bool false) := hO1.c 2 1
      have c2_2 : wo1.cell? ⟨w.heap.size, 2, none⟩ = some (.int .i64 (lo : Int)) := hO1.c 2 2
      have c2_3 : wo1.cell? ⟨w.heap.size, 3, none⟩ = some (.int .i64 (hi : Int)) := hO1.c 2 3
      have cf2 := hO1.fr 2
      go_upto_region 4 with (fail)
      generalize hx_ : World.setCell _ _ _ = wo2
      have hO2 : OwnB w wo2 [(w.heap.size + 2, [.bool false, .bool false, .int .i64 0, .int .i64 0]), (w.heap.size + 1, [.int .i64 4, .string (strS tn), .int .i64 (tm : Int)]), (w.heap.size, [.bool false, .bool false, .int .i64 (lo : Int), .int .i64 (hi : Int)])] := by rw [← hx_]; exact hO1.store 2 rfl 0 _
      clear hx_ c0_0 c0_1 c0_2 c0_3 cf0 c1_0 c1_1 c1_2 cf1 c2_0 c2_1 c2_2 c2_3 cf2 hO1
      have c0_0 : wo2.cell? ⟨w.heap.size + 2, 0, none⟩ = some (.bool false) := hO2.c 0 0
      have c0_1 : wo2.cell? ⟨w.heap.size + 2, 1, none⟩ = some (.bool false) := hO2.c 0 1
      have c0_2 : wo2.cell? ⟨w.heap.size + 2, 2, none⟩ = some (.int .i64 0) := hO2.c 0 2
      have c0_3 : wo2.cell? ⟨w.heap.size + 2, 3, none⟩ = some (.int .i64 0) := hO2.c 0 3
      have cf0 := hO2.fr 0
      have c1_0 : wo2.cell? ⟨w.heap.size + 1, 0, none⟩ = some (.int .i64 4) := hO2.c 1 0
      have c1_1 : wo2.cell? ⟨w.heap.size + 1, 1, none⟩ = some (.string (strS tn)) := hO2.c 1 1
      have c1_2 : wo2.cell? ⟨w.heap.size + 1, 2, none⟩ = some (.int .i64 (tm : Int)) := hO2.c 1 2
      have cf1 := hO2.fr 1
      have c2_0 : wo2.cell? ⟨w.heap.size, 0, none⟩ = some (.bool false) := hO2.c 2 0
      have c2_1 : wo2.cell? ⟨w.heap.size, 1, none⟩ = some (.bool false) := hO2.c 2 1
      have c2_2 : wo2.cell? ⟨w.heap.size, 2, none⟩ = some (.int .i64 (lo : Int)) := hO2.c 2 2
      have c2_3 : wo2.cell? ⟨w.heap.size, 3, none⟩ = some (.int .i64 (hi : Int)) := hO2.c 2 3
      have cf2 := hO2.fr 2
      go_upto_region 5 with (fail)
      generalize hx_ : World.setCell _ _ _ = wo3
      have hO3 : OwnB w wo3 [(w.heap.size + 2, [.bool false, .bool false, .int .i64 0, .int .i64 0]), (w.heap.size + 1, [.int .i64 4, .string (strS tn), .int .i64 (tm : Int)]), (w.heap.size, [.bool false, .bool false, .int .i64 (lo : Int), .int .i64 (hi : Int)])] := by rw [← hx_]; exact hO2.store 2 rfl 1 _
      clear hx_ c0_0 c0_1 c0_2 c0_3 cf0 c1_0 c1_1 c1_2 cf1 c2_0 c2_1 c2_2 c2_3 cf2 hO2
      have c0_0 : wo3.cell? ⟨w.heap.size + 2, 0, none⟩ = some (.bool false) := hO3.c 0 0
      have c0_1 : wo3.cell? ⟨w.heap.size + 2, 1, none⟩ = some (.bool false) := hO3.c 0 1
      have c0_2 : wo3.cell? ⟨w.heap.size + 2, 2, none⟩ = some (.int .i64 0) := hO3.c 0 2
      have c0_3 : wo3.cell? ⟨w.heap.size + 2, 3, none⟩ = some (.int .i64 0) := hO3.c 0 3
      have cf0 := hO3.fr 0
      have c1_0 : wo3.cell? ⟨w.heap.size + 1, 0, none⟩ = some (.int .i64 4) := hO3.c 1 0
      have c1_1 : wo3.cell? ⟨w.heap.size + 1, 1, none⟩ = some (.string (strS tn)) := hO3.c 1 1
      have c1_2 : wo3.cell? ⟨w.heap.size + 1, 2, none⟩ = some (.int .i64 (tm : Int)) := hO3.c 1 2
      have cf1 := hO3.fr 1
      have c2_0 : wo3.cell? ⟨w.heap.size, 0, none⟩ = some (.bool false) := hO3.c 2 0
      have c2_1 : wo3.cell? ⟨w.heap.size, 1, none⟩ = some (.bool false) := hO3.c 2 1
      have c2_2 : wo3.cell? ⟨w.heap.size, 2, none⟩ = some (.int .i64 (lo : Int)) := hO3.c 2 2
      have c2_3 : wo3.cell? ⟨w.heap.size, 3, none⟩ = some (.int .i64 (hi : Int)) := hO3.c 2 3
      have cf2 := hO3.fr 2
      go_upto_region 9 with (fail)
      generalize hx_ : World.setCell _ _ _ = wo4
      have hO4 : OwnB w wo4 [(w.heap.size + 2, [.bool false, .bool false, .int .i64 0, .int .i64 0]), (w.heap.size + 1, [.int .i64 4, .string (strS tn), .int .i64 (tm : Int)]), (w.heap.size, [.bool false, .bool false, .int .i64 (lo : Int), .int .i64 ((min hi tm : Nat) : Int)])] := by rw [← hx_]; exact hO3.store 2 rfl 3 _
      clear hx_ c0_0 c0_1 c0_2 c0_3 cf0 c1_0 c1_1 c1_2 cf1 c2_0 c2_1 c2_2 c2_3 cf2 hO3
      have c0_0 : wo4.cell? ⟨w.heap.size + 2, 0, none⟩ = some (.bool false) := hO4.c 0 0
      have c0_1 : wo4.cell? ⟨w.heap.size + 2, 1, none⟩ = some (.bool false) := hO4.c 0 1
      have c0_2 : wo4.cell? ⟨w.heap.size + 2, 2, none⟩ = some (.int .i64 0) := hO4.c 0 2
      have c0_3 : wo4.cell? ⟨w.heap.size + 2, 3, none⟩ = some (.int .i64 0) := hO4.c 0 3
      have cf0 := hO4.fr 0
      have c1_0 : wo4.cell? ⟨w.heap.size + 1, 0, none⟩ = some (.int .i64 4) := hO4.c 1 0
      have c1_1 : wo4.cell? ⟨w.heap.size + 1, 1, none⟩ = some (.string (strS tn)) := hO4.c 1 1
      have c1_2 : wo4.cell? ⟨w.heap.size + 1, 2, none⟩ = some (.int .i64 (tm : Int)) := hO4.c 1 2
      have cf1 := hO4.fr 1
      have c2_0 : wo4.cell? ⟨w.heap.size, 0, none⟩ = some (.bool false) := hO4.c 2 0
      have c2_1 : wo4.cell? ⟨w.heap.size, 1, none⟩ = some (.bool false) := hO4.c 2 1
      have c2_2 : wo4.cell? ⟨w.heap.size, 2, none⟩ = some (.int .i64 (lo : Int)) := hO4.c 2 2
      have c2_3 : wo4.cell? ⟨w.heap.size, 3, none⟩ = some (.int .i64 ((min hi tm : Nat) : Int)) := hO4.c 2 3
      have cf2 := hO4.fr 2
      repeat' ((fail_if_success at_builtin); (first | go_skip | go_guarded | go_step))
      generalize hx_ : World.setCell (World.setCell (World.setCell (World.setCell _ _ _) _ _) _ _) _ _ = wo5
      have hO5 : OwnB w wo5 [(w.heap.size + 2, [.bool false, .bool false, .int .i64 (lo : Int), .int .i64 ((min hi tm : Nat) : Int)]), (w.heap.size + 1, [.int .i64 4, .string (strS tn), .int .i64 (tm : Int)]), (w.heap.size, [.bool false, .bool false, .int .i64 (lo : Int), .int .i64 ((min hi tm : Nat) : Int)])] := by rw [← hx_]; exact (((hO4.store 0 rfl 0 _).store 0 rfl 1 _).store 0 rfl 2 _).store 0 rfl 3 _
      clear hx_ c0_0 c0_1 c0_2 c0_3 cf0 c1_0 c1_1 c1_2 cf1 c2_0 c2_1 c2_2 c2_3 cf2 hO4
      have c0_0 : wo5.cell? ⟨w.heap.size + 2, 0, none⟩ = some (.bool false) := hO5.c 0 0
      have c0_1 : wo5.cell? ⟨w.heap.size + 2, 1, none⟩ = some (.bool false) := hO5.c 0 1
      have c0_2 : wo5.cell? ⟨w.heap.size + 2, 2, none⟩ = some (.int .i64 (lo : Int)) := hO5.c 0 2
      have c0_3 : wo5.cell? ⟨w.heap.size + 2, 3, none⟩ = some (.int .i64 ((min hi tm : Nat) : Int)) := hO5.c 0 3
      have cf0 := hO5.fr 0
      have c1_0 : wo5.cell? ⟨w.heap.size + 1, 0, none⟩ = some (.int .i64 4) := hO5.c 1 0
      have c1_1 : wo5.cell? ⟨w.heap.size + 1, 1, none⟩ = some (.string (strS tn)) := hO5.c 1 1
      have c1_2 : wo5.cell? ⟨w.heap.size + 1, 2, none⟩ = some (.int .i64 (tm : Int)) := hO5.c 1 2
      have cf1 := hO5.fr 1
      have c2_0 : wo5.cell? ⟨w.heap.size, 0, none⟩ = some (.bool false) := hO5.c 2 0
      have c2_1 : wo5.cell? ⟨w.heap.size, 1, none⟩ = some (.bool false) := hO5.c 2 1
      have c2_2 : wo5.cell? ⟨w.heap.size, 2, none⟩ = some (.int .i64 (lo : Int)) := hO5.c 2 2
      have c2_3 : wo5.cell? ⟨w.heap.size, 3, none⟩ = some (.int .i64 ((min hi tm : Nat) : Int)) := hO5.c 2 3
      have cf2 := hO5.fr 2
      have hb9 := hO5.below
      refine bodyPost_ret (v := .agg #[.bool false, .bool false, .int .i64 (lo : Int), .int .i64 ((min hi tm : Nat) : Int)]) (by simp only [results, Tryd.results51]; go_simp; first | done | exact ⟨rfl, rfl, rfl⟩ | rfl) rfl ?_
      exact ⟨rfl, hb9⟩
    · go_enter Tryd.func51, Tryd.ntmps51
      go_upto_region 1 with (fail)
      generalize hx_ : World.alloc (World.alloc (World.alloc w _) _) _ = wo1
      have hO1 : OwnB w wo1 [(w.heap.size + 2, [.bool false, .bool false, .int .i64 0, .int .i64 0]), (w.heap.size + 1, [.int .i64 4, .string (strS tn), .int .i64 (tm : Int)]), (w.heap.size, [.bool ab, .bool true, .int .i64 (lo : Int), .int .i64 (hi : Int)])] := by rw [← hx_]; exact (((OwnB.refl w).new #[.bool ab, .bool true, .int .i64 (lo : Int), .int .i64 (hi : Int)] _).new #[.int .i64 4, .string (strS tn), .int .i64 (tm : Int)] _ (g := w.heap.size + 1)).new #[.bool false, .bool false, .int .i64 0, .int .i64 0] _ (g := w.heap.size + 2)
      clear hx_
      have c0_0 : wo1.cell? ⟨w.heap.size + 2, 0, none⟩ = some (.bool false) := hO1.c 0 0
      have c0_1 : wo1.cell? ⟨w.heap.size + 2, 1, none⟩ = some (.bool false) := hO1.c 0 1
      have c0_2 : wo1.cell? ⟨w.heap.size + 2, 2, none⟩ = some (.int .i64 0) := hO1.c 0 2
      have c0_3 : wo1.cell? ⟨w.heap.size + 2, 3, none⟩ = some (.int .i64 0) := hO1.c 0 3
      have cf0 := hO1.fr 0
      have c1_0 : wo1.cell? ⟨w.heap.size + 1, 0, none⟩ = some (.int .i64 4) := hO1.c 1 0
      have c1_1 : wo1.cell? ⟨w.heap.size + 1, 1, none⟩ = some (.string (strS tn)) := hO1.c 1 1
      have c1_2 : wo1.cell? ⟨w.heap.size + 1, 2, none⟩ = some (.int .i64 (tm : Int)) := hO1.c 1 2
      have cf1 := hO1.fr 1
      have c2_0 : wo1.cell? ⟨w.heap.size, 0, none⟩ = some (.bool ab) := hO1.c 2 0
      have c2_1 : wo1.cell? ⟨w.heap.size, 1, none⟩ = some (.bool true) := hO1.c 2 1
      have c2_2 : wo1.cell? ⟨w.heap.size, 2, none⟩ = some (.int .i64 (lo : Int)) := hO1.c 2 2
      have c2_3 : wo1.cell? ⟨w.heap.size, 3, none⟩ = some (.int .i64 (hi : Int)) := hO1.c 2 3
      have cf2 := hO1.fr 2
      go_upto_region 4 with (fail)
      generalize hx_ : World.setCell _ _ _ = wo2
      have hO2 : OwnB w wo2 [(w.heap.size + 2, [.bool false, .bool false, .int .i64 0, .int .i64 0]), (w.heap.size + 1, [.int .i64 4, .string (strS tn), .int .i64 (tm : Int)]), (w.heap.size, [.bool false, .bool true, .int .i64 (lo : Int), .int .i64 (hi : Int)])] := by rw [← hx_]; exact hO1.store 2 rfl 0 _
      clear hx_ c0_0 c0_1 c0_2 c0_3 cf0 c1_0 c1_1 c1_2 cf1 c2_0 c2_1 c2_2 c2_3 cf2 hO1
      have c0_0 : wo2.cell? ⟨w.heap.size + 2, 0, none⟩ = some (.bool false) := hO2.c 0 0
      have c0_1 : wo2.cell? ⟨w.heap.size + 2, 1, none⟩ = some (.bool false) := hO2.c 0 1
      have c0_2 : wo2.cell? ⟨w.heap.size + 2, 2, none⟩ = some (.int .i64 0) := hO2.c 0 2
      have c0_3 : wo2.cell? ⟨w.heap.size + 2, 3, none⟩ = some (.int .i64 0) := hO2.c 0 3
      have cf0 := hO2.fr 0
      have c1_0 : wo2.cell? ⟨w.heap.size + 1, 0, none⟩ = some (.int .i64 4) := hO2.c 1 0
      have c1_1 : wo2.cell? ⟨w.heap.size + 1, 1, none⟩ = some (.string (strS tn)) := hO2.c 1 1
      have c1_2 : wo2.cell? ⟨w.heap.size + 1, 2, none⟩ = some (.int .i64 (tm : Int)) := hO2.c 1 2
      have cf1 := hO2.fr 1
      have c2_0 : wo2.cell? ⟨w.heap.size, 0, none⟩ = some (.bool false) := hO2.c 2 0
      have c2_1 : wo2.cell? ⟨w.heap.size, 1, none⟩ = some (.bool true) := hO2.c 2 1
      have c2_2 : wo2.cell? ⟨w.heap.size, 2, none⟩ = some (.int .i64 (lo : Int)) := hO2.c 2 2
      have c2_3 : wo2.cell? ⟨w.heap.size, 3, none⟩ = some (.int .i64 (hi : Int)) := hO2.c 2 3
      have cf2 := hO2.fr 2
      go_upto_region 5 with (fail)
      generalize hx_ : World.setCell _ _ _ = wo3
      have hO3 : OwnB w wo3 [(w.heap.size + 2, [.bool false, .bool false, .int .i64 0, .int .i64 0]), (w.heap.size + 1, [.int .i64 4, .string (strS tn), .int .i64 (tm : Int)]), (w.heap.size, [.bool false, .bool false, .int .i64 (lo : Int), .int .i64 (hi : Int)])] := by rw [← hx_]; exact hO2.store 2 rfl 1 _
      clear hx_ c0_0 c0_1 c0_2 c0_3 cf0 c1_0 c1_1 c1_2 cf1 c2_0 c2_1 c2_2 c2_3 cf2 hO2
      have c0_0 : wo3.cell? ⟨w.heap.size + 2, 0, none⟩ = some (.bool false) := hO3.c 0 0
      have c0_1 : wo3.cell? ⟨w.heap.size + 2, 1, none⟩ = some (.bool false) := hO3.c 0 1
      have c0_2 : wo3.cell? ⟨w.heap.size + 2, 2, none⟩ = some (.int .i64 0) := hO3.c 0 2
      have c0_3 : wo3.cell? ⟨w.heap.size + 2, 3, none⟩ = some (.int .i64 0) := hO3.c 0 3
      have cf0 := hO3.fr 0
      have c1_0 : wo3.cell? ⟨w.heap.size + 1, 0, none⟩ = some (.int .i64 4) := hO3.c 1 0
      have c1_1 : wo3.cell? ⟨w.heap.size + 1, 1, none⟩ = some (.string (strS tn)) := hO3.c 1 1
      have c1_2 : wo3.cell? ⟨w.heap.size + 1, 2, none⟩ = some (.int .i64 (tm : Int)) := hO3.c 1 2
      have cf1 := hO3.fr 1
      have c2_0 : wo3.cell? ⟨w.heap.size, 0, none⟩ = some (.bool false) := hO3.c 2 0
      have c2_1 : wo3.cell? ⟨w.heap.size, 1, none⟩ = some (.bool false) := hO3.c 2 1
      have c2_2 : wo3.cell? ⟨w.heap.size, 2, none⟩ = some (.int .i64 (lo : Int)) := hO3.c 2 2
      have c2_3 : wo3.cell? ⟨w.heap.size, 3, none⟩ = some (.int .i64 (hi : Int)) := hO3.c 2 3
      have cf2 := hO3.fr 2
      go_upto_region 9 with (fail)
      generalize hx_ : World.setCell _ _ _ = wo4
      have hO4 : OwnB w wo4 [(w.heap.size + 2, [.bool false, .bool false, .int .i64 0, .int .i64 0]), (w.heap.size + 1, [.int .i64 4, .string (strS tn), .int .i64 (tm : Int)]), (w.heap.size, [.bool false, .bool false, .int .i64 (lo : Int), .int .i64 ((min hi tm : Nat) : Int)])] := by rw [← hx_]; exact hO3.store 2 rfl 3 _
      clear hx_ c0_0 c0_1 c0_2 c0_3 cf0 c1_0 c1_1 c1_2 cf1 c2_0 c2_1 c2_2 c2_3 cf2 hO3
      have c0_0 : wo4.cell? ⟨w.heap.size + 2, 0, none⟩ = some (.bool false) := hO4.c 0 0
      have c0_1 : wo4.cell? ⟨w.heap.size + 2, 1, none⟩ = some (.bool false) := hO4.c 0 1
      have c0_2 : wo4.cell? ⟨w.heap.size + 2, 2, none⟩ = some (.int .i64 0) := hO4.c 0 2
      have c0_3 : wo4.cell? ⟨w.heap.size + 2, 3, none⟩ = some (.int .i64 0) := hO4.c 0 3
      have cf0 := hO4.fr 0
      have c1_0 : wo4.cell? ⟨w.heap.size + 1, 0, none⟩ = some (.int .i64 4) := hO4.c 1 0
      have c1_1 : wo4.cell? ⟨w.heap.size + 1, 1, none⟩ = some (.string (strS tn)) := hO4.c 1 1
      have c1_2 : wo4.cell? ⟨w.heap.size + 1, 2, none⟩ = some (.int .i64 (tm : Int)) := hO4.c 1 2
      have cf1 := hO4.fr 1
      have c2_0 : wo4.cell? ⟨w.heap.size, 0, none⟩ = some (.bool false) := hO4.c 2 0
      have c2_1 : wo4.cell? ⟨w.heap.size, 1, none⟩ = some (.bool false) := hO4.c 2 1
      have c2_2 : wo4.cell? ⟨w.heap.size, 2, none⟩ = some (.int .i64 (lo : Int)) := hO4.c 2 2
      have c2_3 : wo4.cell? ⟨w.heap.size, 3, none⟩ = some (.int .i64 ((min hi tm : Nat) : Int)) := hO4.c 2 3
      have cf2 := hO4.fr 2
      repeat' ((fail_if_success at_builtin); (first | go_skip | go_guarded | go_step))
      generalize hx_ : World.setCell (World.setCell (World.setCell (World.setCell _ _ _) _ _) _ _) _ _ = wo5
      have hO5 : OwnB w wo5 [(w.heap.size + 2, [.bool false, .bool false, .int .i64 (lo : Int), .int .i64 ((min hi tm : Nat) : Int)]), (w.heap.size + 1, [.int .i64 4, .string (strS tn), .int .i64 (tm : Int)]), (w.heap.size, [.bool false, .bool false, .int .i64 (lo : Int), .int .i64 ((min hi tm : Nat) : Int)])] := by rw [← hx_]; exact (((hO4.store 0 rfl 0 _).store 0 rfl 1 _).store 0 rfl 2 _).store 0 rfl 3 _
      clear hx_ c0_0 c0_1 c0_2 c0_3 cf0 c1_0 c1_1 c1_2 cf1 c2_0 c2_1 c2_2 c2_3 cf2 hO4
      have c0_0 : wo5.cell? ⟨w.heap.size + 2, 0, none⟩ = some (.bool false) := hO5.c 0 0
      have c0_1 : wo5.cell? ⟨w.heap.size + 2, 1, none⟩ = some (.bool false) := hO5.c 0 1
      have c0_2 : wo5.cell? ⟨w.heap.size + 2, 2, none⟩ = some (.int .i64 (lo : Int)) := hO5.c 0 2
      have c0_3 : wo5.cell? ⟨w.heap.size + 2, 3, none⟩ = some (.int .i64 ((min hi tm : Nat) : Int)) := hO5.c 0 3
      have cf0 := hO5.fr 0
      have c1_0 : wo5.cell? ⟨w.heap.size + 1, 0, none⟩ = some (.int .i64 4) := hO5.c 1 0
      have c1_1 : wo5.cell? ⟨w.heap.size + 1, 1, none⟩ = some (.string (strS tn)) := hO5.c 1 1
      have c1_2 : wo5.cell? ⟨w.heap.size + 1, 2, none⟩ = some (.int .i64 (tm : Int)) := hO5.c 1 2
      have cf1 := hO5.fr 1
      have c2_0 : wo5.cell? ⟨w.heap.size, 0, none⟩ = some (.bool false) := hO5.c 2 0
      have c2_1 : wo5.cell? ⟨w.heap.size, 1, none⟩ = some (.bool false) := hO5.c 2 1
      have c2_2 : wo5.cell? ⟨w.heap.size, 2, none⟩ = some (.int .i64 (lo : Int)) := hO5.c 2 2
      have c2_3 : wo5.cell? ⟨w.heap.size, 3, none⟩ = some (.int .i64 ((min hi tm : Nat) : Int)) := hO5.c 2 3
      have cf2 := hO5.fr 2
      have hb9 := hO5.below
      refine bodyPost_ret (v := .agg #[.bool false, .bool false, .int .i64 (lo : Int), .int .i64 ((min hi tm : Nat) : Int)]) (by simp only [results, Tryd.results51]; go_simp; first | done | exact ⟨rfl, rfl, rfl⟩ | rfl) rfl ?_
      exact ⟨rfl, hb9⟩
  · cases pl
    · go_enter Tryd.func51, Tryd.ntmps51
      go_upto_region 1 with (fail)
      generalize hx_ : World.alloc (World.alloc (World.alloc w _) _) _ = wo1
      have hO1 : OwnB w wo1 [(w.heap.size + 2, [.bool false, .bool false, .int .i64 0, .int .i64 0]), (w.heap.size + 1, [.int .i64 5, .string (strS tn), .int .i64 (tm : Int)]), (w.heap.size, [.bool ab, .bool false, .int .i64 (lo : Int), .int .i64 (hi : Int)])] := by rw [← hx_]; exact (((OwnB.refl w).new #[.bool ab, .bool false, .int .i64 (lo : Int), .int .i64 (hi : Int)] _).new #[.int .i64 5, .string (strS tn), .int .i64 (tm : Int)] _ (g := w.heap.size + 1)).new #[.bool false, .bool false, .int .i64 0, .int .i64 0] _ (g := w.heap.size + 2)
      clear hx_
      have c0_0 : wo1.cell? ⟨w.heap.size + 2, 0, none⟩ = some (.bool false) := hO1.c 0 0
      have c0_1 : wo1.cell? ⟨w.heap.size + 2, 1, none⟩ = some (.bool false) := hO1.c 0 1
      have c0_2 : wo1.cell? ⟨w.heap.size + 2, 2, none⟩ = some (.int .i64 0) := hO1.c 0 2
      have c0_3 : wo1.cell? ⟨w.heap.size + 2, 3, none⟩ = some (.int .i64 0) := hO1.c 0 3
      have cf0 := hO1.fr 0
      have c1_0 : wo1.cell? ⟨w.heap.size + 1, 0, none⟩ = some (.int .i64 5) := hO1.c 1 0
      have c1_1 : wo1.cell? ⟨w.heap.size + 1, 1, none⟩ = some (.string (strS tn)) := hO1.c 1 1
      have c1_2 : wo1.cell? ⟨w.heap.size + 1, 2, none⟩ = some (.int .i64 (tm : Int)) := hO1.c 1 2
      have cf1 := hO1.fr 1
      have c2_0 : wo1.cell? ⟨w.heap.size, 0, none⟩ = some (.bool ab) := hO1.c 2 0
      have c2_1 : wo1.cell? ⟨w.heap.size, 1, none⟩ = some (.bool false) := hO1.c 2 1
      have c2_2 : wo1.cell? ⟨w.heap.size, 2, none⟩ = some (.int .i64 (lo : Int)) := hO1.c 2 2
      have c2_3 : wo1.cell? ⟨w.heap.size, 3, none⟩ = some (.int .i64 (hi : Int)) := hO1.c 2 3
      have cf2 := hO1.fr 2
      go_upto_region 4 with (fail)
      generalize hx_ : World.setCell _ _ _ = wo2
      have hO2 : OwnB w wo2 [(w.heap.size + 2, [.bool false, .bool false, .int .i64 0, .int .i64 0]), (w.heap.size + 1, [.int .i64 5, .string (strS tn), .int .i64 (tm : Int)]), (w.heap.size, [.bool false, .bool false, .int .i64 (lo : Int), .int .i64 (hi : Int)])] := by rw [← hx_]; exact hO1.store 2 rfl 0 _
      clear hx_ c0_0 c0_1 c0_2 c0_3 cf0 c1_0 c1_1 c1_2 cf1 c2_0 c2_1 c2_2 c2_3 cf2 hO1
      have c0_0 : wo2.cell? ⟨w.heap.size + 2, 0, none⟩ = some (.bool false) := hO2.c 0 0
      have c0_1 : wo2.cell? ⟨w.heap.size + 2, 1, none⟩ = some (.bool false) := hO2.c 0 1
      have c0_2 : wo2.cell? ⟨w.heap.size + 2, 2, none⟩ = some (.int .i64 0) := hO2.c 0 2
      have c0_3 : wo2.cell? ⟨w.heap.size + 2, 3, none⟩ = some (.int .i64 0) := hO2.c 0 3
      have cf0 := hO2.fr 0
      have c1_0 : wo2.cell? ⟨w.heap.size + 1, 0, none⟩ = some (.int .i64 5) := hO2.c 1 0
      have c1_1 : wo2.cell? ⟨w.heap.size + 1, 1, none⟩ = some (.string (strS tn)) := hO2.c 1 1
      have c1_2 : wo2.cell? ⟨w.heap.size + 1, 2, none⟩ = some (.int .i64 (tm : Int)) := hO2.c 1 2
      have cf1 := hO2.fr 1
      have c2_0 : wo2.cell? ⟨w.heap.size, 0, none⟩ = some (.bool false) := hO2.c 2 0
      have c2_1 : wo2.cell? ⟨w.heap.size, 1, none⟩ = some (.bool false) := hO2.c 2 1
      have c2_2 : wo2.cell? ⟨w.heap.size, 2, none⟩ = some (.int .i64 (lo : Int)) := hO2.c 2 2
      have c2_3 : wo2.cell? ⟨w.heap.size, 3, none⟩ = some (.int .i64 (hi : Int)) := hO2.c 2 3
      have cf2 := hO2.fr 2
      go_upto_region 5 with (fail)
      generalize hx_ : World.setCell _ _ _ = wo3
      have hO3 : OwnB w wo3 [(w.heap.size + 2, [.bool false, .bool false, .int .i64 0, .int .i64 0]), (w.heap.size + 1, [.int .i64 5, .string (strS tn), .int .i64 (tm : Int)]), (w.heap.size, [.bool false, .bool false, .int .i64 (lo : Int), .int .i64 (hi : Int)])] := by rw [← hx_]; exact hO2.store 2 rfl 1 _
      clear hx_ c0_0 c0_1 c0_2 c0_3 cf0 c1_0 c1_1 c1_2 cf1 c2_0 c2_1 c2_2 c2_3 cf2 hO2
      have c0_0 : wo3.cell? ⟨w.heap.size + 2, 0, none⟩ = some (.bool false) := hO3.c 0 0
      have c0_1 : wo3.cell? ⟨w.heap.size + 2, 1, none⟩ = some (.bool false) := hO3.c 0 1
      have c0_2 : wo3.cell? ⟨w.heap.size + 2, 2, none⟩ = some (.int .i64 0) := hO3.c 0 2
      have c0_3 : wo3.cell? ⟨w.heap.size + 2, 3, none⟩ = some (.int .i64 0) := hO3.c 0 3
      have cf0 := hO3.fr 0
      have c1_0 : wo3.cell? ⟨w.heap.size + 1, 0, none⟩ = some (.int .i64 5) := hO3.c 1 0
      have c1_1 : wo3.cell? ⟨w.heap.size + 1, 1, none⟩ = some (.string (strS tn)) := hO3.c 1 1
      have c1_2 : wo3.cell? ⟨w.heap.size + 1, 2, none⟩ = some (.int .i64 (tm : Int)) := hO3.c 1 2
      have cf1 := hO3.fr 1
      have c2_0 : wo3.cell? ⟨w.heap.size, 0, none⟩ = some (.bool false) := hO3.c 2 0
      have c2_1 : wo3.cell? ⟨w.heap.size, 1, none⟩ = some (.bool false) := hO3.c 2 1
      have c2_2 : wo3.cell? ⟨w.heap.size, 2, none⟩ = some (.int .i64 (lo : Int)) := hO3.c 2 2
      have c2_3 : wo3.cell? ⟨w.heap.size, 3, none⟩ = some (.int .i64 (hi : Int)) := hO3.c 2 3
      have cf2 := hO3.fr 2
      go_upto_region 7 with (fail)
      generalize hx_ : World.setCell _ _ _ = wo4
      have hO4 : OwnB w wo4 [(w.heap.size + 2, [.bool false, .bool false, .int .i64 0, .int .i64 0]), (w.heap.size + 1, [.int .i64 5, .string (strS tn), .int .i64 (tm : Int)]), (w.heap.size, [.bool false, .bool false, .int .i64 ((max lo tm : Nat) : Int), .int .i64 (hi : Int)])] := by rw [← hx_]; exact hO3.store 2 rfl 2 _
      clear hx_ c0_0 c0_1 c0_2 c0_3 cf0 c1_0 c1_1 c1_2 cf1 c2_0 c2_1 c2_2 c2_3 cf2 hO3
      have c0_0 : wo4.cell? ⟨w.heap.size + 2, 0, none⟩ = some (.bool false) := hO4.c 0 0
      have c0_1 : wo4.cell? ⟨w.heap.size + 2, 1, none⟩ = some (.bool false) := hO4.c 0 1
      have c0_2 : wo4.cell? ⟨w.heap.size + 2, 2, none⟩ = some (.int .i64 0) := hO4.c 0 2
      have c0_3 : wo4.cell? ⟨w.heap.size + 2, 3, none⟩ = some (.int .i64 0) := hO4.c 0 3
      have cf0 := hO4.fr 0
      have c1_0 : wo4.cell? ⟨w.heap.size + 1, 0, none⟩ = some (.int .i64 5) := hO4.c 1 0
      have c1_1 : wo4.cell? ⟨w.heap.size + 1, 1, none⟩ = some (.string (strS tn)) := hO4.c 1 1
      have c1_2 : wo4.cell? ⟨w.heap.size + 1, 2, none⟩ = some (.int .i64 (tm : Int)) := hO4.c 1 2
      have cf1 := hO4.fr 1
      have c2_0 : wo4.cell? ⟨w.heap.size, 0, none⟩ = some (.bool false) := hO4.c 2 0
      have c2_1 : wo4.cell? ⟨w.heap.size, 1, none⟩ = some (.bool false) := hO4.c 2 1
      have c2_2 : wo4.cell? ⟨w.heap.size, 2, none⟩ = some (.int .i64 ((max lo tm : Nat) : Int)) := hO4.c 2 2
      have c2_3 : wo4.cell? ⟨w.heap.size, 3, none⟩ = some (.int .i64 (hi : Int)) := hO4.c 2 3
      have cf2 := hO4.fr 2
      go_upto_region 9 with (fail)
      generalize hx_ : World.setCell _ _ _ = wo5
      have hO5 : OwnB w wo5 [(w.heap.size + 2, [.bool false, .bool false, .int .i64 0, .int .i64 0]), (w.heap.size + 1, [.int .i64 5, .string (strS tn), .int .i64 (tm : Int)]), (w.heap.size, [.bool false, .bool false, .int .i64 ((max lo tm : Nat) : Int), .int .i64 ((min hi tm : Nat) : Int)])] := by rw [← hx_]; exact hO4.store 2 rfl 3 _
      clear hx_ c0_0 c0_1 c0_2 c0_3 cf0 c1_0 c1_1 c1_2 cf1 c2_0 c2_1 c2_2 c2_3 cf2 hO4
      have c0_0 : wo5.cell? ⟨w.heap.size + 2, 0, none⟩ = some (.bool false) := hO5.c 0 0
      have c0_1 : wo5.cell? ⟨w.heap.size + 2, 1, none⟩ = some (.bool false) := hO5.c 0 1
      have c0_2 : wo5.cell? ⟨w.heap.size + 2, 2, none⟩ = some (.int .i64 0) := hO5.c 0 2
      have c0_3 : wo5.cell? ⟨w.heap.size + 2, 3, none⟩ = some (.int .i64 0) := hO5.c 0 3
      have cf0 := hO5.fr 0
      have c1_0 : wo5.cell? ⟨w.heap.size + 1, 0, none⟩ = some (.int .i64 5) := hO5.c 1 0
      have c1_1 : wo5.cell? ⟨w.heap.size + 1, 1, none⟩ = some (.string (strS tn)) := hO5.c 1 1
      have c1_2 : wo5.cell? ⟨w.heap.size + 1, 2, none⟩ = some (.int .i64 (tm : Int)) := hO5.c 1 2
      have cf1 := hO5.fr 1
      have c2_0 : wo5.cell? ⟨w.heap.size, 0, none⟩ = some (.bool false) := hO5.c 2 0
      have c2_1 : wo5.cell? ⟨w.heap.size, 1, none⟩ = some (.bool false) := hO5.c 2 1
      have c2_2 : wo5.cell? ⟨w.heap.size, 2, none⟩ = some (.int .i64 ((max lo tm : Nat) : Int)) := hO5.c 2 2
      have c2_3 : wo5.cell? ⟨w.heap.size, 3, none⟩ = some (.int .i64 ((min hi tm : Nat) : Int)) := hO5.c 2 3
      have cf2 := hO5.fr 2
      repeat' ((fail_if_success at_builtin); (first | go_skip | go_guarded | go_step))
      generalize hx_ : World.setCell (World.setCell (World.setCell (World.setCell _ _ _) _ _) _ _) _ _ = wo6
      have hO6 : OwnB w wo6 [(w.heap.size + 2, [.bool false, .bool false, .int .i64 ((max lo tm : Nat) : Int), .int .i64 ((min hi tm : Nat) : Int)]), (w.heap.size + 1, [.int .i64 5, .string (strS tn), .int .i64 (tm : Int)]), (w.heap.size, [.bool false, .bool false, .int .i64 ((max lo tm : Nat) : Int), .int .i64 ((min hi tm : Nat) : Int)])] := by rw [← hx_]; exact (((hO5.store 0 rfl 0 _).store 0 rfl 1 _).store 0 rfl 2 _).store 0 rfl 3 _
      clear hx_ c0_0 c0_1 c0_2 c0_3 cf0 c1_0 c1_1 c1_2 cf1 c2_0 c2_1 c2_2 c2_3 cf2 hO5
      have c0_0 : wo6.cell? ⟨w.heap.size + 2, 0, none⟩ = some (.bool false) := hO6.c 0 0
      have c0_1 : wo6.cell? ⟨w.heap.size + 2, 1, none⟩ = some (.bool false) := hO6.c 0 1
      have c0_2 : wo6.cell? ⟨w.heap.size + 2, 2, none⟩ = some (.int .i64 ((max lo tm : Nat) : Int)) := hO6.c 0 2
      have c0_3 : wo6.cell? ⟨w.heap.size + 2, 3, none⟩ = some (.int .i64 ((min hi tm : Nat) : Int)) := hO6.c 0 3
      have cf0 := hO6.fr 0
      have c1_0 : wo6.cell? ⟨w.heap.size + 1, 0, none⟩ = some (.int .i64 5) := hO6.c 1 0
      have c1_1 : wo6.cell? ⟨w.heap.size + 1, 1, none⟩ = some (.string (strS tn)) := hO6.c 1 1
      have c1_2 : wo6.cell? ⟨w.heap.size + 1, 2, none⟩ = some (.int .i64 (tm : Int)) := hO6.c 1 2
      have cf1 := hO6.fr 1
      have c2_0 : wo6.cell? ⟨w.heap.size, 0, none⟩ = some (.bool false) := hO6.c 2 0
      have c2_1 : wo6.cell? ⟨w.heap.size, 1, none⟩ = some (.bool false) := hO6.c 2 1
      have c2_2 : wo6.cell? ⟨w.heap.size, 2, none⟩ = some (.int .i64 ((max lo tm : Nat) : Int)) := hO6.c 2 2
      have c2_3 : wo6.cell? ⟨w.heap.size, 3, none⟩ = some (.int .i64 ((min hi tm : Nat) : Int)) := hO6.c 2 3
      have cf2 := hO6.fr 2
      have hb9 := hO6.below
      refine bodyPost_ret (v := .agg #[.bool false, .bool false, .int .i64 ((max lo tm : Nat) : Int), .int .i64 ((min hi tm : Nat) : Int)]) (by simp only [results, Tryd.results51]; go_simp; first | done | exact ⟨rfl, rfl, rfl⟩ | rfl) rfl ?_
      exact ⟨rfl, hb9⟩
    · go_enter Tryd.func51, Tryd.ntmps51
      go_upto_region 1 with (fail)
      generalize hx_ : World.alloc (World.alloc (World.alloc w _) _) _ = wo1
      have hO1 : OwnB w wo1 [(w.heap.size + 2, [.bool false, .bool false, .int .i64 0, .int .i64 0]), (w.heap.size + 1, [.int .i64 5, .string (strS tn), .int .i64 (tm : Int)]), (w.heap.size, [.bool ab, .bool true, .int .i64 (lo : Int), .int .i64 (hi : Int)])] := by rw [← hx_]; exact (((OwnB.refl w).new #[.bool ab, .bool true, .int .i64 (lo : Int), .int .i64 (hi : Int)] _).new #[.int .i64 5, .string (strS tn), .int .i64 (tm : Int)] _ (g := w.heap.size + 1)).new #[.bool false, .bool false, .int .i64 0, .int .i64 0] _ (g := w.heap.size + 2)
      clear hx_
      have c0_0 : wo1.cell? ⟨w.heap.size + 2, 0, none⟩ = some (.bool false) := hO1.c 0 0
      have c0_1 : wo1.cell? ⟨w.heap.size + 2, 1, none⟩ = some (.bool false) := hO1.c 0 1
      have c0_2 : wo1.cell? ⟨w.heap.size + 2, 2, none⟩ = some (.int .i64 0) := hO1.c 0 2
      have c0_3 : wo1.cell? ⟨w.heap.size + 2, 3, none⟩ = some (.int .i64 0) := hO1.c 0 3
      have cf0 := hO1.fr 0
      have c1_0 : wo1.cell? ⟨w.heap.size + 1, 0, none⟩ = some (.int .i64 5) := hO1.c 1 0
      have c1_1 : wo1.cell? ⟨w.heap.size + 1, 1, none⟩ = some (.string (strS tn)) := hO1.c 1 1
      have c1_2 : wo1.cell? ⟨w.heap.size + 1, 2, none⟩ = some (.int .i64 (tm : Int)) := hO1.c 1 2
      have cf1 := hO1.fr 1
      have c2_0 : wo1.cell? ⟨w.heap.size, 0, none⟩ = some (.bool ab) := hO1.c 2 0
      have c2_1 : wo1.cell? ⟨w.heap.size, 1, none⟩ = some (.bool true) := hO1.c 2 1
      have c2_2 : wo1.cell? ⟨w.heap.size, 2, none⟩ = some (.int .i64 (lo : Int)) := hO1.c 2 2
      have c2_3 : wo1.cell? ⟨w.heap.size, 3, none⟩ = some (.int .i64 (hi : Int)) := hO1.c 2 3
      have cf2 := hO1.fr 2
      go_upto_region 4 with (fail)
      generalize hx_ : World.setCell _ _ _ = wo2
      have hO2 : OwnB w wo2 [(w.heap.size + 2, [.bool false, .bool false, .int .i64 0, .int .i64 0]), (w.heap.size + 1, [.int .i64 5, .string (strS tn), .int .i64 (tm : Int)]), (w.heap.size, [.bool false, .bool true, .int .i64 (lo : Int), .int .i64 (hi : Int)])] := by rw [← hx_]; exact hO1.store 2 rfl 0 _
      clear hx_ c0_0 c0_1 c0_2 c0_3 cf0 c1_0 c1_1 c1_2 cf1 c2_0 c2_1 c2_2 c2_3 cf2 hO1
      have c0_0 : wo2.cell? ⟨w.heap.size + 2, 0, none⟩ = some (.bool false) := hO2.c 0 0
      have c0_1 : wo2.cell? ⟨w.heap.size + 2, 1, none⟩ = some (.bool false) := hO2.c 0 1
      have c0_2 : wo2.cell? ⟨w.heap.size + 2, 2, none⟩ = some (.int .i64 0) := hO2.c 0 2
      have c0_3 : wo2.cell? ⟨w.heap.size + 2, 3, none⟩ = some (.int .i64 0) := hO2.c 0 3
      have cf0 := hO2.fr 0
      have c1_0 : wo2.cell? ⟨w.heap.size + 1, 0, none⟩ = some (.int .i64 5) := hO2.c 1 0
      have c1_1 : wo2.cell? ⟨w.heap.size + 1, 1, none⟩ = some (.string (strS tn)) := hO2.c 1 1
      have c1_2 : wo2.cell? ⟨w.heap.size + 1, 2, none⟩ = some (.int .i64 (tm : Int)) := hO2.c 1 2
      have cf1 := hO2.fr 1
      have c2_0 : wo2.cell? ⟨w.heap.size, 0, none⟩ = some (.bool false) := hO2.c 2 0
      have c2_1 : wo2.cell? ⟨w.heap.size, 1, none⟩ = some (.bool true) := hO2.c 2 1
      have c2_2 : wo2.cell? ⟨w.heap.size, 2, none⟩ = some (.int .i64 (lo : Int)) := hO2.c 2 2
      have c2_3 : wo2.cell? ⟨w.heap.size, 3, none⟩ = some (.int .i64 (hi : Int)) := hO2.c 2 3
      have cf2 := hO2.fr 2
      go_upto_region 5 with (fail)
      generalize hx_ : World.setCell _ _ _ = wo3
      have hO3 : OwnB w wo3 [(w.heap.size + 2, [.bool false, .bool false, .int .i64 0, .int .i64 0]), (w.heap.size + 1, [.int .i64 5, .string (strS tn), .int .i64 (tm : Int)]), (w.heap.size, [.bool false, .bool false, .int .i64 (lo : Int), .int .i64 (hi : Int)])] := by rw [← hx_]; exact hO2.store 2 rfl 1 _
      clear hx_ c0_0 c0_1 c0_2 c0_3 cf0 c1_0 c1_1 c1_2 cf1 c2_0 c2_1 c2_2 c2_3 cf2 hO2
      have c0_0 : wo3.cell? ⟨w.heap.size + 2, 0, none⟩ = some (.bool false) := hO3.c 0 0
      have c0_1 : wo3.cell? ⟨w.heap.size + 2, 1, none⟩ = some (.bool false) := hO3.c 0 1
      have c0_2 : wo3.cell? ⟨w.heap.size + 2, 2, none⟩ = some (.int .i64 0) := hO3.c 0 2
      have c0_3 : wo3.cell? ⟨w.heap.size + 2, 3, none⟩ = some (.int .i64 0) := hO3.c 0 3
      have cf0 := hO3.fr 0
      have c1_0 : wo3.cell? ⟨w.heap.size + 1, 0, none⟩ = some (.int .i64 5) := hO3.c 1 0
      have c1_1 : wo3.cell? ⟨w.heap.size + 1, 1, none⟩ = some (.string (strS tn)) := hO3.c 1 1
      have c1_2 : wo3.cell? ⟨w.heap.size + 1, 2, none⟩ = some (.int .i64 (tm : Int)) := hO3.c 1 2
      have cf1 := hO3.fr 1
      have c2_0 : wo3.cell? ⟨w.heap.size, 0, none⟩ = some (.bool false) := hO3.c 2 0
      have c2_1 : wo3.cell? ⟨w.heap.size, 1, none⟩ = some (.bool false) := hO3.c 2 1
      have c2_2 : wo3.cell? ⟨w.heap.size, 2, none⟩ = some (.int .i64 (lo : Int)) := hO3.c 2 2
      have c2_3 : wo3.cell? ⟨w.heap.size, 3, none⟩ = some (.int .i64 (hi : Int)) := hO3.c 2 3
      have cf2 := hO3.fr 2
      go_upto_region 7 with (fail)
      generalize hx_ : World.setCell _ _ _ = wo4
      have hO4 : OwnB w wo4 [(w.heap.size + 2, [.bool false, .bool false, .int .i64 0, .int .i64 0]), (w.heap.size + 1, [.int .i64 5, .string (strS tn), .int .i64 (tm : Int)]), (w.heap.size, [.bool false, .bool false, .int .i64 ((max lo tm : Nat) : Int), .int .i64 (hi : Int)])] := by rw [← hx_]; exact hO3.store 2 rfl 2 _
      clear hx_ c0_0 c0_1 c0_2 c0_3 cf0 c1_0 c1_1 c1_2 cf1 c2_0 c2_1 c2_2 c2_3 cf2 hO3
      have c0_0 : wo4.cell? ⟨w.heap.size + 2, 0, none⟩ = some (.bool false) := hO4.c 0 0
      have c0_1 : wo4.cell? ⟨w.heap.size + 2, 1, none⟩ = some (.bool false) := hO4.c 0 1
      have c0_2 : wo4.cell? ⟨w.heap.size + 2, 2, none⟩ = some (.int .i64 0) := hO4.c 0 2
      have c0_3 : wo4.cell? ⟨w.heap.size + 2, 3, none⟩ = some (.int .i64 0) := hO4.c 0 3
      have cf0 := hO4.fr 0
      have c1_0 : wo4.cell? ⟨w.heap.size + 1, 0, none⟩ = some (.int .i64 5) := hO4.c 1 0
      have c1_1 : wo4.cell? ⟨w.heap.size + 1, 1, none⟩ = some (.string (strS tn)) := hO4.c 1 1
      have c1_2 : wo4.cell? ⟨w.heap.size + 1, 2, none⟩ = some (.int .i64 (tm : Int)) := hO4.c 1 2
      have cf1 := hO4.fr 1
      have c2_0 : wo4.cell? ⟨w.heap.size, 0, none⟩ = some (.bool false) := hO4.c 2 0
      have c2_1 : wo4.cell? ⟨w.heap.size, 1, none⟩ = some (.bool false) := hO4.c 2 1
      have c2_2 : wo4.cell? ⟨w.heap.size, 2, none⟩ = some (.int .i64 ((max lo tm : Nat) : Int)) := hO4.c 2 2
      have c2_3 : wo4.cell? ⟨w.heap.size, 3, none⟩ = some (.int .i64 (hi : Int)) := hO4.c 2 3
      have cf2 := hO4.fr 2
      go_upto_region 9 with (fail)
      generalize hx_ : World.setCell _ _ _ = wo5
      have hO5 : OwnB w wo5 [(w.heap.size + 2, [.bool false, .bool false, .int .i64 0, .int .i64 0]), (w.heap.size + 1, [.int .i64 5, .string (strS tn), .int .i64 (tm : Int)]), (w.heap.size, [.bool false, .bool false, .int .i64 ((max lo tm : Nat) : Int), .int .i64 ((min hi tm : Nat) : Int)])] := by rw [← hx_]; exact hO4.store 2 rfl 3 _
      clear hx_ c0_0 c0_1 c0_2 c0_3 cf0 c1_0 c1_1 c1_2 cf1 c2_0 c2_1 c2_2 c2_3 cf2 hO4
      have c0_0 : wo5.cell? ⟨w.heap.size + 2, 0, none⟩ = some (.bool false) := hO5.c 0 0
      have c0_1 : wo5.cell? ⟨w.heap.size + 2, 1, none⟩ = some (.bool false) := hO5.c 0 1
      have c0_2 : wo5.cell? ⟨w.heap.size + 2, 2, none⟩ = some (.int .i64 0) := hO5.c 0 2
      have c0_3 : wo5.cell? ⟨w.heap.size + 2, 3, none⟩ = some (.int .i64 0) := hO5.c 0 3
      have cf0 := hO5.fr 0
      have c1_0 : wo5.cell? ⟨w.heap.size + 1, 0, none⟩ = some (.int .i64 5) := hO5.c 1 0
      have c1_1 : wo5.cell? ⟨w.heap.size + 1, 1, none⟩ = some (.string (strS tn)) := hO5.c 1 1
      have c1_2 : wo5.cell? ⟨w.heap.size + 1, 2, none⟩ = some (.int .i64 (tm : Int)) := hO5.c 1 2
      have cf1 := hO5.fr 1
      have c2_0 : wo5.cell? ⟨w.heap.size, 0, none⟩ = some (.bool false) := hO5.c 2 0
      have c2_1 : wo5.cell? ⟨w.heap.size, 1, none⟩ = some (.bool false) := hO5.c 2 1
      have c2_2 : wo5.cell? ⟨w.heap.size, 2, none⟩ = some (.int .i64 ((max lo tm : Nat) : Int)) := hO5.c 2 2
      have c2_3 : wo5.cell? ⟨w.heap.size, 3, none⟩ = some (.int .i64 ((min hi tm : Nat) : Int)) := hO5.c 2 3
      have cf2 := hO5.fr 2
      repeat' ((fail_if_success at_builtin); (first | go_skip | go_guarded | go_step))
      generalize hx_ : World.setCell (World.setCell (World.setCell (World.setCell _ _ _) _ _) _ _) _ _ = wo6
      have hO6 : OwnB w wo6 [(w.heap.size + 2, [.bool false, .bool false, .int .i64 ((max lo tm : Nat) : Int), .int .i64 ((min hi tm : Nat) : Int)]), (w.heap.size + 1, [.int .i64 5, .string (strS tn), .int .i64 (tm : Int)]), (w.heap.size, [.bool false, .bool false, .int .i64 ((max lo tm : Nat) : Int), .int .i64 ((min hi tm : Nat) : Int)])] := by rw [← hx_]; exact (((hO5.store 0 rfl 0 _).store 0 rfl 1 _).store 0 rfl 2 _).store 0 rfl 3 _
      clear hx_ c0_0 c0_1 c0_2 c0_3 cf0 c1_0 c1_1 c1_2 cf1 c2_0 c2_1 c2_2 c2_3 cf2 hO5
      have c0_0 : wo6.cell? ⟨w.heap.size + 2, 0, none⟩ = some (.bool false) := hO6.c 0 0
      have c0_1 : wo6.cell? ⟨w.heap.size + 2, 1, none⟩ = some (.bool false) := hO6.c 0 1
      have c0_2 : wo6.cell? ⟨w.heap.size + 2, 2, none⟩ = some (.int .i64 ((max lo tm : Nat) : Int)) := hO6.c 0 2
      have c0_3 : wo6.cell? ⟨w.heap.size + 2, 3, none⟩ = some (.int .i64 ((min hi tm : Nat) : Int)) := hO6.c 0 3
      have cf0 := hO6.fr 0
      have c1_0 : wo6.cell? ⟨w.heap.size + 1, 0, none⟩ = some (.int .i64 5) := hO6.c 1 0
      have c1_1 : wo6.cell? ⟨w.heap.size + 1, 1, none⟩ = some (.string (strS tn)) := hO6.c 1 1
      have c1_2 : wo6.cell? ⟨w.heap.size + 1, 2, none⟩ = some (.int .i64 (tm : Int)) := hO6.c 1 2
      have cf1 := hO6.fr 1
      have c2_0 : wo6.cell? ⟨w.heap.size, 0, none⟩ = some (.bool false) := hO6.c 2 0
      have c2_1 : wo6.cell? ⟨w.heap.size, 1, none⟩ = some (.bool false) := hO6.c 2 1
      have c2_2 : wo6.cell? ⟨w.heap.size, 2, none⟩ = some (.int .i64 ((max lo tm : Nat) : Int)) := hO6.c 2 2
      have c2_3 : wo6.cell? ⟨w.heap.size, 3, none⟩ = some (.int .i64 ((min hi tm : Nat) : Int)) := hO6.c 2 3
      have cf2 := hO6.fr 2
      have hb9 := hO6.below
      refine bodyPost_ret (v := .agg #[.bool false, .bool false, .int .i64 ((max lo tm : Nat) : Int), .int .i64 ((min hi tm : Nat) : Int)]) (by simp only [results, Tryd.results51]; go_simp; first | done | exact ⟨rfl, rfl, rfl⟩ | rfl) rfl ?_
      exact ⟨rfl, hb9⟩
set_option maxRecDepth 100000 in
set_option maxHeartbeats 2000000 in
theorem refPossible_any (c : Cs) (w : World) : Calls Tryd.prog 47 #[.agg (cval c)] w fun e w' => e = .returned (.bool (possC c)) ∧ Below w.heap.size w w' := by
  obtain ⟨ab, pl, lo, hi⟩ := c
  have hb0 : Below w.heap.size w (w.alloc (.cells (cval ⟨ab, pl, lo, hi⟩) 53)) := (Below.refl _ _).alloc (Nat.le_refl _) _
  cases ab
  · cases pl
    · replace hb0 : Below w.heap.size w (w.alloc (.cells #[.bool false, .bool false, .int .i64 (lo : Int), .int .i64 (hi : Int)] 53)) := hb0
      go_enter Tryd.func47, Tryd.ntmps47
      repeat' ((fail_if_success at_builtin); (first | go_skip | go_guarded | go_step))
      go_ret
      exact ⟨retB (by unfold possC; simp), hb0⟩
    · replace hb0 : Below w.heap.size w (w.alloc (.cells #[.bool false, .bool true, .int .i64 (lo : Int), .int .i64 (hi : Int)] 53)) := hb0
      go_enter Tryd.func47, Tryd.ntmps47
      repeat' ((fail_if_success at_builtin); (first | go_skip | go_guarded | go_step))
      go_ret
      exact ⟨retB (by unfold possC; simp), hb0⟩
  · replace hb0 : Below w.heap.size w (w.alloc (.cells #[.bool true, .bool pl, .int .i64 (lo : Int), .int .i64 (hi : Int)] 53)) := hb0
    go_enter Tryd.func47, Tryd.ntmps47
    repeat' ((fail_if_success at_builtin); (first | go_skip | go_guarded | go_step))
    go_ret
    exact ⟨retB (by unfold possC; simp), hb0⟩
set_option maxRecDepth 100000 in
set_option maxHeartbeats 4000000 in
theorem within_any (a b : Cs) (w : World) : Calls Tryd.prog 33 #[.agg (cval a), .agg (cval b)] w fun e w' => e = .returned (.bool (withC a b)) ∧ Below w.heap.size w w' := by
  obtain ⟨a1, a2, a3, a4⟩ := a
  obtain ⟨b1, b2, b3, b4⟩ := b
  have hb0 : Below w.heap.size w ((w.alloc (.cells #[.bool a1, .bool a2, .int .i64 (a3 : Int), .int .i64 (a4 : Int)] 53)).alloc (.cells #[.bool b1, .bool b2, .int .i64 (b3 : Int), .int .i64 (b4 : Int)] 53)) := ((Below.refl _ _).alloc (Nat.le_refl _) _).alloc (by simp) _
  by_cases h1 : a4 < a3
  · have h1' : (a4 : Int) < (a3 : Int) := by omega
    cases a1
    · cases a2
      · go_enter Tryd.func33, Tryd.ntmps33
        repeat' ((fail_if_success at_builtin); (first | go_skip | go_guarded | go_step))
        go_ret
        exact ⟨retB (by unfold withC; simp [h1]), hb0⟩
      · cases b2
        · go_enter Tryd.func33, Tryd.ntmps33
          repeat' ((fail_if_success at_builtin); (first | go_skip | go_guarded | go_step))
          go_ret
          exact ⟨retB (by unfold withC; simp [h1]), hb0⟩
        · go_enter Tryd.func33, Tryd.ntmps33
          repeat' ((fail_if_success at_builtin); (first | go_skip | go_guarded | go_step))
          go_ret
          exact ⟨retB (by unfold withC; simp [h1]), hb0⟩
    · cases b1
      · go_enter Tryd.func33, Tryd.ntmps33
        repeat' ((fail_if_success at_builtin); (first | go_skip | go_guarded | go_step))
        go_ret
        exact ⟨retB (by unfold withC; simp [h1]), hb0⟩
      · cases a2
        · go_enter Tryd.func33, Tryd.ntmps33
          repeat' ((fail_if_success at_builtin); (first | go_skip | go_guarded | go_step))
          go_ret
          exact ⟨retB (by unfold withC; simp [h1]), hb0⟩
        · cases b2
          · go_enter Tryd.func33, Tryd.ntmps33
            repeat' ((fail_if_success at_builtin); (first | go_skip | go_guarded | go_step))
            go_ret
            exact ⟨retB (by unfold withC; simp [h1]), hb0⟩
          · go_enter Tryd.func33, Tryd.ntmps33
            repeat' ((fail_if_success at_builtin); (first | go_skip | go_guarded | go_step))
            go_ret
            exact ⟨retB (by unfold withC; simp [h1]), hb0⟩
  · have h1' : ¬ (a4 : Int) < (a3 : Int) := by omega
    by_cases h2 : b3 ≤ a3
    · have h2' : (b3 : Int) ≤ (a3 : Int) := by omega
      cases a1
      · cases a2
        · go_enter Tryd.func33, Tryd.ntmps33
          repeat' ((fail_if_success at_builtin); (first | go_skip | go_guarded | go_step))
          go_ret
          exact ⟨retB (by unfold withC; simp [h1, h2]), hb0⟩
        · cases b2
          · go_enter Tryd.func33, Tryd.ntmps33
            repeat' ((fail_if_success at_builtin); (first | go_skip | go_guarded | go_step))
            go_ret
            exact ⟨retB (by unfold withC; simp [h1, h2]), hb0⟩
          · go_enter Tryd.func33, Tryd.ntmps33
            repeat' ((fail_if_success at_builtin); (first | go_skip | go_guarded | go_step))
            go_ret
            exact ⟨retB (by unfold withC; simp [h1, h2]), hb0⟩
      · cases b1
        · go_enter Tryd.func33, Tryd.ntmps33
          repeat' ((fail_if_success at_builtin); (first | go_skip | go_guarded | go_step))
          go_ret
          exact ⟨retB (by unfold withC; simp [h1, h2]), hb0⟩
        · cases a2
          · go_enter Tryd.func33, Tryd.ntmps33
            repeat' ((fail_if_success at_builtin); (first | go_skip | go_guarded | go_step))
            go_ret
            exact ⟨retB (by unfold withC; simp [h1, h2]), hb0⟩
          · cases b2
            · go_enter Tryd.func33, Tryd.ntmps33
              repeat' ((fail_if_success at_builtin); (first | go_skip | go_guarded | go_step))
              go_ret
              exact ⟨retB (by unfold withC; simp [h1, h2]), hb0⟩
            · go_enter Tryd.func33, Tryd.ntmps33
              repeat' ((fail_if_success at_builtin); (first | go_skip | go_guarded | go_step))
              go_ret
              exact ⟨retB (by unfold withC; simp [h1, h2]), hb0⟩
    · have h2' : ¬ (b3 : Int) ≤ (a3 : Int) := by omega
      cases a1
      · cases a2
        · go_enter Tryd.func33, Tryd.ntmps33
          repeat' ((fail_if_success at_builtin); (first | go_skip | go_guarded | go_step))
          go_ret
          exact ⟨retB (by unfold withC; simp [h1, h2]), hb0⟩
        · cases b2
          · go_enter Tryd.func33, Tryd.ntmps33
            repeat' ((fail_if_success at_builtin); (first | go_skip | go_guarded | go_step))
            go_ret
            exact ⟨retB (by unfold withC; simp [h1, h2]), hb0⟩
          · go_enter Tryd.func33, Tryd.ntmps33
            repeat' ((fail_if_success at_builtin); (first | go_skip | go_guarded | go_step))
            go_ret
            exact ⟨retB (by unfold withC; simp [h1, h2]), hb0⟩
      · cases b1
        · go_enter Tryd.func33, Tryd.ntmps33
          repeat' ((fail_if_success at_builtin); (first | go_skip | go_guarded | go_step))
          go_ret
          exact ⟨retB (by unfold withC; simp [h1, h2]), hb0⟩
        · cases a2
          · go_enter Tryd.func33, Tryd.ntmps33
            repeat' ((fail_if_success at_builtin); (first | go_skip | go_guarded | go_step))
            go_ret
            exact ⟨retB (by unfold withC; simp [h1, h2]), hb0⟩
          · cases b2
            · go_enter Tryd.func33, Tryd.ntmps33
              repeat' ((fail_if_success at_builtin); (first | go_skip | go_guarded | go_step))
              go_ret
              exact ⟨retB (by unfold withC; simp [h1, h2]), hb0⟩
            · go_enter Tryd.func33, Tryd.ntmps33
              repeat' ((fail_if_success at_builtin); (first | go_skip | go_guarded | go_step))
              go_ret
              exact ⟨retB (by unfold withC; simp [h1, h2]), hb0⟩
end Go.Proofs.YtppbblgdcckbdaaDoor
