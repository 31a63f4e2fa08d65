/- Typing: the examples hold. -/
import Derived.Test.YtgcpffbaejodiaaDoorTyAw0
namespace Go.Proofs.YtgcpffbaejodiaaDoor
open Go.RowKit
set_option maxRecDepth 100000 in
set_option maxHeartbeats 6000000 in
theorem awake_any (w : World) : Calls Tryd.prog 13 #[] w fun e w' => e = .returned (.bool true) ∧ Below w.heap.size w w' := by
 go_enter Tryd.func13, Tryd.ntmps13
 go_upto_region 2 with (fail)
 generalize hx_ : World.alloc (World.alloc w _) _ = wo1
 have hO1 : OwnB w wo1 [(w.heap.size + 1, [.int .i64 3, .bool false, .int .i64 0, .string ⟨#[97]⟩, .slice none 0 0, .slice none 0 0]), (w.heap.size, [.int .i64 2, .bool false, .int .i64 1, .string ⟨#[]⟩, .slice none 0 0, .slice none 0 0])] := by rw [← hx_]; exact ((OwnB.refl w).new #[.int .i64 2, .bool false, .int .i64 1, .string ⟨#[]⟩, .slice none 0 0, .slice none 0 0] _ (g := w.heap.size)).new #[.int .i64 3, .bool false, .int .i64 0, .string ⟨#[97]⟩, .slice none 0 0, .slice none 0 0] _ (g := w.heap.size + 1)
 have hbn : Below w.heap.size w wo1 := by rw [← hx_]; exact ((Below.refl _ _).alloc (Nat.le_refl _) _).alloc (by simp) _
 clear hx_
 have c0_0 := hO1.c 0 0
 have c0_1 := hO1.c 0 1
 have c0_2 := hO1.c 0 2
 have c0_3 := hO1.c 0 3
 have c0_4 := hO1.c 0 4
 have c0_5 := hO1.c 0 5
 have cf0 := hO1.fr 0
 have c1_0 := hO1.c 1 0
 have c1_1 := hO1.c 1 1
 have c1_2 := hO1.c 1 2
 have c1_3 := hO1.c 1 3
 have c1_4 := hO1.c 1 4
 have c1_5 := hO1.c 1 5
 have cf1 := hO1.fr 1
 clear hbn
 go_upto_region 3 with (fail)
 generalize hx_ : World.alloc (World.alloc wo1 _) _ = wo2
 have hO2 : OwnB w wo2 [(wo1.heap.size + 1, [.int .i64 4, .slice none 0 0]), (wo1.heap.size, [.int .i64 3, .slice none 0 0]), (w.heap.size + 1, [.int .i64 3, .bool false, .int .i64 0, .string ⟨#[97]⟩, .slice none 0 0, .slice none 0 0]), (w.heap.size, [.int .i64 2, .bool false, .int .i64 1, .string ⟨#[]⟩, .slice none 0 0, .slice none 0 0])] := by rw [← hx_]; exact (hO1.new #[.int .i64 3, .slice none 0 0] _ (g := wo1.heap.size)).new #[.int .i64 4, .slice none 0 0] _ (g := wo1.heap.size + 1)
 have hbn : Below wo1.heap.size wo1 wo2 := by rw [← hx_]; exact ((Below.refl _ _).alloc (Nat.le_refl _) _).alloc (by simp) _
 clear hx_ c0_0 c0_1 c0_2 c0_3 c0_4 c0_5 cf0 c1_0 c1_1 c1_2 c1_3 c1_4 c1_5 cf1 hO1
 have c0_0 := hO2.c 0 0
 have c0_1 := hO2.c 0 1
 have cf0 := hO2.fr 0
 have c1_0 := hO2.c 1 0
 have c1_1 := hO2.c 1 1
 have cf1 := hO2.fr 1
 have c2_0 := hO2.c 2 0
 have c2_1 := hO2.c 2 1
 have c2_2 := hO2.c 2 2
 have c2_3 := hO2.c 2 3
 have c2_4 := hO2.c 2 4
 have c2_5 := hO2.c 2 5
 have cf2 := hO2.fr 2
 have c3_0 := hO2.c 3 0
 have c3_1 := hO2.c 3 1
 have c3_2 := hO2.c 3 2
 have c3_3 := hO2.c 3 3
 have c3_4 := hO2.c 3 4
 have c3_5 := hO2.c 3 5
 have cf3 := hO2.fr 3
 clear hbn
 repeat' ((fail_if_success at_builtin); (first | go_skip | go_guarded | go_step))
 refine (parse0 _).mono ?_
 rintro e q0 ⟨A5, n5, c5, rfl, hX, hb0⟩
 dsimp only
 have hO3 : OwnB w q0 [(wo1.heap.size + 1, [.int .i64 4, .slice none 0 0]), (wo1.heap.size, [.int .i64 3, .slice none 0 0]), (w.heap.size + 1, [.int .i64 3, .bool false, .int .i64 0, .string ⟨#[97]⟩, .slice none 0 0, .slice none 0 0]), (w.heap.size, [.int .i64 2, .bool false, .int .i64 1, .string ⟨#[]⟩, .slice none 0 0, .slice none 0 0])] := hO2.kept hb0
 clear c0_0 c0_1 cf0 c1_0 c1_1 cf1 c2_0 c2_1 c2_2 c2_3 c2_4 c2_5 cf2 c3_0 c3_1 c3_2 c3_3 c3_4 c3_5 cf3 hO2
 have c0_0 := hO3.c 0 0
 have c0_1 := hO3.c 0 1
 have cf0 := hO3.fr 0
 have c1_0 := hO3.c 1 0
 have c1_1 := hO3.c 1 1
 have cf1 := hO3.fr 1
 have c2_0 := hO3.c 2 0
 have c2_1 := hO3.c 2 1
 have c2_2 := hO3.c 2 2
 have c2_3 := hO3.c 2 3
 have c2_4 := hO3.c 2 4
 have c2_5 := hO3.c 2 5
 have cf2 := hO3.fr 2
 have c3_0 := hO3.c 3 0
 have c3_1 := hO3.c 3 1
 have c3_2 := hO3.c 3 2
 have c3_3 := hO3.c 3 3
 have c3_4 := hO3.c 3 4
 have c3_5 := hO3.c 3 5
 have cf3 := hO3.fr 3
 go_upto_region 4 with (fail)
 generalize hx_ : World.alloc q0 _ = wo4
 have hO4 : OwnB w wo4 [(q0.heap.size, [.int .i64 5, .slice A5 n5 c5]), (wo1.heap.size + 1, [.int .i64 4, .slice none 0 0]), (wo1.heap.size, [.int .i64 3, .slice none 0 0]), (w.heap.size + 1, [.int .i64 3, .bool false, .int .i64 0, .string ⟨#[97]⟩, .slice none 0 0, .slice none 0 0]), (w.heap.size, [.int .i64 2, .bool false, .int .i64 1, .string ⟨#[]⟩, .slice none 0 0, .slice none 0 0])] := by rw [← hx_]; exact hO3.new #[.int .i64 5, .slice A5 n5 c5] _ (g := q0.heap.size)
 have hbn : Below q0.heap.size q0 wo4 := by rw [← hx_]; exact (Below.refl _ _).alloc (Nat.le_refl _) _
 clear hx_ c0_0 c0_1 cf0 c1_0 c1_1 cf1 c2_0 c2_1 c2_2 c2_3 c2_4 c2_5 cf2 c3_0 c3_1 c3_2 c3_3 c3_4 c3_5 cf3 hO3
 have c0_0 := hO4.c 0 0
 have c0_1 := hO4.c 0 1
 have cf0 := hO4.fr 0
 have c1_0 := hO4.c 1 0
 have c1_1 := hO4.c 1 1
 have cf1 := hO4.fr 1
 have c2_0 := hO4.c 2 0
 have c2_1 := hO4.c 2 1
 have cf2 := hO4.fr 2
 have c3_0 := hO4.c 3 0
 have c3_1 := hO4.c 3 1
 have c3_2 := hO4.c 3 2
 have c3_3 := hO4.c 3 3
 have c3_4 := hO4.c 3 4
 have c3_5 := hO4.c 3 5
 have cf3 := hO4.fr 3
 have c4_0 := hO4.c 4 0
 have c4_1 := hO4.c 4 1
 have c4_2 := hO4.c 4 2
 have c4_3 := hO4.c 4 3
 have c4_4 := hO4.c 4 4
 have c4_5 := hO4.c 4 5
 have cf4 := hO4.fr 4
 replace hX := RVB.at_ hX hbn
 clear hbn
 repeat' ((fail_if_success at_builtin); (first | go_skip | go_guarded | go_step))
 refine (parse1 _).mono ?_
 rintro e q1 ⟨A6, n6, c6, rfl, hY, hb1⟩
 dsimp only
 have hO5 : OwnB w q1 [(q0.heap.size, [.int .i64 5, .slice A5 n5 c5]), (wo1.heap.size + 1, [.int .i64 4, .slice none 0 0]), (wo1.heap.size, [.int .i64 3, .slice none 0 0]), (w.heap.size + 1, [.int .i64 3, .bool false, .int .i64 0, .string ⟨#[97]⟩, .slice none 0 0, .slice none 0 0]), (w.heap.size, [.int .i64 2, .bool false, .int .i64 1, .string ⟨#[]⟩, .slice none 0 0, .slice none 0 0])] := hO4.kept hb1
 clear c0_0 c0_1 cf0 c1_0 c1_1 cf1 c2_0 c2_1 cf2 c3_0 c3_1 c3_2 c3_3 c3_4 c3_5 cf3 c4_0 c4_1 c4_2 c4_3 c4_4 c4_5 cf4 hO4
 have c0_0 := hO5.c 0 0
 have c0_1 := hO5.c 0 1
 have cf0 := hO5.fr 0
 have c1_0 := hO5.c 1 0
 have c1_1 := hO5.c 1 1
 have cf1 := hO5.fr 1
 have c2_0 := hO5.c 2 0
 have c2_1 := hO5.c 2 1
 have cf2 := hO5.fr 2
 have c3_0 := hO5.c 3 0
 have c3_1 := hO5.c 3 1
 have c3_2 := hO5.c 3 2
 have c3_3 := hO5.c 3 3
 have c3_4 := hO5.c 3 4
 have c3_5 := hO5.c 3 5
 have cf3 := hO5.fr 3
 have c4_0 := hO5.c 4 0
 have c4_1 := hO5.c 4 1
 have c4_2 := hO5.c 4 2
 have c4_3 := hO5.c 4 3
 have c4_4 := hO5.c 4 4
 have c4_5 := hO5.c 4 5
 have cf4 := hO5.fr 4
 replace hX := RVB.at_ hX hb1
 go_upto_region 5 with (fail)
 generalize hx_ : World.alloc q1 _ = wo6
 have hO6 : OwnB w wo6 [(q1.heap.size, [.int .i64 5, .slice A6 n6 c6]), (q0.heap.size, [.int .i64 5, .slice A5 n5 c5]), (wo1.heap.size + 1, [.int .i64 4, .slice none 0 0]), (wo1.heap.size, [.int .i64 3, .slice none 0 0]), (w.heap.size + 1, [.int .i64 3, .bool false, .int .i64 0, .string ⟨#[97]⟩, .slice none 0 0, .slice none 0 0]), (w.heap.size, [.int .i64 2, .bool false, .int .i64 1, .string ⟨#[]⟩, .slice none 0 0, .slice none 0 0])] := by rw [← hx_]; exact hO5.new #[.int .i64 5, .slice A6 n6 c6] _ (g := q1.heap.size)
 have hbn : Below q1.heap.size q1 wo6 := by rw [← hx_]; exact (Below.refl _ _).alloc (Nat.le_refl _) _
 clear hx_ c0_0 c0_1 cf0 c1_0 c1_1 cf1 c2_0 c2_1 cf2 c3_0 c3_1 c3_2 c3_3 c3_4 c3_5 cf3 c4_0 c4_1 c4_2 c4_3 c4_4 c4_5 cf4 hO5
 have c0_0 := hO6.c 0 0
 have c0_1 := hO6.c 0 1
 have cf0 := hO6.fr 0
 have c1_0 := hO6.c 1 0
 have c1_1 := hO6.c 1 1
 have cf1 := hO6.fr 1
 have c2_0 := hO6.c 2 0
 have c2_1 := hO6.c 2 1
 have cf2 := hO6.fr 2
 have c3_0 := hO6.c 3 0
 have c3_1 := hO6.c 3 1
 have cf3 := hO6.fr 3
 have c4_0 := hO6.c 4 0
 have c4_1 := hO6.c 4 1
 have c4_2 := hO6.c 4 2
 have c4_3 := hO6.c 4 3
 have c4_4 := hO6.c 4 4
 have c4_5 := hO6.c 4 5
 have cf4 := hO6.fr 4
 have c5_0 := hO6.c 5 0
 have c5_1 := hO6.c 5 1
 have c5_2 := hO6.c 5 2
 have c5_3 := hO6.c 5 3
 have c5_4 := hO6.c 5 4
 have c5_5 := hO6.c 5 5
 have cf5 := hO6.fr 5
 replace hX := RVB.at_ hX hbn
 replace hY := RVB.at_ hY hbn
 clear hbn
 repeat' ((fail_if_success at_builtin); (first | go_skip | go_guarded | go_step))
 refine (parse2 _).mono ?_
 rintro e q2 ⟨A7, n7, c7, rfl, hZ, hb2⟩
 dsimp only
 have hO7 : OwnB w q2 [(q1.heap.size, [.int .i64 5, .slice A6 n6 c6]), (q0.heap.size, [.int .i64 5, .slice A5 n5 c5]), (wo1.heap.size + 1, [.int .i64 4, .slice none 0 0]), (wo1.heap.size, [.int .i64 3, .slice none 0 0]), (w.heap.size + 1, [.int .i64 3, .bool false, .int .i64 0, .string ⟨#[97]⟩, .slice none 0 0, .slice none 0 0]), (w.heap.size, [.int .i64 2, .bool false, .int .i64 1, .string ⟨#[]⟩, .slice none 0 0, .slice none 0 0])] := hO6.kept hb2
 clear c0_0 c0_1 cf0 c1_0 c1_1 cf1 c2_0 c2_1 cf2 c3_0 c3_1 cf3 c4_0 c4_1 c4_2 c4_3 c4_4 c4_5 cf4 c5_0 c5_1 c5_2 c5_3 c5_4 c5_5 cf5 hO6
 have c0_0 := hO7.c 0 0
 have c0_1 := hO7.c 0 1
 have cf0 := hO7.fr 0
 have c1_0 := hO7.c 1 0
 have c1_1 := hO7.c 1 1
 have cf1 := hO7.fr 1
 have c2_0 := hO7.c 2 0
 have c2_1 := hO7.c 2 1
 have cf2 := hO7.fr 2
 have c3_0 := hO7.c 3 0
 have c3_1 := hO7.c 3 1
 have cf3 := hO7.fr 3
 have c4_0 := hO7.c 4 0
 have c4_1 := hO7.c 4 1
 have c4_2 := hO7.c 4 2
 have c4_3 := hO7.c 4 3
 have c4_4 := hO7.c 4 4
 have c4_5 := hO7.c 4 5
 have cf4 := hO7.fr 4
 have c5_0 := hO7.c 5 0
 have c5_1 := hO7.c 5 1
 have c5_2 := hO7.c 5 2
 have c5_3 := hO7.c 5 3
 have c5_4 := hO7.c 5 4
 have c5_5 := hO7.c 5 5
 have cf5 := hO7.fr 5
 replace hX := RVB.at_ hX hb2
 replace hY := RVB.at_ hY hb2
 go_upto_region 6 with (fail)
 generalize hx_ : World.alloc q2 _ = wo8
 have hO8 : OwnB w wo8 [(q2.heap.size, [.int .i64 0, .slice A7 n7 c7]), (q1.heap.size, [.int .i64 5, .slice A6 n6 c6]), (q0.heap.size, [.int .i64 5, .slice A5 n5 c5]), (wo1.heap.size + 1, [.int .i64 4, .slice none 0 0]), (wo1.heap.size, [.int .i64 3, .slice none 0 0]), (w.heap.size + 1, [.int .i64 3, .bool false, .int .i64 0, .string ⟨#[97]⟩, .slice none 0 0, .slice none 0 0]), (w.heap.size, [.int .i64 2, .bool false, .int .i64 1, .string ⟨#[]⟩, .slice none 0 0, .slice none 0 0])] := by rw [← hx_]; exact hO7.new #[.int .i64 0, .slice A7 n7 c7] _ (g := q2.heap.size)
 have hbn : Below q2.heap.size q2 wo8 := by rw [← hx_]; exact (Below.refl _ _).alloc (Nat.le_refl _) _
 clear hx_ c0_0 c0_1 cf0 c1_0 c1_1 cf1 c2_0 c2_1 cf2 c3_0 c3_1 cf3 c4_0 c4_1 c4_2 c4_3 c4_4 c4_5 cf4 c5_0 c5_1 c5_2 c5_3 c5_4 c5_5 cf5 hO7
 have c0_0 := hO8.c 0 0
 have c0_1 := hO8.c 0 1
 have cf0 := hO8.fr 0
 have c1_0 := hO8.c 1 0
 have c1_1 := hO8.c 1 1
 have cf1 := hO8.fr 1
 have c2_0 := hO8.c 2 0
 have c2_1 := hO8.c 2 1
 have cf2 := hO8.fr 2
 have c3_0 := hO8.c 3 0
 have c3_1 := hO8.c 3 1
 have cf3 := hO8.fr 3
 have c4_0 := hO8.c 4 0
 have c4_1 := hO8.c 4 1
 have cf4 := hO8.fr 4
 have c5_0 := hO8.c 5 0
 have c5_1 := hO8.c 5 1
 have c5_2 := hO8.c 5 2
 have c5_3 := hO8.c 5 3
 have c5_4 := hO8.c 5 4
 have c5_5 := hO8.c 5 5
 have cf5 := hO8.fr 5
 have c6_0 := hO8.c 6 0
 have c6_1 := hO8.c 6 1
 have c6_2 := hO8.c 6 2
 have c6_3 := hO8.c 6 3
 have c6_4 := hO8.c 6 4
 have c6_5 := hO8.c 6 5
 have cf6 := hO8.fr 6
 replace hX := RVB.at_ hX hbn
 replace hY := RVB.at_ hY hbn
 replace hZ := RVB.at_ hZ hbn
 clear hbn
 have hS0 : (Below wo8.heap.size wo8 wo8 ∧ wo8.cell? ⟨q2.heap.size, 0, none⟩ = some (.int .i64 0) ∧ wo8.cell? ⟨q2.heap.size, 1, none⟩ = some (.slice A7 n7 c7) ∧ wo8.cell? ⟨q1.heap.size, 0, none⟩ = some (.int .i64 5) ∧ wo8.cell? ⟨q1.heap.size, 1, none⟩ = some (.slice A6 n6 c6) ∧ wo8.cell? ⟨q0.heap.size, 0, none⟩ = some (.int .i64 5) ∧ wo8.cell? ⟨q0.heap.size, 1, none⟩ = some (.slice A5 n5 c5) ∧ wo8.cell? ⟨wo1.heap.size + 1, 0, none⟩ = some (.int .i64 4) ∧ wo8.cell? ⟨wo1.heap.size + 1, 1, none⟩ = some (.slice none 0 0) ∧ wo8.cell? ⟨wo1.heap.size, 0, none⟩ = some (.int .i64 3) ∧ wo8.cell? ⟨wo1.heap.size, 1, none⟩ = some (.slice none 0 0)) := ⟨Below.refl _ _, hO8.c 0 0, hO8.c 0 1, hO8.c 1 0, hO8.c 1 1, hO8.c 2 0, hO8.c 2 1, hO8.c 3 0, hO8.c 3 1, hO8.c 4 0, hO8.c 4 1⟩
 have keepS : ∀ v1 v2 : World, (Below wo8.heap.size wo8 v1 ∧ v1.cell? ⟨q2.heap.size, 0, none⟩ = some (.int .i64 0) ∧ v1.cell? ⟨q2.heap.size, 1, none⟩ = some (.slice A7 n7 c7) ∧ v1.cell? ⟨q1.heap.size, 0, none⟩ = some (.int .i64 5) ∧ v1.cell? ⟨q1.heap.size, 1, none⟩ = some (.slice A6 n6 c6) ∧ v1.cell? ⟨q0.heap.size, 0, none⟩ = some (.int .i64 5) ∧ v1.cell? ⟨q0.heap.size, 1, none⟩ = some (.slice A5 n5 c5) ∧ v1.cell? ⟨wo1.heap.size + 1, 0, none⟩ = some (.int .i64 4) ∧ v1.cell? ⟨wo1.heap.size + 1, 1, none⟩ = some (.slice none 0 0) ∧ v1.cell? ⟨wo1.heap.size, 0, none⟩ = some (.int .i64 3) ∧ v1.cell? ⟨wo1.heap.size, 1, none⟩ = some (.slice none 0 0)) → Below v1.heap.size v1 v2 → (Below wo8.heap.size wo8 v2 ∧ v2.cell? ⟨q2.heap.size, 0, none⟩ = some (.int .i64 0) ∧ v2.cell? ⟨q2.heap.size, 1, none⟩ = some (.slice A7 n7 c7) ∧ v2.cell? ⟨q1.heap.size, 0, none⟩ = some (.int .i64 5) ∧ v2.cell? ⟨q1.heap.size, 1, none⟩ = some (.slice A6 n6 c6) ∧ v2.cell? ⟨q0.heap.size, 0, none⟩ = some (.int .i64 5) ∧ v2.cell? ⟨q0.heap.size, 1, none⟩ = some (.slice A5 n5 c5) ∧ v2.cell? ⟨wo1.heap.size + 1, 0, none⟩ = some (.int .i64 4) ∧ v2.cell? ⟨wo1.heap.size + 1, 1, none⟩ = some (.slice none 0 0) ∧ v2.cell? ⟨wo1.heap.size, 0, none⟩ = some (.int .i64 3) ∧ v2.cell? ⟨wo1.heap.size, 1, none⟩ = some (.slice none 0 0)) := fun v1 v2 h hb => ⟨h.1.trans (hb.mono h.1.size), (hO8.kept (h.1.trans (hb.mono h.1.size))).c 0 0, (hO8.kept (h.1.trans (hb.mono h.1.size))).c 0 1, (hO8.kept (h.1.trans (hb.mono h.1.size))).c 1 0, (hO8.kept (h.1.trans (hb.mono h.1.size))).c 1 1, (hO8.kept (h.1.trans (hb.mono h.1.size))).c 2 0, (hO8.kept (h.1.trans (hb.mono h.1.size))).c 2 1, (hO8.kept (h.1.trans (hb.mono h.1.size))).c 3 0, (hO8.kept (h.1.trans (hb.mono h.1.size))).c 3 1, (hO8.kept (h.1.trans (hb.mono h.1.size))).c 4 0, (hO8.kept (h.1.trans (hb.mono h.1.size))).c 4 1⟩
 have hS1 : (Below wo8.heap.size wo8 wo8.drew ∧ wo8.drew.cell? ⟨q2.heap.size, 0, none⟩ = some (.int .i64 0) ∧ wo8.drew.cell? ⟨q2.heap.size, 1, none⟩ = some (.slice A7 n7 c7) ∧ wo8.drew.cell? ⟨q1.heap.size, 0, none⟩ = some (.int .i64 5) ∧ wo8.drew.cell? ⟨q1.heap.size, 1, none⟩ = some (.slice A6 n6 c6) ∧ wo8.drew.cell? ⟨q0.heap.size, 0, none⟩ = some (.int .i64 5) ∧ wo8.drew.cell? ⟨q0.heap.size, 1, none⟩ = some (.slice A5 n5 c5) ∧ wo8.drew.cell? ⟨wo1.heap.size + 1, 0, none⟩ = some (.int .i64 4) ∧ wo8.drew.cell? ⟨wo1.heap.size + 1, 1, none⟩ = some (.slice none 0 0) ∧ wo8.drew.cell? ⟨wo1.heap.size, 0, none⟩ = some (.int .i64 3) ∧ wo8.drew.cell? ⟨wo1.heap.size, 1, none⟩ = some (.slice none 0 0)) := keepS _ _ hS0 ((Below.refl _ _).drew)
 replace keepS := Lib.hid keepS
 clear hS0
 replace hX := Lib.hid hX
 replace hY := Lib.hid hY
 replace hZ := Lib.hid hZ
 refine wp_region_held_drew (S := fun w' => Below wo8.heap.size wo8 w' ∧ w'.cell? ⟨q2.heap.size, 0, none⟩ = some (.int .i64 0) ∧ w'.cell? ⟨q2.heap.size, 1, none⟩ = some (.slice A7 n7 c7) ∧ w'.cell? ⟨q1.heap.size, 0, none⟩ = some (.int .i64 5) ∧ w'.cell? ⟨q1.heap.size, 1, none⟩ = some (.slice A6 n6 c6) ∧ w'.cell? ⟨q0.heap.size, 0, none⟩ = some (.int .i64 5) ∧ w'.cell? ⟨q0.heap.size, 1, none⟩ = some (.slice A5 n5 c5) ∧ w'.cell? ⟨wo1.heap.size + 1, 0, none⟩ = some (.int .i64 4) ∧ w'.cell? ⟨wo1.heap.size + 1, 1, none⟩ = some (.slice none 0 0) ∧ w'.cell? ⟨wo1.heap.size, 0, none⟩ = some (.int .i64 3) ∧ w'.cell? ⟨wo1.heap.size, 1, none⟩ = some (.slice none 0 0)) (by kernel_rfl) ?_ (fun hHeld => ?_)
 ·
  (try dsimp only)
  exact hS1
 refine wpAnyH_take (i := 0) (v := ?v21) rfl (by kernel_rfl) (by kernel_rfl) (by kernel_rfl) (fun _ _ _ h => h) (Or.inl ⟨by rfl, ?hy21⟩) (by assumption) ?rest21
 case hy21 => (intro w hSw; (try dsimp only at hSw); go_simp; try with_reducible rfl)
 simp only [Act.put, List.getElem_toArray, List.getElem_cons_zero, List.setIfInBounds_toArray, List.set_cons_zero, List.set_cons_succ]
 refine wpAnyH_take (i := 1) (v := ?v22) rfl (by kernel_rfl) (by kernel_rfl) (by kernel_rfl) (fun _ _ _ h => h) (Or.inl ⟨by rfl, ?hy22⟩) (by assumption) ?rest22
 case hy22 => (intro w hSw; (try dsimp only at hSw); go_simp; try with_reducible rfl)
 simp only [Act.put, List.getElem_toArray, List.getElem_cons_zero, List.getElem_cons_succ, List.setIfInBounds_toArray, List.set_cons_zero, List.set_cons_succ]
 refine wpAnyH_take (i := 2) (v := ?v23) rfl (by kernel_rfl) (by kernel_rfl) (by kernel_rfl) (fun _ _ _ h => h) (Or.inl ⟨by rfl, ?hy23⟩) (by assumption) ?rest23
 case hy23 => (intro w hSw; (try dsimp only at hSw); go_simp; try with_reducible rfl)
 simp only [Act.put, List.getElem_toArray, List.getElem_cons_zero, List.getElem_cons_succ, List.setIfInBounds_toArray, List.set_cons_zero, List.set_cons_succ]
 refine wpAnyH_take (i := 3) (v := ?v24) rfl (by kernel_rfl) (by kernel_rfl) (by kernel_rfl) (fun _ _ _ h => h) (Or.inl ⟨by rfl, ?hy24⟩) (by assumption) ?rest24
 case hy24 => (intro w hSw; (try dsimp only at hSw); go_simp; try with_reducible rfl)
 simp only [Act.put, List.getElem_toArray, List.getElem_cons_zero, List.getElem_cons_succ, List.setIfInBounds_toArray, List.set_cons_zero, List.set_cons_succ]
 refine wpAnyH_take (i := 4) (v := ?v25) rfl (by kernel_rfl) (by kernel_rfl) (by kernel_rfl) (fun _ _ _ h => h) (Or.inl ⟨by rfl, ?hy25⟩) (by assumption) ?rest25
 case hy25 => (intro w hSw; (try dsimp only at hSw); go_simp; try with_reducible rfl)
 simp only [Act.put, List.getElem_toArray, List.getElem_cons_zero, List.getElem_cons_succ, List.setIfInBounds_toArray, List.set_cons_zero, List.set_cons_succ]
 refine wpAnyH_take (i := 5) (v := ?v26) rfl (by kernel_rfl) (by kernel_rfl) (by kernel_rfl) (fun _ _ _ h => h) (Or.inl ⟨by rfl, ?hy26⟩) (by assumption) ?rest26
 case hy26 => (intro w hSw; (try dsimp only at hSw); go_simp; try with_reducible rfl)
 simp only [Act.put, List.getElem_toArray, List.getElem_cons_zero, List.getElem_cons_succ, List.setIfInBounds_toArray, List.set_cons_zero, List.set_cons_succ]
 refine wpAnyH_take (i := 6) (v := ?v27) rfl (by kernel_rfl) (by kernel_rfl) (by kernel_rfl) (fun _ _ _ h => h) (Or.inl ⟨by rfl, ?hy27⟩) (by assumption) ?rest27
 case hy27 => (intro w hSw; (try dsimp only at hSw); go_simp; try with_reducible rfl)
 simp only [Act.put, List.getElem_toArray, List.getElem_cons_zero, List.getElem_cons_succ, List.setIfInBounds_toArray, List.set_cons_zero, List.set_cons_succ]
 refine wpAnyH_take (i := 7) (v := ?v28) rfl (by kernel_rfl) (by kernel_rfl) (by kernel_rfl) (fun _ _ _ h => h) (Or.inl ⟨by rfl, ?hy28⟩) (by assumption) ?rest28
 case hy28 => (intro w hSw; (try dsimp only at hSw); go_simp; try with_reducible rfl)
 simp only [Act.put, List.getElem_toArray, List.getElem_cons_zero, List.getElem_cons_succ, List.setIfInBounds_toArray, List.set_cons_zero, List.set_cons_succ]
 refine wpAnyH_take (i := 8) (v := ?v29) rfl (by kernel_rfl) (by kernel_rfl) (by kernel_rfl) (fun _ _ _ h => h) (Or.inl ⟨by rfl, ?hy29⟩) (by assumption) ?rest29
 case hy29 => (intro w hSw; (try dsimp only at hSw); go_simp; try with_reducible rfl)
 simp only [Act.put, List.getElem_toArray, List.getElem_cons_zero, List.getElem_cons_succ, List.setIfInBounds_toArray, List.set_cons_zero, List.set_cons_succ]
 refine wpAnyH_take (i := 9) (v := ?v30) rfl (by kernel_rfl) (by kernel_rfl) (by kernel_rfl) (fun _ _ _ h => h) (Or.inl ⟨by rfl, ?hy30⟩) (by assumption) ?rest30
 case hy30 => (intro w hSw; (try dsimp only at hSw); go_simp; try with_reducible rfl)
 simp only [Act.put, List.getElem_toArray, List.getElem_cons_zero, List.getElem_cons_succ, List.setIfInBounds_toArray, List.set_cons_zero, List.set_cons_succ]
 refine wpAnyH_take (i := 10) (v := ?v31) rfl (by kernel_rfl) (by kernel_rfl) (by kernel_rfl) (fun _ _ _ h => h) (Or.inl ⟨by rfl, ?hy31⟩) (by assumption) ?rest31
 case hy31 => (intro w hSw; (try dsimp only at hSw); go_simp; try with_reducible rfl)
 simp only [Act.put, List.getElem_toArray, List.getElem_cons_zero, List.getElem_cons_succ, List.setIfInBounds_toArray, List.set_cons_zero, List.set_cons_succ]
 refine wpAnyH_take (i := 11) (v := ?v32) rfl (by kernel_rfl) (by kernel_rfl) (by kernel_rfl) (fun _ _ _ h => h) (Or.inl ⟨by rfl, ?hy32⟩) (by assumption) ?rest32
 case hy32 => (intro w hSw; (try dsimp only at hSw); go_simp; try with_reducible rfl)
 simp only [Act.put, List.getElem_toArray, List.getElem_cons_zero, List.getElem_cons_succ, List.setIfInBounds_toArray, List.set_cons_zero, List.set_cons_succ]
 refine wpAnyH_ready (rs := [12]) (by kernel_rfl) (by simp) ?_
 refine AllReadyH.cons rfl (fun K hK => ?_) AllReadyH.nil
 go_simp
 go_at_call 11
 refine (tvalid_any 2 (ofV (VT.of 5 (VT.base 3))) 5 A5 n5 c5 _ (RV.ty (RVB.at_ hX.out hHeld.1))).mono ?_
 rintro e v1 ⟨rfl, hbq⟩
 rw [aw13]
 dsimp only
 refine hK.out _ _ ?_ (fun hHeld => ?_)
 ·
  (try dsimp only)
  exact keepS.out _ _ hHeld hbq
 clear hK K
 try simp only [Act.put, List.getElem_toArray, List.getElem_cons_zero, List.getElem_cons_succ, List.setIfInBounds_toArray, List.set_cons_zero, List.set_cons_succ]
 refine wpAnyH_take (i := 13) (v := ?v33) rfl (by kernel_rfl) (by kernel_rfl) (by kernel_rfl) (fun _ _ _ h => h) (Or.inl ⟨by rfl, ?hy33⟩) (by assumption) ?rest33
 case hy33 => (intro w hSw; (try dsimp only at hSw); go_simp; try with_reducible rfl)
 simp only [Act.put, List.getElem_toArray, List.getElem_cons_zero, List.getElem_cons_succ, List.setIfInBounds_toArray, List.set_cons_zero, List.set_cons_succ]
 refine wpAnyH_take (i := 14) (v := ?v34) rfl (by kernel_rfl) (by kernel_rfl) (by kernel_rfl) (fun _ _ _ h => h) (Or.inl ⟨by rfl, ?hy34⟩) (by assumption) ?rest34
 case hy34 => (intro w hSw; (try dsimp only at hSw); go_simp; try with_reducible rfl)
 simp only [Act.put, List.getElem_toArray, List.getElem_cons_zero, List.getElem_cons_succ, List.setIfInBounds_toArray, List.set_cons_zero, List.set_cons_succ]
 refine wpAnyH_take (i := 15) (v := ?v35) rfl (by kernel_rfl) (by kernel_rfl) (by kernel_rfl) (fun _ _ _ h => h) (Or.inl ⟨by rfl, ?hy35⟩) (by assumption) ?rest35
 case hy35 => (intro w hSw; (try dsimp only at hSw); go_simp; try with_reducible rfl)
 simp only [Act.put, List.getElem_toArray, List.getElem_cons_zero, List.getElem_cons_succ, List.setIfInBounds_toArray, List.set_cons_zero, List.set_cons_succ]
 refine wpAnyH_take (i := 16) (v := ?v36) rfl (by kernel_rfl) (by kernel_rfl) (by kernel_rfl) (fun _ _ _ h => h) (Or.inl ⟨by rfl, ?hy36⟩) (by assumption) ?rest36
 case hy36 => (intro w hSw; (try dsimp only at hSw); go_simp; try with_reducible rfl)
 simp only [Act.put, List.getElem_toArray, List.getElem_cons_zero, List.getElem_cons_succ, List.setIfInBounds_toArray, List.set_cons_zero, List.set_cons_succ]
 refine wpAnyH_take (i := 17) (v := ?v37) rfl (by kernel_rfl) (by kernel_rfl) (by kernel_rfl) (fun _ _ _ h => h) (Or.inl ⟨by rfl, ?hy37⟩) (by assumption) ?rest37
 case hy37 => (intro w hSw; (try dsimp only at hSw); go_simp; try with_reducible rfl)
 simp only [Act.put, List.getElem_toArray, List.getElem_cons_zero, List.getElem_cons_succ, List.setIfInBounds_toArray, List.set_cons_zero, List.set_cons_succ]
 refine wpAnyH_ready (rs := [18]) (by kernel_rfl) (by simp) ?_
 refine AllReadyH.cons rfl (fun K hK => ?_) AllReadyH.nil
 go_simp
 go_at_call 33
 refine (with_any 5 3 none 0 0 _).mono ?_
 rintro e v18 ⟨g18, rfl, hg18, hC18, hbq⟩
 dsimp only
 refine hK.out _ _ ?_ (fun hHeld => ?_)
 ·
  (try dsimp only)
  exact keepS.out _ _ hHeld hbq
 clear hK K
 try simp only [Act.put, List.getElem_toArray, List.getElem_cons_zero, List.getElem_cons_succ, List.setIfInBounds_toArray, List.set_cons_zero, List.set_cons_succ]
 refine wpAnyH_ready (rs := [19]) (by kernel_rfl) (by simp) ?_
 refine AllReadyH.cons rfl (fun K hK => ?_) AllReadyH.nil
 go_simp
 go_at_call 15
 refine (same_any (VT.of 5 (VT.base 3)) (VT.of 5 (VT.base 3)) 5 A5 n5 c5 5 (some ⟨g18, 0, none⟩) 1 1 _ (by exact ⟨.inl rfl, by decide, by decide, by decide⟩) (by exact ⟨.inl rfl, by decide, by decide, by decide⟩) (RVB.at_ hX.out hHeld.1) (rv_mk hC18 hC18.lt (rv_scalar _ _ 3))).mono ?_
 rintro e v19 ⟨rfl, hbq⟩
 dsimp only
 refine hK.out _ _ ?_ (fun hHeld => ?_)
 ·
  (try dsimp only)
  exact keepS.out _ _ hHeld hbq
 clear hK K
 try dsimp only
 refine wpAnyH_take (i := 20) (v := ?v38) rfl (by kernel_rfl) (by kernel_rfl) (by kernel_rfl) (fun _ _ _ h => h) (Or.inl ⟨by rfl, ?hy38⟩) (by assumption) ?rest38
 case hy38 => (intro w hSw; (try dsimp only at hSw); go_simp; try with_reducible rfl)
 simp only [Act.put, List.getElem_toArray, List.getElem_cons_zero, List.getElem_cons_succ, List.setIfInBounds_toArray, List.set_cons_zero, List.set_cons_succ]
 refine wpAnyH_take (i := 21) (v := ?v39) rfl (by kernel_rfl) (by kernel_rfl) (by kernel_rfl) (fun _ _ _ h => h) (Or.inl ⟨by rfl, ?hy39⟩) (by assumption) ?rest39
 case hy39 => (intro w hSw; (try dsimp only at hSw); go_simp; try with_reducible rfl)
 simp only [Act.put, List.getElem_toArray, List.getElem_cons_zero, List.getElem_cons_succ, List.setIfInBounds_toArray, List.set_cons_zero, List.set_cons_succ]
 refine wpAnyH_take (i := 22) (v := ?v40) rfl (by kernel_rfl) (by kernel_rfl) (by kernel_rfl) (fun _ _ _ h => h) (Or.inl ⟨by rfl, ?hy40⟩) (by assumption) ?rest40
 case hy40 => (intro w hSw; (try dsimp only at hSw); go_simp; try with_reducible rfl)
 simp only [Act.put, List.getElem_toArray, List.getElem_cons_zero, List.getElem_cons_succ, List.setIfInBounds_toArray, List.set_cons_zero, List.set_cons_succ]
 refine wpAnyH_take (i := 23) (v := ?v41) rfl (by kernel_rfl) (by kernel_rfl) (by kernel_rfl) (fun _ _ _ h => h) (Or.inl ⟨by rfl, ?hy41⟩) (by assumption) ?rest41
 case hy41 => (intro w hSw; (try dsimp only at hSw); go_simp; try with_reducible rfl)
 simp only [Act.put, List.getElem_toArray, List.getElem_cons_zero, List.getElem_cons_succ, List.setIfInBounds_toArray, List.set_cons_zero, List.set_cons_succ]
 refine wpAnyH_take (i := 24) (v := ?v42) rfl (by kernel_rfl) (by kernel_rfl) (by kernel_rfl) (fun _ _ _ h => h) (Or.inl ⟨by rfl, ?hy42⟩) (by assumption) ?rest42
 case hy42 => (intro w hSw; (try dsimp only at hSw); go_simp; try with_reducible rfl)
 simp only [Act.put, List.getElem_toArray, List.getElem_cons_zero, List.getElem_cons_succ, List.setIfInBounds_toArray, List.set_cons_zero, List.set_cons_succ]
 refine wpAnyH_ready (rs := [25]) (by kernel_rfl) (by simp) ?_
 refine AllReadyH.cons rfl (fun K hK => ?_) AllReadyH.nil
 go_simp
 go_at_call 33
 refine (with_any 5 4 none 0 0 _).mono ?_
 rintro e v25 ⟨g25, rfl, hg25, hC25, hbq⟩
 dsimp only
 refine hK.out _ _ ?_ (fun hHeld => ?_)
 ·
  (try dsimp only)
  exact keepS.out _ _ hHeld hbq
 clear hK K
 try simp only [Act.put, List.getElem_toArray, List.getElem_cons_zero, List.getElem_cons_succ, List.setIfInBounds_toArray, List.set_cons_zero, List.set_cons_succ]
 refine wpAnyH_ready (rs := [26]) (by kernel_rfl) (by simp) ?_
 refine AllReadyH.cons rfl (fun K hK => ?_) AllReadyH.nil
 go_simp
 go_at_call 15
 refine (same_any (VT.of 5 (VT.base 4)) (VT.of 5 (VT.base 4)) 5 A6 n6 c6 5 (some ⟨g25, 0, none⟩) 1 1 _ (by exact ⟨.inl rfl, by decide, by decide, by decide⟩) (by exact ⟨.inl rfl, by decide, by decide, by decide⟩) (RVB.at_ hY.out hHeld.1) (rv_mk hC25 hC25.lt (rv_scalar _ _ 4))).mono ?_
 rintro e v26 ⟨rfl, hbq⟩
 dsimp only
 refine hK.out _ _ ?_ (fun hHeld => ?_)
 ·
  (try dsimp only)
  exact keepS.out _ _ hHeld hbq
 clear hK K
 try dsimp only
 refine wpAnyH_take (i := 27) (v := ?v43) rfl (by kernel_rfl) (by kernel_rfl) (by kernel_rfl) (fun _ _ _ h => h) (Or.inl ⟨by rfl, ?hy43⟩) (by assumption) ?rest43
 case hy43 => (intro w hSw; (try dsimp only at hSw); go_simp; try with_reducible rfl)
 simp only [Act.put, List.getElem_toArray, List.getElem_cons_zero, List.getElem_cons_succ, List.setIfInBounds_toArray, List.set_cons_zero, List.set_cons_succ]
 refine wpAnyH_take (i := 28) (v := ?v44) rfl (by kernel_rfl) (by kernel_rfl) (by kernel_rfl) (fun _ _ _ h => h) (Or.inl ⟨by rfl, ?hy44⟩) (by assumption) ?rest44
 case hy44 => (intro w hSw; (try dsimp only at hSw); go_simp; try with_reducible rfl)
 simp only [Act.put, List.getElem_toArray, List.getElem_cons_zero, List.getElem_cons_succ, List.setIfInBounds_toArray, List.set_cons_zero, List.set_cons_succ]
 refine wpAnyH_done (by kernel_rfl) ?_ _
 have hbW := hHeld.1
 clear hHeld hS1 keepS
 replace hX := hX.out
 replace hY := hY.out
 replace hZ := hZ.out
 have hO9 : OwnB w v26 [(q2.heap.size, [.int .i64 0, .slice A7 n7 c7]), (q1.heap.size, [.int .i64 5, .slice A6 n6 c6]), (q0.heap.size, [.int .i64 5, .slice A5 n5 c5]), (wo1.heap.size + 1, [.int .i64 4, .slice none 0 0]), (wo1.heap.size, [.int .i64 3, .slice none 0 0]), (w.heap.size + 1, [.int .i64 3, .bool false, .int .i64 0, .string ⟨#[97]⟩, .slice none 0 0, .slice none 0 0]), (w.heap.size, [.int .i64 2, .bool false, .int .i64 1, .string ⟨#[]⟩, .slice none 0 0, .slice none 0 0])] := hO8.kept hbW
 clear c0_0 c0_1 cf0 c1_0 c1_1 cf1 c2_0 c2_1 cf2 c3_0 c3_1 cf3 c4_0 c4_1 cf4 c5_0 c5_1 c5_2 c5_3 c5_4 c5_5 cf5 c6_0 c6_1 c6_2 c6_3 c6_4 c6_5 cf6 hO8
 have c0_0 := hO9.c 0 0
 have c0_1 := hO9.c 0 1
 have cf0 := hO9.fr 0
 have c1_0 := hO9.c 1 0
 have c1_1 := hO9.c 1 1
 have cf1 := hO9.fr 1
 have c2_0 := hO9.c 2 0
 have c2_1 := hO9.c 2 1
 have cf2 := hO9.fr 2
 have c3_0 := hO9.c 3 0
 have c3_1 := hO9.c 3 1
 have cf3 := hO9.fr 3
 have c4_0 := hO9.c 4 0
 have c4_1 := hO9.c 4 1
 have cf4 := hO9.fr 4
 have c5_0 := hO9.c 5 0
 have c5_1 := hO9.c 5 1
 have c5_2 := hO9.c 5 2
 have c5_3 := hO9.c 5 3
 have c5_4 := hO9.c 5 4
 have c5_5 := hO9.c 5 5
 have cf5 := hO9.fr 5
 have c6_0 := hO9.c 6 0
 have c6_1 := hO9.c 6 1
 have c6_2 := hO9.c 6 2
 have c6_3 := hO9.c 6 3
 have c6_4 := hO9.c 6 4
 have c6_5 := hO9.c 6 5
 have cf6 := hO9.fr 6
 replace hX := RVB.at_ hX hbW
 replace hY := RVB.at_ hY hbW
 replace hZ := RVB.at_ hZ hbW
 clear hbW
 clear hZ
 have CJ := tjoin_any _ _ (ofV (VT.of 5 (VT.base 3))) (ofV (VT.of 5 (VT.base 4))) 5 A5 n5 c5 5 A6 n6 c6 v26 (RV.ty hX) (RV.ty hY)
 rw [aw1] at CJ
 repeat' ((fail_if_success at_builtin); (first | go_skip | go_guarded | go_step))
 refine CJ.mono ?_
 clear CJ
 rintro e j1 ⟨A10, n10, c10, rfl, hJ, hbj1⟩
 dsimp only
 replace hJ : RVB j1 j1.heap.size (VT.of 5 (VT.base 0)) _ := hJ.imp (fun b h => h.elim (fun h => Nat.lt_of_lt_of_le h hbj1.size) (fun h => h.2))
 have hO10 : OwnB w j1 [(q2.heap.size, [.int .i64 0, .slice A7 n7 c7]), (q1.heap.size, [.int .i64 5, .slice A6 n6 c6]), (q0.heap.size, [.int .i64 5, .slice A5 n5 c5]), (wo1.heap.size + 1, [.int .i64 4, .slice none 0 0]), (wo1.heap.size, [.int .i64 3, .slice none 0 0]), (w.heap.size + 1, [.int .i64 3, .bool false, .int .i64 0, .string ⟨#[97]⟩, .slice none 0 0, .slice none 0 0]), (w.heap.size, [.int .i64 2, .bool false, .int .i64 1, .string ⟨#[]⟩, .slice none 0 0, .slice none 0 0])] := hO9.kept hbj1
 clear c0_0 c0_1 cf0 c1_0 c1_1 cf1 c2_0 c2_1 cf2 c3_0 c3_1 cf3 c4_0 c4_1 cf4 c5_0 c5_1 c5_2 c5_3 c5_4 c5_5 cf5 c6_0 c6_1 c6_2 c6_3 c6_4 c6_5 cf6 hO9
 have c0_0 := hO10.c 0 0
 have c0_1 := hO10.c 0 1
 have cf0 := hO10.fr 0
 have c1_0 := hO10.c 1 0
 have c1_1 := hO10.c 1 1
 have cf1 := hO10.fr 1
 have c2_0 := hO10.c 2 0
 have c2_1 := hO10.c 2 1
 have cf2 := hO10.fr 2
 have c3_0 := hO10.c 3 0
 have c3_1 := hO10.c 3 1
 have cf3 := hO10.fr 3
 have c4_0 := hO10.c 4 0
 have c4_1 := hO10.c 4 1
 have cf4 := hO10.fr 4
 have c5_0 := hO10.c 5 0
 have c5_1 := hO10.c 5 1
 have c5_2 := hO10.c 5 2
 have c5_3 := hO10.c 5 3
 have c5_4 := hO10.c 5 4
 have c5_5 := hO10.c 5 5
 have cf5 := hO10.fr 5
 have c6_0 := hO10.c 6 0
 have c6_1 := hO10.c 6 1
 have c6_2 := hO10.c 6 2
 have c6_3 := hO10.c 6 3
 have c6_4 := hO10.c 6 4
 have c6_5 := hO10.c 6 5
 have cf6 := hO10.fr 6
 replace hX := RVB.at_ hX hbj1
 replace hY := RVB.at_ hY hbj1
 have CJ := tshow_any 2 (ofV (VT.of 5 (VT.base 0))) ((VT.of 5 (VT.base 0)).kind : Int) A10 n10 c10 j1 (RV.ty hJ)
 rw [aw4, show strS [108, 105, 115, 116, 40, 97, 110, 121, 41] = (⟨#[108, 105, 115, 116, 40, 97, 110, 121, 41]⟩ : ByteArray) from rfl] at CJ
 repeat' ((fail_if_success at_builtin); (first | go_skip | go_guarded | go_step))
 refine CJ.mono ?_
 clear CJ
 rintro e s1 ⟨rfl, hbs1⟩
 dsimp only
 clear hJ
 have hO11 : OwnB w s1 [(q2.heap.size, [.int .i64 0, .slice A7 n7 c7]), (q1.heap.size, [.int .i64 5, .slice A6 n6 c6]), (q0.heap.size, [.int .i64 5, .slice A5 n5 c5]), (wo1.heap.size + 1, [.int .i64 4, .slice none 0 0]), (wo1.heap.size, [.int .i64 3, .slice none 0 0]), (w.heap.size + 1, [.int .i64 3, .bool false, .int .i64 0, .string ⟨#[97]⟩, .slice none 0 0, .slice none 0 0]), (w.heap.size, [.int .i64 2, .bool false, .int .i64 1, .string ⟨#[]⟩, .slice none 0 0, .slice none 0 0])] := hO10.kept hbs1
 clear c0_0 c0_1 cf0 c1_0 c1_1 cf1 c2_0 c2_1 cf2 c3_0 c3_1 cf3 c4_0 c4_1 cf4 c5_0 c5_1 c5_2 c5_3 c5_4 c5_5 cf5 c6_0 c6_1 c6_2 c6_3 c6_4 c6_5 cf6 hO10
 have c0_0 := hO11.c 0 0
 have c0_1 := hO11.c 0 1
 have cf0 := hO11.fr 0
 have c1_0 := hO11.c 1 0
 have c1_1 := hO11.c 1 1
 have cf1 := hO11.fr 1
 have c2_0 := hO11.c 2 0
 have c2_1 := hO11.c 2 1
 have cf2 := hO11.fr 2
 have c3_0 := hO11.c 3 0
 have c3_1 := hO11.c 3 1
 have cf3 := hO11.fr 3
 have c4_0 := hO11.c 4 0
 have c4_1 := hO11.c 4 1
 have cf4 := hO11.fr 4
 have c5_0 := hO11.c 5 0
 have c5_1 := hO11.c 5 1
 have c5_2 := hO11.c 5 2
 have c5_3 := hO11.c 5 3
 have c5_4 := hO11.c 5 4
 have c5_5 := hO11.c 5 5
 have cf5 := hO11.fr 5
 have c6_0 := hO11.c 6 0
 have c6_1 := hO11.c 6 1
 have c6_2 := hO11.c 6 2
 have c6_3 := hO11.c 6 3
 have c6_4 := hO11.c 6 4
 have c6_5 := hO11.c 6 5
 have cf6 := hO11.fr 6
 replace hX := RVB.at_ hX hbs1
 replace hY := RVB.at_ hY hbs1
 have CJ := tmeet_any _ _ (ofV (VT.of 5 (VT.base 3))) (ofV (VT.of 5 (VT.base 4))) 5 A5 n5 c5 5 A6 n6 c6 s1 (RV.ty hX) (RV.ty hY)
 rw [aw2] at CJ
 repeat' ((fail_if_success at_builtin); (first | go_skip | go_guarded | go_step))
 refine CJ.mono ?_
 clear CJ
 rintro e j2 ⟨A11, n11, c11, rfl, hJ, hbj2⟩
 dsimp only
 replace hJ : RVB j2 j2.heap.size (VT.of 5 (VT.base 7)) _ := hJ.imp (fun b h => h.elim (fun h => Nat.lt_of_lt_of_le h hbj2.size) (fun h => h.2))
 have hO12 : OwnB w j2 [(q2.heap.size, [.int .i64 0, .slice A7 n7 c7]), (q1.heap.size, [.int .i64 5, .slice A6 n6 c6]), (q0.heap.size, [.int .i64 5, .slice A5 n5 c5]), (wo1.heap.size + 1, [.int .i64 4, .slice none 0 0]), (wo1.heap.size, [.int .i64 3, .slice none 0 0]), (w.heap.size + 1, [.int .i64 3, .bool false, .int .i64 0, .string ⟨#[97]⟩, .slice none 0 0, .slice none 0 0]), (w.heap.size, [.int .i64 2, .bool false, .int .i64 1, .string ⟨#[]⟩, .slice none 0 0, .slice none 0 0])] := hO11.kept hbj2
 clear c0_0 c0_1 cf0 c1_0 c1_1 cf1 c2_0 c2_1 cf2 c3_0 c3_1 cf3 c4_0 c4_1 cf4 c5_0 c5_1 c5_2 c5_3 c5_4 c5_5 cf5 c6_0 c6_1 c6_2 c6_3 c6_4 c6_5 cf6 hO11
 have c0_0 := hO12.c 0 0
 have c0_1 := hO12.c 0 1
 have cf0 := hO12.fr 0
 have c1_0 := hO12.c 1 0
 have c1_1 := hO12.c 1 1
 have cf1 := hO12.fr 1
 have c2_0 := hO12.c 2 0
 have c2_1 := hO12.c 2 1
 have cf2 := hO12.fr 2
 have c3_0 := hO12.c 3 0
 have c3_1 := hO12.c 3 1
 have cf3 := hO12.fr 3
 have c4_0 := hO12.c 4 0
 have c4_1 := hO12.c 4 1
 have cf4 := hO12.fr 4
 have c5_0 := hO12.c 5 0
 have c5_1 := hO12.c 5 1
 have c5_2 := hO12.c 5 2
 have c5_3 := hO12.c 5 3
 have c5_4 := hO12.c 5 4
 have c5_5 := hO12.c 5 5
 have cf5 := hO12.fr 5
 have c6_0 := hO12.c 6 0
 have c6_1 := hO12.c 6 1
 have c6_2 := hO12.c 6 2
 have c6_3 := hO12.c 6 3
 have c6_4 := hO12.c 6 4
 have c6_5 := hO12.c 6 5
 have cf6 := hO12.fr 6
 replace hX := RVB.at_ hX hbj2
 replace hY := RVB.at_ hY hbj2
 have CJ := tshow_any 2 (ofV (VT.of 5 (VT.base 7))) ((VT.of 5 (VT.base 7)).kind : Int) A11 n11 c11 j2 (RV.ty hJ)
 rw [aw5, show strS [108, 105, 115, 116, 40, 110, 101, 118, 101, 114, 41] = (⟨#[108, 105, 115, 116, 40, 110, 101, 118, 101, 114, 41]⟩ : ByteArray) from rfl] at CJ
 repeat' ((fail_if_success at_builtin); (first | go_skip | go_guarded | go_step))
 refine CJ.mono ?_
 clear CJ
 rintro e s2 ⟨rfl, hbs2⟩
 dsimp only
 clear hJ
 have hO13 : OwnB w s2 [(q2.heap.size, [.int .i64 0, .slice A7 n7 c7]), (q1.heap.size, [.int .i64 5, .slice A6 n6 c6]), (q0.heap.size, [.int .i64 5, .slice A5 n5 c5]), (wo1.heap.size + 1, [.int .i64 4, .slice none 0 0]), (wo1.heap.size, [.int .i64 3, .slice none 0 0]), (w.heap.size + 1, [.int .i64 3, .bool false, .int .i64 0, .string ⟨#[97]⟩, .slice none 0 0, .slice none 0 0]), (w.heap.size, [.int .i64 2, .bool false, .int .i64 1, .string ⟨#[]⟩, .slice none 0 0, .slice none 0 0])] := hO12.kept hbs2
 clear c0_0 c0_1 cf0 c1_0 c1_1 cf1 c2_0 c2_1 cf2 c3_0 c3_1 cf3 c4_0 c4_1 cf4 c5_0 c5_1 c5_2 c5_3 c5_4 c5_5 cf5 c6_0 c6_1 c6_2 c6_3 c6_4 c6_5 cf6 hO12
 have c0_0 := hO13.c 0 0
 have c0_1 := hO13.c 0 1
 have cf0 := hO13.fr 0
 have c1_0 := hO13.c 1 0
 have c1_1 := hO13.c 1 1
 have cf1 := hO13.fr 1
 have c2_0 := hO13.c 2 0
 have c2_1 := hO13.c 2 1
 have cf2 := hO13.fr 2
 have c3_0 := hO13.c 3 0
 have c3_1 := hO13.c 3 1
 have cf3 := hO13.fr 3
 have c4_0 := hO13.c 4 0
 have c4_1 := hO13.c 4 1
 have cf4 := hO13.fr 4
 have c5_0 := hO13.c 5 0
 have c5_1 := hO13.c 5 1
 have c5_2 := hO13.c 5 2
 have c5_3 := hO13.c 5 3
 have c5_4 := hO13.c 5 4
 have c5_5 := hO13.c 5 5
 have cf5 := hO13.fr 5
 have c6_0 := hO13.c 6 0
 have c6_1 := hO13.c 6 1
 have c6_2 := hO13.c 6 2
 have c6_3 := hO13.c 6 3
 have c6_4 := hO13.c 6 4
 have c6_5 := hO13.c 6 5
 have cf6 := hO13.fr 6
 replace hX := RVB.at_ hX hbs2
 replace hY := RVB.at_ hY hbs2
 have CJ := tmeet_any _ _ (ofV (VT.of 5 (VT.base 3))) (ofV (VT.base 3)) 5 A5 n5 c5 3 none 0 0 s2 (RV.ty hX) (by exact RV.ty (rv_scalar _ _ 3))
 rw [aw3] at CJ
 repeat' ((fail_if_success at_builtin); (first | go_skip | go_guarded | go_step))
 refine CJ.mono ?_
 clear CJ
 rintro e j3 ⟨A12, n12, c12, rfl, hJ, hbj3⟩
 dsimp only
 replace hJ : RVB j3 j3.heap.size (VT.base 7) _ := hJ.imp (fun b h => h.elim (fun h => Nat.lt_of_lt_of_le h hbj3.size) (fun h => h.2))
 have hO14 : OwnB w j3 [(q2.heap.size, [.int .i64 0, .slice A7 n7 c7]), (q1.heap.size, [.int .i64 5, .slice A6 n6 c6]), (q0.heap.size, [.int .i64 5, .slice A5 n5 c5]), (wo1.heap.size + 1, [.int .i64 4, .slice none 0 0]), (wo1.heap.size, [.int .i64 3, .slice none 0 0]), (w.heap.size + 1, [.int .i64 3, .bool false, .int .i64 0, .string ⟨#[97]⟩, .slice none 0 0, .slice none 0 0]), (w.heap.size, [.int .i64 2, .bool false, .int .i64 1, .string ⟨#[]⟩, .slice none 0 0, .slice none 0 0])] := hO13.kept hbj3
 clear c0_0 c0_1 cf0 c1_0 c1_1 cf1 c2_0 c2_1 cf2 c3_0 c3_1 cf3 c4_0 c4_1 cf4 c5_0 c5_1 c5_2 c5_3 c5_4 c5_5 cf5 c6_0 c6_1 c6_2 c6_3 c6_4 c6_5 cf6 hO13
 have c0_0 := hO14.c 0 0
 have c0_1 := hO14.c 0 1
 have cf0 := hO14.fr 0
 have c1_0 := hO14.c 1 0
 have c1_1 := hO14.c 1 1
 have cf1 := hO14.fr 1
 have c2_0 := hO14.c 2 0
 have c2_1 := hO14.c 2 1
 have cf2 := hO14.fr 2
 have c3_0 := hO14.c 3 0
 have c3_1 := hO14.c 3 1
 have cf3 := hO14.fr 3
 have c4_0 := hO14.c 4 0
 have c4_1 := hO14.c 4 1
 have cf4 := hO14.fr 4
 have c5_0 := hO14.c 5 0
 have c5_1 := hO14.c 5 1
 have c5_2 := hO14.c 5 2
 have c5_3 := hO14.c 5 3
 have c5_4 := hO14.c 5 4
 have c5_5 := hO14.c 5 5
 have cf5 := hO14.fr 5
 have c6_0 := hO14.c 6 0
 have c6_1 := hO14.c 6 1
 have c6_2 := hO14.c 6 2
 have c6_3 := hO14.c 6 3
 have c6_4 := hO14.c 6 4
 have c6_5 := hO14.c 6 5
 have cf6 := hO14.fr 6
 replace hX := RVB.at_ hX hbj3
 replace hY := RVB.at_ hY hbj3
 have CJ := tshow_any 1 (ofV (VT.base 7)) ((VT.base 7).kind : Int) A12 n12 c12 j3 (RV.ty hJ)
 rw [aw6, show strS [110, 101, 118, 101, 114] = (⟨#[110, 101, 118, 101, 114]⟩ : ByteArray) from rfl] at CJ
 repeat' ((fail_if_success at_builtin); (first | go_skip | go_guarded | go_step))
 refine CJ.mono ?_
 clear CJ
 rintro e s3 ⟨rfl, hbs3⟩
 dsimp only
 clear hJ
 have hO15 : OwnB w s3 [(q2.heap.size, [.int .i64 0, .slice A7 n7 c7]), (q1.heap.size, [.int .i64 5, .slice A6 n6 c6]), (q0.heap.size, [.int .i64 5, .slice A5 n5 c5]), (wo1.heap.size + 1, [.int .i64 4, .slice none 0 0]), (wo1.heap.size, [.int .i64 3, .slice none 0 0]), (w.heap.size + 1, [.int .i64 3, .bool false, .int .i64 0, .string ⟨#[97]⟩, .slice none 0 0, .slice none 0 0]), (w.heap.size, [.int .i64 2, .bool false, .int .i64 1, .string ⟨#[]⟩, .slice none 0 0, .slice none 0 0])] := hO14.kept hbs3
 clear c0_0 c0_1 cf0 c1_0 c1_1 cf1 c2_0 c2_1 cf2 c3_0 c3_1 cf3 c4_0 c4_1 cf4 c5_0 c5_1 c5_2 c5_3 c5_4 c5_5 cf5 c6_0 c6_1 c6_2 c6_3 c6_4 c6_5 cf6 hO14
 have c0_0 := hO15.c 0 0
 have c0_1 := hO15.c 0 1
 have cf0 := hO15.fr 0
 have c1_0 := hO15.c 1 0
 have c1_1 := hO15.c 1 1
 have cf1 := hO15.fr 1
 have c2_0 := hO15.c 2 0
 have c2_1 := hO15.c 2 1
 have cf2 := hO15.fr 2
 have c3_0 := hO15.c 3 0
 have c3_1 := hO15.c 3 1
 have cf3 := hO15.fr 3
 have c4_0 := hO15.c 4 0
 have c4_1 := hO15.c 4 1
 have cf4 := hO15.fr 4
 have c5_0 := hO15.c 5 0
 have c5_1 := hO15.c 5 1
 have c5_2 := hO15.c 5 2
 have c5_3 := hO15.c 5 3
 have c5_4 := hO15.c 5 4
 have c5_5 := hO15.c 5 5
 have cf5 := hO15.fr 5
 have c6_0 := hO15.c 6 0
 have c6_1 := hO15.c 6 1
 have c6_2 := hO15.c 6 2
 have c6_3 := hO15.c 6 3
 have c6_4 := hO15.c 6 4
 have c6_5 := hO15.c 6 5
 have cf6 := hO15.fr 6
 replace hX := RVB.at_ hX hbs3
 replace hY := RVB.at_ hY hbs3
 go_upto_region 11 with (fail)
 generalize hx_ : World.alloc (World.alloc s3 _) _ = wo16
 have hO16 : OwnB w wo16 [(s3.heap.size + 1, [.int .i64 4, .bool false, .int .i64 0, .string ⟨#[]⟩, .slice (some ⟨s3.heap.size, 0, none⟩) 2 2, .slice none 0 0]), (s3.heap.size, [.int .i64 2, .bool false, .int .i64 1, .string ⟨#[]⟩, .slice none 0 0, .slice none 0 0, .int .i64 3, .bool false, .int .i64 0, .string ⟨#[97]⟩, .slice none 0 0, .slice none 0 0]), (q2.heap.size, [.int .i64 0, .slice A7 n7 c7]), (q1.heap.size, [.int .i64 5, .slice A6 n6 c6]), (q0.heap.size, [.int .i64 5, .slice A5 n5 c5]), (wo1.heap.size + 1, [.int .i64 4, .slice none 0 0]), (wo1.heap.size, [.int .i64 3, .slice none 0 0]), (w.heap.size + 1, [.int .i64 3, .bool false, .int .i64 0, .string ⟨#[97]⟩, .slice none 0 0, .slice none 0 0]), (w.heap.size, [.int .i64 2, .bool false, .int .i64 1, .string ⟨#[]⟩, .slice none 0 0, .slice none 0 0])] := by rw [← hx_]; exact (hO15.new #[.int .i64 2, .bool false, .int .i64 1, .string ⟨#[]⟩, .slice none 0 0, .slice none 0 0, .int .i64 3, .bool false, .int .i64 0, .string ⟨#[97]⟩, .slice none 0 0, .slice none 0 0] _ (g := s3.heap.size)).new #[.int .i64 4, .bool false, .int .i64 0, .string ⟨#[]⟩, .slice (some ⟨s3.heap.size, 0, none⟩) 2 2, .slice none 0 0] _ (g := s3.heap.size + 1)
 have hbn : Below s3.heap.size s3 wo16 := by rw [← hx_]; exact ((Below.refl _ _).alloc (Nat.le_refl _) _).alloc (by simp) _
 clear hx_ c0_0 c0_1 cf0 c1_0 c1_1 cf1 c2_0 c2_1 cf2 c3_0 c3_1 cf3 c4_0 c4_1 cf4 c5_0 c5_1 c5_2 c5_3 c5_4 c5_5 cf5 c6_0 c6_1 c6_2 c6_3 c6_4 c6_5 cf6 hO15
 have c0_0 := hO16.c 0 0
 have c0_1 := hO16.c 0 1
 have c0_2 := hO16.c 0 2
 have c0_3 := hO16.c 0 3
 have c0_4 := hO16.c 0 4
 have c0_5 := hO16.c 0 5
 have cf0 := hO16.fr 0
 have c1_0 := hO16.c 1 0
 have c1_1 := hO16.c 1 1
 have c1_2 := hO16.c 1 2
 have c1_3 := hO16.c 1 3
 have c1_4 := hO16.c 1 4
 have c1_5 := hO16.c 1 5
 have c1_6 := hO16.c 1 6
 have c1_7 := hO16.c 1 7
 have c1_8 := hO16.c 1 8
 have c1_9 := hO16.c 1 9
 have c1_10 := hO16.c 1 10
 have c1_11 := hO16.c 1 11
 have cf1 := hO16.fr 1
 have c2_0 := hO16.c 2 0
 have c2_1 := hO16.c 2 1
 have cf2 := hO16.fr 2
 have c3_0 := hO16.c 3 0
 have c3_1 := hO16.c 3 1
 have cf3 := hO16.fr 3
 have c4_0 := hO16.c 4 0
 have c4_1 := hO16.c 4 1
 have cf4 := hO16.fr 4
 have c5_0 := hO16.c 5 0
 have c5_1 := hO16.c 5 1
 have cf5 := hO16.fr 5
 have c6_0 := hO16.c 6 0
 have c6_1 := hO16.c 6 1
 have cf6 := hO16.fr 6
 have c7_0 := hO16.c 7 0
 have c7_1 := hO16.c 7 1
 have c7_2 := hO16.c 7 2
 have c7_3 := hO16.c 7 3
 have c7_4 := hO16.c 7 4
 have c7_5 := hO16.c 7 5
 have cf7 := hO16.fr 7
 have c8_0 := hO16.c 8 0
 have c8_1 := hO16.c 8 1
 have c8_2 := hO16.c 8 2
 have c8_3 := hO16.c 8 3
 have c8_4 := hO16.c 8 4
 have c8_5 := hO16.c 8 5
 have cf8 := hO16.fr 8
 replace hX := RVB.at_ hX hbn
 replace hY := RVB.at_ hY hbn
 clear hbn
 have CJ := tof_any 1 vNil 4 false 0 ⟨#[]⟩ none 0 0 none 0 0 wo16 (rvl_leaf _ _ _ _ _ _)
 rw [aw7] at CJ
 repeat' ((fail_if_success at_builtin); (first | go_skip | go_guarded | go_step))
 refine CJ.mono ?_
 clear CJ
 rintro e f1 ⟨A13, n13, c13, rfl, hE, hbf1⟩
 dsimp only
 replace hE : RVB f1 f1.heap.size (VT.of 5 (VT.base 7)) _ := hE.imp (fun b h => h.elim False.elim (fun h => h.2))
 have hO17 : OwnB w f1 [(s3.heap.size + 1, [.int .i64 4, .bool false, .int .i64 0, .string ⟨#[]⟩, .slice (some ⟨s3.heap.size, 0, none⟩) 2 2, .slice none 0 0]), (s3.heap.size, [.int .i64 2, .bool false, .int .i64 1, .string ⟨#[]⟩, .slice none 0 0, .slice none 0 0, .int .i64 3, .bool false, .int .i64 0, .string ⟨#[97]⟩, .slice none 0 0, .slice none 0 0]), (q2.heap.size, [.int .i64 0, .slice A7 n7 c7]), (q1.heap.size, [.int .i64 5, .slice A6 n6 c6]), (q0.heap.size, [.int .i64 5, .slice A5 n5 c5]), (wo1.heap.size + 1, [.int .i64 4, .slice none 0 0]), (wo1.heap.size, [.int .i64 3, .slice none 0 0]), (w.heap.size + 1, [.int .i64 3, .bool false, .int .i64 0, .string ⟨#[97]⟩, .slice none 0 0, .slice none 0 0]), (w.heap.size, [.int .i64 2, .bool false, .int .i64 1, .string ⟨#[]⟩, .slice none 0 0, .slice none 0 0])] := hO16.kept hbf1
 clear c0_0 c0_1 c0_2 c0_3 c0_4 c0_5 cf0 c1_0 c1_1 c1_2 c1_3 c1_4 c1_5 c1_6 c1_7 c1_8 c1_9 c1_10 c1_11 cf1 c2_0 c2_1 cf2 c3_0 c3_1 cf3 c4_0 c4_1 cf4 c5_0 c5_1 cf5 c6_0 c6_1 cf6 c7_0 c7_1 c7_2 c7_3 c7_4 c7_5 cf7 c8_0 c8_1 c8_2 c8_3 c8_4 c8_5 cf8 hO16
 have c0_0 := hO17.c 0 0
 have c0_1 := hO17.c 0 1
 have c0_2 := hO17.c 0 2
 have c0_3 := hO17.c 0 3
 have c0_4 := hO17.c 0 4
 have c0_5 := hO17.c 0 5
 have cf0 := hO17.fr 0
 have c1_0 := hO17.c 1 0
 have c1_1 := hO17.c 1 1
 have c1_2 := hO17.c 1 2
 have c1_3 := hO17.c 1 3
 have c1_4 := hO17.c 1 4
 have c1_5 := hO17.c 1 5
 have c1_6 := hO17.c 1 6
 have c1_7 := hO17.c 1 7
 have c1_8 := hO17.c 1 8
 have c1_9 := hO17.c 1 9
 have c1_10 := hO17.c 1 10
 have c1_11 := hO17.c 1 11
 have cf1 := hO17.fr 1
 have c2_0 := hO17.c 2 0
 have c2_1 := hO17.c 2 1
 have cf2 := hO17.fr 2
 have c3_0 := hO17.c 3 0
 have c3_1 := hO17.c 3 1
 have cf3 := hO17.fr 3
 have c4_0 := hO17.c 4 0
 have c4_1 := hO17.c 4 1
 have cf4 := hO17.fr 4
 have c5_0 := hO17.c 5 0
 have c5_1 := hO17.c 5 1
 have cf5 := hO17.fr 5
 have c6_0 := hO17.c 6 0
 have c6_1 := hO17.c 6 1
 have cf6 := hO17.fr 6
 have c7_0 := hO17.c 7 0
 have c7_1 := hO17.c 7 1
 have c7_2 := hO17.c 7 2
 have c7_3 := hO17.c 7 3
 have c7_4 := hO17.c 7 4
 have c7_5 := hO17.c 7 5
 have cf7 := hO17.fr 7
 have c8_0 := hO17.c 8 0
 have c8_1 := hO17.c 8 1
 have c8_2 := hO17.c 8 2
 have c8_3 := hO17.c 8 3
 have c8_4 := hO17.c 8 4
 have c8_5 := hO17.c 8 5
 have cf8 := hO17.fr 8
 replace hX := RVB.at_ hX hbf1
 replace hY := RVB.at_ hY hbf1
 go_upto_region 12 with (fail)
 generalize hx_ : World.alloc f1 _ = wo18
 have hO18 : OwnB w wo18 [(f1.heap.size, [.int .i64 ((VT.of 5 (VT.base 7)).kind : Int), .slice A13 n13 c13]), (s3.heap.size + 1, [.int .i64 4, .bool false, .int .i64 0, .string ⟨#[]⟩, .slice (some ⟨s3.heap.size, 0, none⟩) 2 2, .slice none 0 0]), (s3.heap.size, [.int .i64 2, .bool false, .int .i64 1, .string ⟨#[]⟩, .slice none 0 0, .slice none 0 0, .int .i64 3, .bool false, .int .i64 0, .string ⟨#[97]⟩, .slice none 0 0, .slice none 0 0]), (q2.heap.size, [.int .i64 0, .slice A7 n7 c7]), (q1.heap.size, [.int .i64 5, .slice A6 n6 c6]), (q0.heap.size, [.int .i64 5, .slice A5 n5 c5]), (wo1.heap.size + 1, [.int .i64 4, .slice none 0 0]), (wo1.heap.size, [.int .i64 3, .slice none 0 0]), (w.heap.size + 1, [.int .i64 3, .bool false, .int .i64 0, .string ⟨#[97]⟩, .slice none 0 0, .slice none 0 0]), (w.heap.size, [.int .i64 2, .bool false, .int .i64 1, .string ⟨#[]⟩, .slice none 0 0, .slice none 0 0])] := by rw [← hx_]; exact hO17.new #[.int .i64 ((VT.of 5 (VT.base 7)).kind : Int), .slice A13 n13 c13] _ (g := f1.heap.size)
 have hbn : Below f1.heap.size f1 wo18 := by rw [← hx_]; exact (Below.refl _ _).alloc (Nat.le_refl _) _
 clear hx_ c0_0 c0_1 c0_2 c0_3 c0_4 c0_5 cf0 c1_0 c1_1 c1_2 c1_3 c1_4 c1_5 c1_6 c1_7 c1_8 c1_9 c1_10 c1_11 cf1 c2_0 c2_1 cf2 c3_0 c3_1 cf3 c4_0 c4_1 cf4 c5_0 c5_1 cf5 c6_0 c6_1 cf6 c7_0 c7_1 c7_2 c7_3 c7_4 c7_5 cf7 c8_0 c8_1 c8_2 c8_3 c8_4 c8_5 cf8 hO17
 have c0_0 := hO18.c 0 0
 have c0_1 := hO18.c 0 1
 have cf0 := hO18.fr 0
 have c1_0 := hO18.c 1 0
 have c1_1 := hO18.c 1 1
 have c1_2 := hO18.c 1 2
 have c1_3 := hO18.c 1 3
 have c1_4 := hO18.c 1 4
 have c1_5 := hO18.c 1 5
 have cf1 := hO18.fr 1
 have c2_0 := hO18.c 2 0
 have c2_1 := hO18.c 2 1
 have c2_2 := hO18.c 2 2
 have c2_3 := hO18.c 2 3
 have c2_4 := hO18.c 2 4
 have c2_5 := hO18.c 2 5
 have c2_6 := hO18.c 2 6
 have c2_7 := hO18.c 2 7
 have c2_8 := hO18.c 2 8
 have c2_9 := hO18.c 2 9
 have c2_10 := hO18.c 2 10
 have c2_11 := hO18.c 2 11
 have cf2 := hO18.fr 2
 have c3_0 := hO18.c 3 0
 have c3_1 := hO18.c 3 1
 have cf3 := hO18.fr 3
 have c4_0 := hO18.c 4 0
 have c4_1 := hO18.c 4 1
 have cf4 := hO18.fr 4
 have c5_0 := hO18.c 5 0
 have c5_1 := hO18.c 5 1
 have cf5 := hO18.fr 5
 have c6_0 := hO18.c 6 0
 have c6_1 := hO18.c 6 1
 have cf6 := hO18.fr 6
 have c7_0 := hO18.c 7 0
 have c7_1 := hO18.c 7 1
 have cf7 := hO18.fr 7
 have c8_0 := hO18.c 8 0
 have c8_1 := hO18.c 8 1
 have c8_2 := hO18.c 8 2
 have c8_3 := hO18.c 8 3
 have c8_4 := hO18.c 8 4
 have c8_5 := hO18.c 8 5
 have cf8 := hO18.fr 8
 have c9_0 := hO18.c 9 0
 have c9_1 := hO18.c 9 1
 have c9_2 := hO18.c 9 2
 have c9_3 := hO18.c 9 3
 have c9_4 := hO18.c 9 4
 have c9_5 := hO18.c 9 5
 have cf9 := hO18.fr 9
 replace hX := RVB.at_ hX hbn
 replace hY := RVB.at_ hY hbn
 replace hE := RVB.at_ hE hbn
 clear hbn
 have CJ := tof_any 2 vTwo 4 false 0 ⟨#[]⟩ (some ⟨s3.heap.size, 0, none⟩) 2 2 none 0 0 wo18 (rvl_two (g := s3.heap.size) (cx := [.int .i64 2, .bool false, .int .i64 1, .string ⟨#[]⟩, .slice none 0 0, .slice none 0 0]) (cy := [.int .i64 3, .bool false, .int .i64 0, .string ⟨#[97]⟩, .slice none 0 0, .slice none 0 0]) (hO18.all 2 _ _ rfl).2 (hO18.lt 2) rfl rfl (rvl_leaf _ _ _ _ _ _) (rvl_leaf _ _ _ _ _ _))
 rw [aw8] at CJ
 repeat' ((fail_if_success at_builtin); (first | go_skip | go_guarded | go_step))
 refine CJ.mono ?_
 clear CJ
 rintro e f2 ⟨A14, n14, c14, rfl, hJ, hbf2⟩
 dsimp only
 replace hJ : RVB f2 f2.heap.size (VT.of 5 (VT.base 0)) _ := hJ.imp (fun b h => h.elim False.elim (fun h => h.2))
 have hO19 : OwnB w f2 [(f1.heap.size, [.int .i64 ((VT.of 5 (VT.base 7)).kind : Int), .slice A13 n13 c13]), (s3.heap.size + 1, [.int .i64 4, .bool false, .int .i64 0, .string ⟨#[]⟩, .slice (some ⟨s3.heap.size, 0, none⟩) 2 2, .slice none 0 0]), (s3.heap.size, [.int .i64 2, .bool false, .int .i64 1, .string ⟨#[]⟩, .slice none 0 0, .slice none 0 0, .int .i64 3, .bool false, .int .i64 0, .string ⟨#[97]⟩, .slice none 0 0, .slice none 0 0]), (q2.heap.size, [.int .i64 0, .slice A7 n7 c7]), (q1.heap.size, [.int .i64 5, .slice A6 n6 c6]), (q0.heap.size, [.int .i64 5, .slice A5 n5 c5]), (wo1.heap.size + 1, [.int .i64 4, .slice none 0 0]), (wo1.heap.size, [.int .i64 3, .slice none 0 0]), (w.heap.size + 1, [.int .i64 3, .bool false, .int .i64 0, .string ⟨#[97]⟩, .slice none 0 0, .slice none 0 0]), (w.heap.size, [.int .i64 2, .bool false, .int .i64 1, .string ⟨#[]⟩, .slice none 0 0, .slice none 0 0])] := hO18.kept hbf2
 clear c0_0 c0_1 cf0 c1_0 c1_1 c1_2 c1_3 c1_4 c1_5 cf1 c2_0 c2_1 c2_2 c2_3 c2_4 c2_5 c2_6 c2_7 c2_8 c2_9 c2_10 c2_11 cf2 c3_0 c3_1 cf3 c4_0 c4_1 cf4 c5_0 c5_1 cf5 c6_0 c6_1 cf6 c7_0 c7_1 cf7 c8_0 c8_1 c8_2 c8_3 c8_4 c8_5 cf8 c9_0 c9_1 c9_2 c9_3 c9_4 c9_5 cf9 hO18
 have c0_0 := hO19.c 0 0
 have c0_1 := hO19.c 0 1
 have cf0 := hO19.fr 0
 have c1_0 := hO19.c 1 0
 have c1_1 := hO19.c 1 1
 have c1_2 := hO19.c 1 2
 have c1_3 := hO19.c 1 3
 have c1_4 := hO19.c 1 4
 have c1_5 := hO19.c 1 5
 have cf1 := hO19.fr 1
 have c2_0 := hO19.c 2 0
 have c2_1 := hO19.c 2 1
 have c2_2 := hO19.c 2 2
 have c2_3 := hO19.c 2 3
 have c2_4 := hO19.c 2 4
 have c2_5 := hO19.c 2 5
 have c2_6 := hO19.c 2 6
 have c2_7 := hO19.c 2 7
 have c2_8 := hO19.c 2 8
 have c2_9 := hO19.c 2 9
 have c2_10 := hO19.c 2 10
 have c2_11 := hO19.c 2 11
 have cf2 := hO19.fr 2
 have c3_0 := hO19.c 3 0
 have c3_1 := hO19.c 3 1
 have cf3 := hO19.fr 3
 have c4_0 := hO19.c 4 0
 have c4_1 := hO19.c 4 1
 have cf4 := hO19.fr 4
 have c5_0 := hO19.c 5 0
 have c5_1 := hO19.c 5 1
 have cf5 := hO19.fr 5
 have c6_0 := hO19.c 6 0
 have c6_1 := hO19.c 6 1
 have cf6 := hO19.fr 6
 have c7_0 := hO19.c 7 0
 have c7_1 := hO19.c 7 1
 have cf7 := hO19.fr 7
 have c8_0 := hO19.c 8 0
 have c8_1 := hO19.c 8 1
 have c8_2 := hO19.c 8 2
 have c8_3 := hO19.c 8 3
 have c8_4 := hO19.c 8 4
 have c8_5 := hO19.c 8 5
 have cf8 := hO19.fr 8
 have c9_0 := hO19.c 9 0
 have c9_1 := hO19.c 9 1
 have c9_2 := hO19.c 9 2
 have c9_3 := hO19.c 9 3
 have c9_4 := hO19.c 9 4
 have c9_5 := hO19.c 9 5
 have cf9 := hO19.fr 9
 replace hX := RVB.at_ hX hbf2
 replace hY := RVB.at_ hY hbf2
 replace hE := RVB.at_ hE hbf2
 have CJ := tshow_any 2 (ofV (VT.of 5 (VT.base 0))) ((VT.of 5 (VT.base 0)).kind : Int) A14 n14 c14 f2 (RV.ty hJ)
 rw [aw4, show strS [108, 105, 115, 116, 40, 97, 110, 121, 41] = (⟨#[108, 105, 115, 116, 40, 97, 110, 121, 41]⟩ : ByteArray) from rfl] at CJ
 repeat' ((fail_if_success at_builtin); (first | go_skip | go_guarded | go_step))
 refine CJ.mono ?_
 clear CJ
 rintro e s4 ⟨rfl, hbs4⟩
 dsimp only
 clear hJ
 have hO20 : OwnB w s4 [(f1.heap.size, [.int .i64 ((VT.of 5 (VT.base 7)).kind : Int), .slice A13 n13 c13]), (s3.heap.size + 1, [.int .i64 4, .bool false, .int .i64 0, .string ⟨#[]⟩, .slice (some ⟨s3.heap.size, 0, none⟩) 2 2, .slice none 0 0]), (s3.heap.size, [.int .i64 2, .bool false, .int .i64 1, .string ⟨#[]⟩, .slice none 0 0, .slice none 0 0, .int .i64 3, .bool false, .int .i64 0, .string ⟨#[97]⟩, .slice none 0 0, .slice none 0 0]), (q2.heap.size, [.int .i64 0, .slice A7 n7 c7]), (q1.heap.size, [.int .i64 5, .slice A6 n6 c6]), (q0.heap.size, [.int .i64 5, .slice A5 n5 c5]), (wo1.heap.size + 1, [.int .i64 4, .slice none 0 0]), (wo1.heap.size, [.int .i64 3, .slice none 0 0]), (w.heap.size + 1, [.int .i64 3, .bool false, .int .i64 0, .string ⟨#[97]⟩, .slice none 0 0, .slice none 0 0]), (w.heap.size, [.int .i64 2, .bool false, .int .i64 1, .string ⟨#[]⟩, .slice none 0 0, .slice none 0 0])] := hO19.kept hbs4
 clear c0_0 c0_1 cf0 c1_0 c1_1 c1_2 c1_3 c1_4 c1_5 cf1 c2_0 c2_1 c2_2 c2_3 c2_4 c2_5 c2_6 c2_7 c2_8 c2_9 c2_10 c2_11 cf2 c3_0 c3_1 cf3 c4_0 c4_1 cf4 c5_0 c5_1 cf5 c6_0 c6_1 cf6 c7_0 c7_1 cf7 c8_0 c8_1 c8_2 c8_3 c8_4 c8_5 cf8 c9_0 c9_1 c9_2 c9_3 c9_4 c9_5 cf9 hO19
 have c0_0 := hO20.c 0 0
 have c0_1 := hO20.c 0 1
 have cf0 := hO20.fr 0
 have c1_0 := hO20.c 1 0
 have c1_1 := hO20.c 1 1
 have c1_2 := hO20.c 1 2
 have c1_3 := hO20.c 1 3
 have c1_4 := hO20.c 1 4
 have c1_5 := hO20.c 1 5
 have cf1 := hO20.fr 1
 have c2_0 := hO20.c 2 0
 have c2_1 := hO20.c 2 1
 have c2_2 := hO20.c 2 2
 have c2_3 := hO20.c 2 3
 have c2_4 := hO20.c 2 4
 have c2_5 := hO20.c 2 5
 have c2_6 := hO20.c 2 6
 have c2_7 := hO20.c 2 7
 have c2_8 := hO20.c 2 8
 have c2_9 := hO20.c 2 9
 have c2_10 := hO20.c 2 10
 have c2_11 := hO20.c 2 11
 have cf2 := hO20.fr 2
 have c3_0 := hO20.c 3 0
 have c3_1 := hO20.c 3 1
 have cf3 := hO20.fr 3
 have c4_0 := hO20.c 4 0
 have c4_1 := hO20.c 4 1
 have cf4 := hO20.fr 4
 have c5_0 := hO20.c 5 0
 have c5_1 := hO20.c 5 1
 have cf5 := hO20.fr 5
 have c6_0 := hO20.c 6 0
 have c6_1 := hO20.c 6 1
 have cf6 := hO20.fr 6
 have c7_0 := hO20.c 7 0
 have c7_1 := hO20.c 7 1
 have cf7 := hO20.fr 7
 have c8_0 := hO20.c 8 0
 have c8_1 := hO20.c 8 1
 have c8_2 := hO20.c 8 2
 have c8_3 := hO20.c 8 3
 have c8_4 := hO20.c 8 4
 have c8_5 := hO20.c 8 5
 have cf8 := hO20.fr 8
 have c9_0 := hO20.c 9 0
 have c9_1 := hO20.c 9 1
 have c9_2 := hO20.c 9 2
 have c9_3 := hO20.c 9 3
 have c9_4 := hO20.c 9 4
 have c9_5 := hO20.c 9 5
 have cf9 := hO20.fr 9
 replace hX := RVB.at_ hX hbs4
 replace hY := RVB.at_ hY hbs4
 replace hE := RVB.at_ hE hbs4
 have CJ := sub_any _ _ (ofV (VT.of 5 (VT.base 7))) (ofV (VT.of 5 (VT.base 3))) ((VT.of 5 (VT.base 7)).kind : Int) A13 n13 c13 5 A5 n5 c5 s4 (RV.ty hE) (RV.ty hX)
 rw [aw9] at CJ
 repeat' ((fail_if_success at_builtin); (first | go_skip | go_guarded | go_step))
 refine CJ.mono ?_
 clear CJ
 rintro e s5 ⟨rfl, hbs5⟩
 dsimp only
 have hO21 : OwnB w s5 [(f1.heap.size, [.int .i64 ((VT.of 5 (VT.base 7)).kind : Int), .slice A13 n13 c13]), (s3.heap.size + 1, [.int .i64 4, .bool false, .int .i64 0, .string ⟨#[]⟩, .slice (some ⟨s3.heap.size, 0, none⟩) 2 2, .slice none 0 0]), (s3.heap.size, [.int .i64 2, .bool false, .int .i64 1, .string ⟨#[]⟩, .slice none 0 0, .slice none 0 0, .int .i64 3, .bool false, .int .i64 0, .string ⟨#[97]⟩, .slice none 0 0, .slice none 0 0]), (q2.heap.size, [.int .i64 0, .slice A7 n7 c7]), (q1.heap.size, [.int .i64 5, .slice A6 n6 c6]), (q0.heap.size, [.int .i64 5, .slice A5 n5 c5]), (wo1.heap.size + 1, [.int .i64 4, .slice none 0 0]), (wo1.heap.size, [.int .i64 3, .slice none 0 0]), (w.heap.size + 1, [.int .i64 3, .bool false, .int .i64 0, .string ⟨#[97]⟩, .slice none 0 0, .slice none 0 0]), (w.heap.size, [.int .i64 2, .bool false, .int .i64 1, .string ⟨#[]⟩, .slice none 0 0, .slice none 0 0])] := hO20.kept hbs5
 clear c0_0 c0_1 cf0 c1_0 c1_1 c1_2 c1_3 c1_4 c1_5 cf1 c2_0 c2_1 c2_2 c2_3 c2_4 c2_5 c2_6 c2_7 c2_8 c2_9 c2_10 c2_11 cf2 c3_0 c3_1 cf3 c4_0 c4_1 cf4 c5_0 c5_1 cf5 c6_0 c6_1 cf6 c7_0 c7_1 cf7 c8_0 c8_1 c8_2 c8_3 c8_4 c8_5 cf8 c9_0 c9_1 c9_2 c9_3 c9_4 c9_5 cf9 hO20
 have c0_0 := hO21.c 0 0
 have c0_1 := hO21.c 0 1
 have cf0 := hO21.fr 0
 have c1_0 := hO21.c 1 0
 have c1_1 := hO21.c 1 1
 have c1_2 := hO21.c 1 2
 have c1_3 := hO21.c 1 3
 have c1_4 := hO21.c 1 4
 have c1_5 := hO21.c 1 5
 have cf1 := hO21.fr 1
 have c2_0 := hO21.c 2 0
 have c2_1 := hO21.c 2 1
 have c2_2 := hO21.c 2 2
 have c2_3 := hO21.c 2 3
 have c2_4 := hO21.c 2 4
 have c2_5 := hO21.c 2 5
 have c2_6 := hO21.c 2 6
 have c2_7 := hO21.c 2 7
 have c2_8 := hO21.c 2 8
 have c2_9 := hO21.c 2 9
 have c2_10 := hO21.c 2 10
 have c2_11 := hO21.c 2 11
 have cf2 := hO21.fr 2
 have c3_0 := hO21.c 3 0
 have c3_1 := hO21.c 3 1
 have cf3 := hO21.fr 3
 have c4_0 := hO21.c 4 0
 have c4_1 := hO21.c 4 1
 have cf4 := hO21.fr 4
 have c5_0 := hO21.c 5 0
 have c5_1 := hO21.c 5 1
 have cf5 := hO21.fr 5
 have c6_0 := hO21.c 6 0
 have c6_1 := hO21.c 6 1
 have cf6 := hO21.fr 6
 have c7_0 := hO21.c 7 0
 have c7_1 := hO21.c 7 1
 have cf7 := hO21.fr 7
 have c8_0 := hO21.c 8 0
 have c8_1 := hO21.c 8 1
 have c8_2 := hO21.c 8 2
 have c8_3 := hO21.c 8 3
 have c8_4 := hO21.c 8 4
 have c8_5 := hO21.c 8 5
 have cf8 := hO21.fr 8
 have c9_0 := hO21.c 9 0
 have c9_1 := hO21.c 9 1
 have c9_2 := hO21.c 9 2
 have c9_3 := hO21.c 9 3
 have c9_4 := hO21.c 9 4
 have c9_5 := hO21.c 9 5
 have cf9 := hO21.fr 9
 replace hX := RVB.at_ hX hbs5
 replace hY := RVB.at_ hY hbs5
 replace hE := RVB.at_ hE hbs5
 have CJ := sub_any _ _ (ofV (VT.of 5 (VT.base 3))) (ofV (VT.of 5 (VT.base 4))) 5 A5 n5 c5 5 A6 n6 c6 s5 (RV.ty hX) (RV.ty hY)
 rw [aw10] at CJ
 repeat' ((fail_if_success at_builtin); (first | go_skip | go_guarded | go_step))
 refine CJ.mono ?_
 clear CJ
 rintro e s6 ⟨rfl, hbs6⟩
 dsimp only
 have hO22 : OwnB w s6 [(f1.heap.size, [.int .i64 ((VT.of 5 (VT.base 7)).kind : Int), .slice A13 n13 c13]), (s3.heap.size + 1, [.int .i64 4, .bool false, .int .i64 0, .string ⟨#[]⟩, .slice (some ⟨s3.heap.size, 0, none⟩) 2 2, .slice none 0 0]), (s3.heap.size, [.int .i64 2, .bool false, .int .i64 1, .string ⟨#[]⟩, .slice none 0 0, .slice none 0 0, .int .i64 3, .bool false, .int .i64 0, .string ⟨#[97]⟩, .slice none 0 0, .slice none 0 0]), (q2.heap.size, [.int .i64 0, .slice A7 n7 c7]), (q1.heap.size, [.int .i64 5, .slice A6 n6 c6]), (q0.heap.size, [.int .i64 5, .slice A5 n5 c5]), (wo1.heap.size + 1, [.int .i64 4, .slice none 0 0]), (wo1.heap.size, [.int .i64 3, .slice none 0 0]), (w.heap.size + 1, [.int .i64 3, .bool false, .int .i64 0, .string ⟨#[97]⟩, .slice none 0 0, .slice none 0 0]), (w.heap.size, [.int .i64 2, .bool false, .int .i64 1, .string ⟨#[]⟩, .slice none 0 0, .slice none 0 0])] := hO21.kept hbs6
 clear c0_0 c0_1 cf0 c1_0 c1_1 c1_2 c1_3 c1_4 c1_5 cf1 c2_0 c2_1 c2_2 c2_3 c2_4 c2_5 c2_6 c2_7 c2_8 c2_9 c2_10 c2_11 cf2 c3_0 c3_1 cf3 c4_0 c4_1 cf4 c5_0 c5_1 cf5 c6_0 c6_1 cf6 c7_0 c7_1 cf7 c8_0 c8_1 c8_2 c8_3 c8_4 c8_5 cf8 c9_0 c9_1 c9_2 c9_3 c9_4 c9_5 cf9 hO21
 have c0_0 := hO22.c 0 0
 have c0_1 := hO22.c 0 1
 have cf0 := hO22.fr 0
 have c1_0 := hO22.c 1 0
 have c1_1 := hO22.c 1 1
 have c1_2 := hO22.c 1 2
 have c1_3 := hO22.c 1 3
 have c1_4 := hO22.c 1 4
 have c1_5 := hO22.c 1 5
 have cf1 := hO22.fr 1
 have c2_0 := hO22.c 2 0
 have c2_1 := hO22.c 2 1
 have c2_2 := hO22.c 2 2
 have c2_3 := hO22.c 2 3
 have c2_4 := hO22.c 2 4
 have c2_5 := hO22.c 2 5
 have c2_6 := hO22.c 2 6
 have c2_7 := hO22.c 2 7
 have c2_8 := hO22.c 2 8
 have c2_9 := hO22.c 2 9
 have c2_10 := hO22.c 2 10
 have c2_11 := hO22.c 2 11
 have cf2 := hO22.fr 2
 have c3_0 := hO22.c 3 0
 have c3_1 := hO22.c 3 1
 have cf3 := hO22.fr 3
 have c4_0 := hO22.c 4 0
 have c4_1 := hO22.c 4 1
 have cf4 := hO22.fr 4
 have c5_0 := hO22.c 5 0
 have c5_1 := hO22.c 5 1
 have cf5 := hO22.fr 5
 have c6_0 := hO22.c 6 0
 have c6_1 := hO22.c 6 1
 have cf6 := hO22.fr 6
 have c7_0 := hO22.c 7 0
 have c7_1 := hO22.c 7 1
 have cf7 := hO22.fr 7
 have c8_0 := hO22.c 8 0
 have c8_1 := hO22.c 8 1
 have c8_2 := hO22.c 8 2
 have c8_3 := hO22.c 8 3
 have c8_4 := hO22.c 8 4
 have c8_5 := hO22.c 8 5
 have cf8 := hO22.fr 8
 have c9_0 := hO22.c 9 0
 have c9_1 := hO22.c 9 1
 have c9_2 := hO22.c 9 2
 have c9_3 := hO22.c 9 3
 have c9_4 := hO22.c 9 4
 have c9_5 := hO22.c 9 5
 have cf9 := hO22.fr 9
 replace hX := RVB.at_ hX hbs6
 replace hY := RVB.at_ hY hbs6
 replace hE := RVB.at_ hE hbs6
 have CJ := tfits_any 2 vTwo 4 false 0 ⟨#[]⟩ (some ⟨s3.heap.size, 0, none⟩) 2 2 none 0 0 _ (ofV (VT.of 5 (VT.base 3))) 5 A5 n5 c5 s6 (rvl_two (g := s3.heap.size) (cx := [.int .i64 2, .bool false, .int .i64 1, .string ⟨#[]⟩, .slice none 0 0, .slice none 0 0]) (cy := [.int .i64 3, .bool false, .int .i64 0, .string ⟨#[97]⟩, .slice none 0 0, .slice none 0 0]) (hO22.all 2 _ _ rfl).2 (hO22.lt 2) rfl rfl (rvl_leaf _ _ _ _ _ _) (rvl_leaf _ _ _ _ _ _)) (RV.ty hX)
 rw [aw11] at CJ
 repeat' ((fail_if_success at_builtin); (first | go_skip | go_guarded | go_step))
 refine CJ.mono ?_
 clear CJ
 rintro e s7 ⟨rfl, hbs7⟩
 dsimp only
 have hO23 : OwnB w s7 [(f1.heap.size, [.int .i64 ((VT.of 5 (VT.base 7)).kind : Int), .slice A13 n13 c13]), (s3.heap.size + 1, [.int .i64 4, .bool false, .int .i64 0, .string ⟨#[]⟩, .slice (some ⟨s3.heap.size, 0, none⟩) 2 2, .slice none 0 0]), (s3.heap.size, [.int .i64 2, .bool false, .int .i64 1, .string ⟨#[]⟩, .slice none 0 0, .slice none 0 0, .int .i64 3, .bool false, .int .i64 0, .string ⟨#[97]⟩, .slice none 0 0, .slice none 0 0]), (q2.heap.size, [.int .i64 0, .slice A7 n7 c7]), (q1.heap.size, [.int .i64 5, .slice A6 n6 c6]), (q0.heap.size, [.int .i64 5, .slice A5 n5 c5]), (wo1.heap.size + 1, [.int .i64 4, .slice none 0 0]), (wo1.heap.size, [.int .i64 3, .slice none 0 0]), (w.heap.size + 1, [.int .i64 3, .bool false, .int .i64 0, .string ⟨#[97]⟩, .slice none 0 0, .slice none 0 0]), (w.heap.size, [.int .i64 2, .bool false, .int .i64 1, .string ⟨#[]⟩, .slice none 0 0, .slice none 0 0])] := hO22.kept hbs7
 clear c0_0 c0_1 cf0 c1_0 c1_1 c1_2 c1_3 c1_4 c1_5 cf1 c2_0 c2_1 c2_2 c2_3 c2_4 c2_5 c2_6 c2_7 c2_8 c2_9 c2_10 c2_11 cf2 c3_0 c3_1 cf3 c4_0 c4_1 cf4 c5_0 c5_1 cf5 c6_0 c6_1 cf6 c7_0 c7_1 cf7 c8_0 c8_1 c8_2 c8_3 c8_4 c8_5 cf8 c9_0 c9_1 c9_2 c9_3 c9_4 c9_5 cf9 hO22
 have c0_0 := hO23.c 0 0
 have c0_1 := hO23.c 0 1
 have cf0 := hO23.fr 0
 have c1_0 := hO23.c 1 0
 have c1_1 := hO23.c 1 1
 have c1_2 := hO23.c 1 2
 have c1_3 := hO23.c 1 3
 have c1_4 := hO23.c 1 4
 have c1_5 := hO23.c 1 5
 have cf1 := hO23.fr 1
 have c2_0 := hO23.c 2 0
 have c2_1 := hO23.c 2 1
 have c2_2 := hO23.c 2 2
 have c2_3 := hO23.c 2 3
 have c2_4 := hO23.c 2 4
 have c2_5 := hO23.c 2 5
 have c2_6 := hO23.c 2 6
 have c2_7 := hO23.c 2 7
 have c2_8 := hO23.c 2 8
 have c2_9 := hO23.c 2 9
 have c2_10 := hO23.c 2 10
 have c2_11 := hO23.c 2 11
 have cf2 := hO23.fr 2
 have c3_0 := hO23.c 3 0
 have c3_1 := hO23.c 3 1
 have cf3 := hO23.fr 3
 have c4_0 := hO23.c 4 0
 have c4_1 := hO23.c 4 1
 have cf4 := hO23.fr 4
 have c5_0 := hO23.c 5 0
 have c5_1 := hO23.c 5 1
 have cf5 := hO23.fr 5
 have c6_0 := hO23.c 6 0
 have c6_1 := hO23.c 6 1
 have cf6 := hO23.fr 6
 have c7_0 := hO23.c 7 0
 have c7_1 := hO23.c 7 1
 have cf7 := hO23.fr 7
 have c8_0 := hO23.c 8 0
 have c8_1 := hO23.c 8 1
 have c8_2 := hO23.c 8 2
 have c8_3 := hO23.c 8 3
 have c8_4 := hO23.c 8 4
 have c8_5 := hO23.c 8 5
 have cf8 := hO23.fr 8
 have c9_0 := hO23.c 9 0
 have c9_1 := hO23.c 9 1
 have c9_2 := hO23.c 9 2
 have c9_3 := hO23.c 9 3
 have c9_4 := hO23.c 9 4
 have c9_5 := hO23.c 9 5
 have cf9 := hO23.fr 9
 replace hX := RVB.at_ hX hbs7
 replace hY := RVB.at_ hY hbs7
 replace hE := RVB.at_ hE hbs7
 have CJ := tfits_any 1 vOne 2 false 1 ⟨#[]⟩ none 0 0 none 0 0 1 (ofV (VT.base 3)) 3 none 0 0 s7 (rvl_leaf _ _ _ _ _ _) (by exact RV.ty (rv_scalar _ _ 3))
 rw [aw12] at CJ
 repeat' ((fail_if_success at_builtin); (first | go_skip | go_guarded | go_step))
 refine CJ.mono ?_
 clear CJ
 rintro e s8 ⟨rfl, hbs8⟩
 dsimp only
 have hb := hO23.below.trans (hbs8.mono hO23.below.size)
 repeat' ((fail_if_success at_builtin); (first | go_skip | go_guarded | go_step))
 go_ret
 exact ⟨rfl, hb⟩
end Go.Proofs.YtgcpffbaejodiaaDoor
