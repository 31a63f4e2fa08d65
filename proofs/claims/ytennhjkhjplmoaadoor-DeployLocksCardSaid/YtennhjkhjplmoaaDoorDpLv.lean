/- Deploy: lives. -/
import Derived.Test.YtennhjkhjplmoaaDoorDpVa
import Derived.Test.YtennhjkhjplmoaaDoorDpAb
import Derived.Test.YtennhjkhjplmoaaDoorDpFi
import Derived.Test.YtennhjkhjplmoaaDoorDpCu
import Derived.Test.YtennhjkhjplmoaaDoorDpLp
import Derived.Test.YtennhjkhjplmoaaDoorDpMy
import Derived.Test.YtennhjkhjplmoaaDoorDpL
namespace Go.Proofs.YtennhjkhjplmoaaDoor
open Go.RowKit
theorem lives9 : validL lv4 = 0 := by
  have h1 : envF [] (⟨pS, zR, [jB], [dA]⟩ : Env) = 0 := by
    unfold envF
    rw [if_neg (by show ¬ nameS pS.data.toList = false; rw [lv_nm]; simp), if_neg (by show ¬ false = true; simp), if_neg (by
      have : holdOk (⟨pS, zR, [jB], [dA]⟩ : Env) = true := by simp [holdOk, lv_zz, lv_pb]
      rw [this]; simp), if_neg (by
      have : refsL ([] ++ [(⟨pS, zR, [jB], [dA]⟩ : Env)]) = [jB] := by simp [refsL, refsE, lv_zz]
      rw [this]; simp [dupR, hasR])]
    simp [histF, depsF, depO, dA, lv_pa]
  unfold validL lv4 validF
  rw [if_pos h1]
  rfl
theorem lvW1 : ∀ x ∈ lv1, EnvW x := by
  intro x hx
  simp only [lv1, List.mem_cons, List.not_mem_nil, or_false] at hx
  subst hx
  exact ⟨by decide, by decide, by decide⟩
theorem lvW2 : ∀ x ∈ lv2, EnvW x := by
  intro x hx
  simp only [lv2, List.mem_cons, List.not_mem_nil, or_false] at hx
  subst hx
  exact ⟨by decide, by decide, by decide⟩
theorem lvW3 : ∀ x ∈ lv3, EnvW x := by
  intro x hx
  simp only [lv3, List.mem_cons, List.not_mem_nil, or_false] at hx
  subst hx
  exact ⟨by decide, by decide, by decide⟩
theorem lvW4 : ∀ x ∈ lv4, EnvW x := by
  intro x hx
  simp only [lv4, List.mem_cons, List.not_mem_nil, or_false] at hx
  subst hx
  exact ⟨by decide, by decide, by decide⟩
theorem lvW5 : ∀ x ∈ lv5, EnvW x := by
  intro x hx
  simp only [lv5, List.mem_cons, List.not_mem_nil, or_false] at hx
  subst hx
  exact ⟨by decide, by decide, by decide⟩
theorem jA_ok : RefOk jA := ⟨by decide, by decide⟩
theorem jB_ok : RefOk jB := ⟨by decide, by decide⟩
theorem zR_ok : RefOk zR := ⟨by decide, by decide⟩
theorem lvOk4 : ∀ x ∈ lv4, EnvOk x := by
  intro x hx
  simp only [lv4, List.mem_cons, List.not_mem_nil, or_false] at hx
  subst hx
  refine ⟨zR_ok, fun y hy => ?_⟩
  simp only [List.mem_cons, List.not_mem_nil, or_false] at hy
  subst hy
  exact jB_ok
theorem Envs.nil_ (w : World) : Envs w none 0 0 [] := ⟨⟨rfl, Nat.le_refl _, fun _ => rfl, [], SeqP.nil_, rfl⟩, by decide, fun x hx => (by cases hx)⟩
set_option maxRecDepth 100000 in
set_option maxHeartbeats 6000000 in
theorem lives_any (w : World) : Calls Tryd.prog 10 #[] w fun e w' => e = .returned (.bool true) ∧ Below w.heap.size w w' := by
  go_enter Tryd.func10, Tryd.ntmps10
  go_upto_region 2 with (fail)
  generalize hx_ : World.alloc (World.alloc w _) _ = wo1
  have hO1 : OwnB w wo1 [((w.heap.size + 1), [.string ⟨#[114]⟩, .string ⟨#[98]⟩]), (w.heap.size, [.string ⟨#[114]⟩, .string ⟨#[97]⟩])] := by rw [← hx_]; exact ((OwnB.refl w).new #[.string ⟨#[114]⟩, .string ⟨#[97]⟩] _ (g := w.heap.size)).new #[.string ⟨#[114]⟩, .string ⟨#[98]⟩] _ (g := (w.heap.size + 1))
  have hbn : Below w.heap.size w wo1 := by rw [← hx_]; exact ((Below.refl _ _).alloc (Nat.le_refl _) _).alloc (by simp) _
  have zwo1 : w.heap.size + 1 < wo1.heap.size := by rw [← hx_]; simp <;> omega
  clear hx_
  have c0_0 : wo1.cell? ⟨(w.heap.size + 1), 0, none⟩ = some (.string ⟨#[114]⟩) := hO1.c 0 0
  have c0_1 : wo1.cell? ⟨(w.heap.size + 1), 1, none⟩ = some (.string ⟨#[98]⟩) := hO1.c 0 1
  have cf0 := hO1.fr 0
  have c1_0 : wo1.cell? ⟨w.heap.size, 0, none⟩ = some (.string ⟨#[114]⟩) := hO1.c 1 0
  have c1_1 : wo1.cell? ⟨w.heap.size, 1, none⟩ = some (.string ⟨#[97]⟩) := hO1.c 1 1
  have cf1 := hO1.fr 1
  clear hbn
  have C := request_any [] pS jA none 0 0 wo1 (Envs.nil_ _) (by decide)
  rw [lives1] at C
  replace C := Lib.hid C
  repeat' ((fail_if_success at_builtin); (first | go_skip | go_guarded | go_step))
  refine C.out.mono ?_
  clear C
  rintro e y1 ⟨A1, n1, c1, rfl, hb1, hR1⟩
  dsimp only at hR1 ⊢
  obtain rfl : 1 = n1 := hR1.1
  have zy1 := hb1.size
  have hO2 : OwnB w y1 [((w.heap.size + 1), [.string ⟨#[114]⟩, .string ⟨#[98]⟩]), (w.heap.size, [.string ⟨#[114]⟩, .string ⟨#[97]⟩])] := hO1.kept hb1
  clear c0_0 c0_1 cf0 c1_0 c1_1 cf1 hO1
  have c0_0 : y1.cell? ⟨(w.heap.size + 1), 0, none⟩ = some (.string ⟨#[114]⟩) := hO2.c 0 0
  have c0_1 : y1.cell? ⟨(w.heap.size + 1), 1, none⟩ = some (.string ⟨#[98]⟩) := hO2.c 0 1
  have cf0 := hO2.fr 0
  have c1_0 : y1.cell? ⟨w.heap.size, 0, none⟩ = some (.string ⟨#[114]⟩) := hO2.c 1 0
  have c1_1 : y1.cell? ⟨w.heap.size, 1, none⟩ = some (.string ⟨#[97]⟩) := hO2.c 1 1
  have cf1 := hO2.fr 1
  have hE1 : Envs y1 A1 1 c1 lv1 := ⟨hR1, by decide, lvW1⟩
  clear hR1
  have C := request_any lv1 pS jB A1 1 c1 y1 hE1 (by decide)
  rw [lives2] at C
  replace C := Lib.hid C
  repeat' ((fail_if_success at_builtin); (first | go_skip | go_guarded | go_step))
  refine C.out.mono ?_
  clear C
  rintro e y2 ⟨A2, n2, c2, rfl, hb2, hR2⟩
  dsimp only at hR2 ⊢
  obtain rfl : 1 = n2 := hR2.1
  have zy2 := hb2.size
  have hO3 : OwnB w y2 [((w.heap.size + 1), [.string ⟨#[114]⟩, .string ⟨#[98]⟩]), (w.heap.size, [.string ⟨#[114]⟩, .string ⟨#[97]⟩])] := hO2.kept hb2
  clear c0_0 c0_1 cf0 c1_0 c1_1 cf1 hO2
  have c0_0 : y2.cell? ⟨(w.heap.size + 1), 0, none⟩ = some (.string ⟨#[114]⟩) := hO3.c 0 0
  have c0_1 : y2.cell? ⟨(w.heap.size + 1), 1, none⟩ = some (.string ⟨#[98]⟩) := hO3.c 0 1
  have cf0 := hO3.fr 0
  have c1_0 : y2.cell? ⟨w.heap.size, 0, none⟩ = some (.string ⟨#[114]⟩) := hO3.c 1 0
  have c1_1 : y2.cell? ⟨w.heap.size, 1, none⟩ = some (.string ⟨#[97]⟩) := hO3.c 1 1
  have cf1 := hO3.fr 1
  have hE2 : Envs y2 A2 1 c2 lv2 := ⟨hR2, by decide, lvW2⟩
  clear hR2
  clear hE1
  have C := may_any lv2 pS jA A2 1 c2 y2 hE2
  rw [lives3] at C
  replace C := Lib.hid C
  repeat' ((fail_if_success at_builtin); (first | go_skip | go_guarded | go_step))
  refine C.out.mono ?_
  clear C
  rintro e y3 ⟨rfl, hb3⟩
  dsimp only
  have zy3 := hb3.size
  have hO4 : OwnB w y3 [((w.heap.size + 1), [.string ⟨#[114]⟩, .string ⟨#[98]⟩]), (w.heap.size, [.string ⟨#[114]⟩, .string ⟨#[97]⟩])] := hO3.kept hb3
  clear c0_0 c0_1 cf0 c1_0 c1_1 cf1 hO3
  have c0_0 : y3.cell? ⟨(w.heap.size + 1), 0, none⟩ = some (.string ⟨#[114]⟩) := hO4.c 0 0
  have c0_1 : y3.cell? ⟨(w.heap.size + 1), 1, none⟩ = some (.string ⟨#[98]⟩) := hO4.c 0 1
  have cf0 := hO4.fr 0
  have c1_0 : y3.cell? ⟨w.heap.size, 0, none⟩ = some (.string ⟨#[114]⟩) := hO4.c 1 0
  have c1_1 : y3.cell? ⟨w.heap.size, 1, none⟩ = some (.string ⟨#[97]⟩) := hO4.c 1 1
  have cf1 := hO4.fr 1
  replace hE2 := hE2.below hb3
  have C := may_any lv2 pS jB A2 1 c2 y3 hE2
  rw [lives3b] at C
  replace C := Lib.hid C
  repeat' ((fail_if_success at_builtin); (first | go_skip | go_guarded | go_step))
  refine C.out.mono ?_
  clear C
  rintro e y4 ⟨rfl, hb4⟩
  dsimp only
  have zy4 := hb4.size
  have hO5 : OwnB w y4 [((w.heap.size + 1), [.string ⟨#[114]⟩, .string ⟨#[98]⟩]), (w.heap.size, [.string ⟨#[114]⟩, .string ⟨#[97]⟩])] := hO4.kept hb4
  clear c0_0 c0_1 cf0 c1_0 c1_1 cf1 hO4
  have c0_0 : y4.cell? ⟨(w.heap.size + 1), 0, none⟩ = some (.string ⟨#[114]⟩) := hO5.c 0 0
  have c0_1 : y4.cell? ⟨(w.heap.size + 1), 1, none⟩ = some (.string ⟨#[98]⟩) := hO5.c 0 1
  have cf0 := hO5.fr 0
  have c1_0 : y4.cell? ⟨w.heap.size, 0, none⟩ = some (.string ⟨#[114]⟩) := hO5.c 1 0
  have c1_1 : y4.cell? ⟨w.heap.size, 1, none⟩ = some (.string ⟨#[97]⟩) := hO5.c 1 1
  have cf1 := hO5.fr 1
  replace hE2 := hE2.below hb4
  have C := lock_any lv2 pS jA A2 1 c2 y4 hE2
  rw [lives4] at C
  replace C := Lib.hid C
  repeat' ((fail_if_success at_builtin); (first | go_skip | go_guarded | go_step))
  refine C.out.mono ?_
  clear C
  rintro e y5 ⟨A5, n5, c5, rfl, hb5, hR5⟩
  dsimp only at hR5 ⊢
  obtain rfl : 1 = n5 := hR5.1
  have zy5 := hb5.size
  have hO6 : OwnB w y5 [((w.heap.size + 1), [.string ⟨#[114]⟩, .string ⟨#[98]⟩]), (w.heap.size, [.string ⟨#[114]⟩, .string ⟨#[97]⟩])] := hO5.kept hb5
  clear c0_0 c0_1 cf0 c1_0 c1_1 cf1 hO5
  have c0_0 : y5.cell? ⟨(w.heap.size + 1), 0, none⟩ = some (.string ⟨#[114]⟩) := hO6.c 0 0
  have c0_1 : y5.cell? ⟨(w.heap.size + 1), 1, none⟩ = some (.string ⟨#[98]⟩) := hO6.c 0 1
  have cf0 := hO6.fr 0
  have c1_0 : y5.cell? ⟨w.heap.size, 0, none⟩ = some (.string ⟨#[114]⟩) := hO6.c 1 0
  have c1_1 : y5.cell? ⟨w.heap.size, 1, none⟩ = some (.string ⟨#[97]⟩) := hO6.c 1 1
  have cf1 := hO6.fr 1
  have hE5 : Envs y5 A5 1 c5 lv3 := ⟨hR5, by decide, lvW3⟩
  clear hR5
  clear hE2
  have C := lock_any lv3 pS jB A5 1 c5 y5 hE5
  rw [lives5] at C
  replace C := Lib.hid C
  repeat' ((fail_if_success at_builtin); (first | go_skip | go_guarded | go_step))
  refine C.out.mono ?_
  clear C
  rintro e y6 ⟨A6, n6, c6, rfl, hb6, hR6⟩
  dsimp only at hR6 ⊢
  obtain rfl : 1 = n6 := hR6.1
  have zy6 := hb6.size
  have hO7 : OwnB w y6 [((w.heap.size + 1), [.string ⟨#[114]⟩, .string ⟨#[98]⟩]), (w.heap.size, [.string ⟨#[114]⟩, .string ⟨#[97]⟩])] := hO6.kept hb6
  clear c0_0 c0_1 cf0 c1_0 c1_1 cf1 hO6
  have c0_0 : y6.cell? ⟨(w.heap.size + 1), 0, none⟩ = some (.string ⟨#[114]⟩) := hO7.c 0 0
  have c0_1 : y6.cell? ⟨(w.heap.size + 1), 1, none⟩ = some (.string ⟨#[98]⟩) := hO7.c 0 1
  have cf0 := hO7.fr 0
  have c1_0 : y6.cell? ⟨w.heap.size, 0, none⟩ = some (.string ⟨#[114]⟩) := hO7.c 1 0
  have c1_1 : y6.cell? ⟨w.heap.size, 1, none⟩ = some (.string ⟨#[97]⟩) := hO7.c 1 1
  have cf1 := hO7.fr 1
  have hE6 : Envs y6 A6 1 c6 lv3 := ⟨hR6, by decide, lvW3⟩
  clear hR6
  replace hE5 := hE5.below hb6
  clear hE6
  have C := finish_any lv3 jA 5 1 100 A5 1 c5 y6 hE5 (by intro x hx; simp only [lv3, List.mem_cons, List.not_mem_nil, or_false] at hx; subst hx; decide)
  rw [show finL lv3 ⟨jA, 5, 100, 1⟩ = (lv4, 0) from lives6] at C
  replace C := Lib.hid C
  repeat' ((fail_if_success at_builtin); (first | go_skip | go_guarded | go_step))
  refine C.out.mono ?_
  clear C
  rintro e y7 ⟨A7, n7, c7, rfl, hb7, hR7⟩
  dsimp only at hR7 ⊢
  obtain rfl : 1 = n7 := hR7.1
  have zy7 := hb7.size
  have hO8 : OwnB w y7 [((w.heap.size + 1), [.string ⟨#[114]⟩, .string ⟨#[98]⟩]), (w.heap.size, [.string ⟨#[114]⟩, .string ⟨#[97]⟩])] := hO7.kept hb7
  clear c0_0 c0_1 cf0 c1_0 c1_1 cf1 hO7
  have c0_0 : y7.cell? ⟨(w.heap.size + 1), 0, none⟩ = some (.string ⟨#[114]⟩) := hO8.c 0 0
  have c0_1 : y7.cell? ⟨(w.heap.size + 1), 1, none⟩ = some (.string ⟨#[98]⟩) := hO8.c 0 1
  have cf0 := hO8.fr 0
  have c1_0 : y7.cell? ⟨w.heap.size, 0, none⟩ = some (.string ⟨#[114]⟩) := hO8.c 1 0
  have c1_1 : y7.cell? ⟨w.heap.size, 1, none⟩ = some (.string ⟨#[97]⟩) := hO8.c 1 1
  have cf1 := hO8.fr 1
  have hE7 : Envs y7 A7 1 c7 lv4 := ⟨hR7, by decide, lvW4⟩
  clear hR7
  clear hE5
  have C := current_any lv4 pS A7 1 c7 y7 hE7
  rw [lives7] at C
  replace C := Lib.hid C
  repeat' ((fail_if_success at_builtin); (first | go_skip | go_guarded | go_step))
  refine C.out.mono ?_
  clear C
  rintro e y8 ⟨rfl, hb8⟩
  dsimp only
  have zy8 := hb8.size
  have hO9 : OwnB w y8 [((w.heap.size + 1), [.string ⟨#[114]⟩, .string ⟨#[98]⟩]), (w.heap.size, [.string ⟨#[114]⟩, .string ⟨#[97]⟩])] := hO8.kept hb8
  clear c0_0 c0_1 cf0 c1_0 c1_1 cf1 hO8
  have c0_0 : y8.cell? ⟨(w.heap.size + 1), 0, none⟩ = some (.string ⟨#[114]⟩) := hO9.c 0 0
  have c0_1 : y8.cell? ⟨(w.heap.size + 1), 1, none⟩ = some (.string ⟨#[98]⟩) := hO9.c 0 1
  have cf0 := hO9.fr 0
  have c1_0 : y8.cell? ⟨w.heap.size, 0, none⟩ = some (.string ⟨#[114]⟩) := hO9.c 1 0
  have c1_1 : y8.cell? ⟨w.heap.size, 1, none⟩ = some (.string ⟨#[97]⟩) := hO9.c 1 1
  have cf1 := hO9.fr 1
  replace hE7 := hE7.below hb8
  go_upto_region 9 with (fail)
  generalize hx_ : World.alloc y8 _ = wo10
  have hO10 : OwnB w wo10 [(y8.heap.size, [.string ⟨#[114]⟩, .string ⟨#[97]⟩, .int .u64 5, .int .i64 100, .int .i64 1]), ((w.heap.size + 1), [.string ⟨#[114]⟩, .string ⟨#[98]⟩]), (w.heap.size, [.string ⟨#[114]⟩, .string ⟨#[97]⟩])] := by rw [← hx_]; exact hO9.new #[.string ⟨#[114]⟩, .string ⟨#[97]⟩, .int .u64 5, .int .i64 100, .int .i64 1] _ (g := y8.heap.size)
  have hbn : Below y8.heap.size y8 wo10 := by rw [← hx_]; exact (Below.refl _ _).alloc (Nat.le_refl _) _
  have zwo10 : y8.heap.size + 0 < wo10.heap.size := by rw [← hx_]; simp <;> omega
  have hbN : Below y8.heap.size y8 wo10 := by rw [← hx_]; exact (Below.refl _ _).alloc (Nat.le_refl _) _
  clear hx_ c0_0 c0_1 cf0 c1_0 c1_1 cf1 hO9
  have c0_0 : wo10.cell? ⟨y8.heap.size, 0, none⟩ = some (.string ⟨#[114]⟩) := hO10.c 0 0
  have c0_1 : wo10.cell? ⟨y8.heap.size, 1, none⟩ = some (.string ⟨#[97]⟩) := hO10.c 0 1
  have c0_2 : wo10.cell? ⟨y8.heap.size, 2, none⟩ = some (.int .u64 5) := hO10.c 0 2
  have c0_3 : wo10.cell? ⟨y8.heap.size, 3, none⟩ = some (.int .i64 100) := hO10.c 0 3
  have c0_4 : wo10.cell? ⟨y8.heap.size, 4, none⟩ = some (.int .i64 1) := hO10.c 0 4
  have cf0 := hO10.fr 0
  have c1_0 : wo10.cell? ⟨(w.heap.size + 1), 0, none⟩ = some (.string ⟨#[114]⟩) := hO10.c 1 0
  have c1_1 : wo10.cell? ⟨(w.heap.size + 1), 1, none⟩ = some (.string ⟨#[98]⟩) := hO10.c 1 1
  have cf1 := hO10.fr 1
  have c2_0 : wo10.cell? ⟨w.heap.size, 0, none⟩ = some (.string ⟨#[114]⟩) := hO10.c 2 0
  have c2_1 : wo10.cell? ⟨w.heap.size, 1, none⟩ = some (.string ⟨#[97]⟩) := hO10.c 2 1
  have cf2 := hO10.fr 2
  clear hbn
  replace hE7 := hE7.below hbN
  clear hbN
  have C := abandon_any lv4 jB A7 1 c7 wo10 hE7
  rw [lives8] at C
  replace C := Lib.hid C
  repeat' ((fail_if_success at_builtin); (first | go_skip | go_guarded | go_step))
  refine C.out.mono ?_
  clear C
  rintro e y9 ⟨A9, n9, c9, rfl, hb9, hR9⟩
  dsimp only
  obtain rfl : 1 = n9 := hR9.1
  have zy9 := hb9.size
  have hO11 : OwnB w y9 [(y8.heap.size, [.string ⟨#[114]⟩, .string ⟨#[97]⟩, .int .u64 5, .int .i64 100, .int .i64 1]), ((w.heap.size + 1), [.string ⟨#[114]⟩, .string ⟨#[98]⟩]), (w.heap.size, [.string ⟨#[114]⟩, .string ⟨#[97]⟩])] := hO10.kept hb9
  clear c0_0 c0_1 c0_2 c0_3 c0_4 cf0 c1_0 c1_1 cf1 c2_0 c2_1 cf2 hO10
  have c0_0 : y9.cell? ⟨y8.heap.size, 0, none⟩ = some (.string ⟨#[114]⟩) := hO11.c 0 0
  have c0_1 : y9.cell? ⟨y8.heap.size, 1, none⟩ = some (.string ⟨#[97]⟩) := hO11.c 0 1
  have c0_2 : y9.cell? ⟨y8.heap.size, 2, none⟩ = some (.int .u64 5) := hO11.c 0 2
  have c0_3 : y9.cell? ⟨y8.heap.size, 3, none⟩ = some (.int .i64 100) := hO11.c 0 3
  have c0_4 : y9.cell? ⟨y8.heap.size, 4, none⟩ = some (.int .i64 1) := hO11.c 0 4
  have cf0 := hO11.fr 0
  have c1_0 : y9.cell? ⟨(w.heap.size + 1), 0, none⟩ = some (.string ⟨#[114]⟩) := hO11.c 1 0
  have c1_1 : y9.cell? ⟨(w.heap.size + 1), 1, none⟩ = some (.string ⟨#[98]⟩) := hO11.c 1 1
  have cf1 := hO11.fr 1
  have c2_0 : y9.cell? ⟨w.heap.size, 0, none⟩ = some (.string ⟨#[114]⟩) := hO11.c 2 0
  have c2_1 : y9.cell? ⟨w.heap.size, 1, none⟩ = some (.string ⟨#[97]⟩) := hO11.c 2 1
  have cf2 := hO11.fr 2
  replace hE7 := hE7.below hb9
  have C := valid_any lv4 A7 1 c7 y9 hE7 lvOk4 (by intro x hx; simp only [lv4, List.mem_cons, List.not_mem_nil, or_false] at hx; subst hx; decide) (by simp [goL, goE, lv4, lv_zz])
  rw [lives9] at C
  replace C := Lib.hid C
  repeat' ((fail_if_success at_builtin); (first | go_skip | go_guarded | go_step))
  refine C.out.mono ?_
  clear C
  rintro e y10 ⟨rfl, hb10⟩
  dsimp only
  have zy10 := hb10.size
  have hO12 : OwnB w y10 [(y8.heap.size, [.string ⟨#[114]⟩, .string ⟨#[97]⟩, .int .u64 5, .int .i64 100, .int .i64 1]), ((w.heap.size + 1), [.string ⟨#[114]⟩, .string ⟨#[98]⟩]), (w.heap.size, [.string ⟨#[114]⟩, .string ⟨#[97]⟩])] := hO11.kept hb10
  clear c0_0 c0_1 c0_2 c0_3 c0_4 cf0 c1_0 c1_1 cf1 c2_0 c2_1 cf2 hO11
  have c0_0 : y10.cell? ⟨y8.heap.size, 0, none⟩ = some (.string ⟨#[114]⟩) := hO12.c 0 0
  have c0_1 : y10.cell? ⟨y8.heap.size, 1, none⟩ = some (.string ⟨#[97]⟩) := hO12.c 0 1
  have c0_2 : y10.cell? ⟨y8.heap.size, 2, none⟩ = some (.int .u64 5) := hO12.c 0 2
  have c0_3 : y10.cell? ⟨y8.heap.size, 3, none⟩ = some (.int .i64 100) := hO12.c 0 3
  have c0_4 : y10.cell? ⟨y8.heap.size, 4, none⟩ = some (.int .i64 1) := hO12.c 0 4
  have cf0 := hO12.fr 0
  have c1_0 : y10.cell? ⟨(w.heap.size + 1), 0, none⟩ = some (.string ⟨#[114]⟩) := hO12.c 1 0
  have c1_1 : y10.cell? ⟨(w.heap.size + 1), 1, none⟩ = some (.string ⟨#[98]⟩) := hO12.c 1 1
  have cf1 := hO12.fr 1
  have c2_0 : y10.cell? ⟨w.heap.size, 0, none⟩ = some (.string ⟨#[114]⟩) := hO12.c 2 0
  have c2_1 : y10.cell? ⟨w.heap.size, 1, none⟩ = some (.string ⟨#[97]⟩) := hO12.c 2 1
  have cf2 := hO12.fr 2
  obtain ⟨g, o, B1, d1, B2, d2, rfl, hg, hS⟩ := env_at hR9 (i := 0) (x := ⟨pS, zR, [], [dA]⟩) rfl
  have e3 := (hb10.cell (p := ⟨g, _, none⟩) hg).trans hS.e3
  rw [Nat.zero_mul, Nat.add_zero] at e3
  have hbz := hO12.below
  clear hR9 hS
  repeat' ((fail_if_success at_builtin); (first | go_skip | go_guarded | go_step))
  go_ret
  exact ⟨rfl, hbz⟩
end Go.Proofs.YtennhjkhjplmoaaDoor
