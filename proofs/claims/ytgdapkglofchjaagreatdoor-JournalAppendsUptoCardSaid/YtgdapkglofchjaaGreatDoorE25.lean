/- Joined: JnGb JnS. -/
import Derived.Test.YtgdapkglofchjaaGreatDoorE24
set_option maxRecDepth 100000
set_option maxHeartbeats 8000000
set_option linter.unusedVariables false
namespace Go.Proofs.YtgdapkglofchjaaGreatDoor
open Go.RowKit
theorem forms_any (fs : List FV) (E : List Value) (w : World) (hr : RecL evC w (fun b => b < w.heap.size) fs E) (hs : lsz fs ≤ 1000000000) : Calls Tryz.prog 32 #[.agg E.toArray] w (RetFs w fs) := by
 go_enter Tryz.func32, Tryz.ntmps32
 go_upto_region 1 with (fail)
 have hA : (w.alloc (.cells E.toArray 43)).rangeAt w.heap.size 0 E := at_new w E 43
 have hlt0 : w.heap.size < (w.alloc (.cells E.toArray 43)).heap.size := by simp
 have hb0 := (Below.refl w.heap.size w).alloc (Nat.le_refl _) (.cells E.toArray 43)
 generalize World.alloc w _ = w1 at *
 obtain ⟨f1, r1, k1, d1, rfl, rfl, q1, hr⟩ := hr
 obtain ⟨f2, r2, k2, d2, rfl, rfl, q2, hr⟩ := hr
 obtain ⟨f3, r3, k3, d3, rfl, rfl, q3, hr⟩ := hr
 obtain ⟨f4, r4, k4, d4, rfl, rfl, q4, hr⟩ := hr
 obtain ⟨f5, r5, k5, d5, rfl, rfl, q5, hr⟩ := hr
 obtain ⟨f6, r6, k6, d6, rfl, rfl, q6, hr⟩ := hr
 obtain ⟨f7, r7, k7, d7, rfl, rfl, q7, hr⟩ := hr
 obtain ⟨f8, r8, k8, d8, rfl, rfl, q8, hr⟩ := hr
 obtain ⟨f9, r9, k9, d9, rfl, rfl, q9, hr⟩ := hr
 obtain ⟨f10, r10, k10, d10, rfl, rfl, q10, hr⟩ := hr
 obtain ⟨f11, r11, k11, d11, rfl, rfl, q11, hr⟩ := hr
 obtain ⟨f12, r12, k12, d12, rfl, rfl, q12, hr⟩ := hr
 obtain ⟨f13, r13, k13, d13, rfl, rfl, q13, hr⟩ := hr
 obtain ⟨f14, r14, k14, d14, rfl, rfl, q14, hr⟩ := hr
 obtain ⟨f15, r15, k15, d15, rfl, rfl, q15, hr⟩ := hr
 obtain ⟨f16, r16, k16, d16, rfl, rfl, q16, hr⟩ := hr
 obtain ⟨rfl, rfl⟩ := hr
 have s1 : fsz f1 ≤ 1000000000 := by have := fsz_mem (l := [f1, f2, f3, f4, f5, f6, f7, f8, f9, f10, f11, f12, f13, f14, f15, f16]) (f := f1) (by simp); omega
 have s2 : fsz f2 ≤ 1000000000 := by have := fsz_mem (l := [f1, f2, f3, f4, f5, f6, f7, f8, f9, f10, f11, f12, f13, f14, f15, f16]) (f := f2) (by simp); omega
 have s3 : fsz f3 ≤ 1000000000 := by have := fsz_mem (l := [f1, f2, f3, f4, f5, f6, f7, f8, f9, f10, f11, f12, f13, f14, f15, f16]) (f := f3) (by simp); omega
 have s4 : fsz f4 ≤ 1000000000 := by have := fsz_mem (l := [f1, f2, f3, f4, f5, f6, f7, f8, f9, f10, f11, f12, f13, f14, f15, f16]) (f := f4) (by simp); omega
 have s5 : fsz f5 ≤ 1000000000 := by have := fsz_mem (l := [f1, f2, f3, f4, f5, f6, f7, f8, f9, f10, f11, f12, f13, f14, f15, f16]) (f := f5) (by simp); omega
 have s6 : fsz f6 ≤ 1000000000 := by have := fsz_mem (l := [f1, f2, f3, f4, f5, f6, f7, f8, f9, f10, f11, f12, f13, f14, f15, f16]) (f := f6) (by simp); omega
 have s7 : fsz f7 ≤ 1000000000 := by have := fsz_mem (l := [f1, f2, f3, f4, f5, f6, f7, f8, f9, f10, f11, f12, f13, f14, f15, f16]) (f := f7) (by simp); omega
 have s8 : fsz f8 ≤ 1000000000 := by have := fsz_mem (l := [f1, f2, f3, f4, f5, f6, f7, f8, f9, f10, f11, f12, f13, f14, f15, f16]) (f := f8) (by simp); omega
 have s9 : fsz f9 ≤ 1000000000 := by have := fsz_mem (l := [f1, f2, f3, f4, f5, f6, f7, f8, f9, f10, f11, f12, f13, f14, f15, f16]) (f := f9) (by simp); omega
 have s10 : fsz f10 ≤ 1000000000 := by have := fsz_mem (l := [f1, f2, f3, f4, f5, f6, f7, f8, f9, f10, f11, f12, f13, f14, f15, f16]) (f := f10) (by simp); omega
 have s11 : fsz f11 ≤ 1000000000 := by have := fsz_mem (l := [f1, f2, f3, f4, f5, f6, f7, f8, f9, f10, f11, f12, f13, f14, f15, f16]) (f := f11) (by simp); omega
 have s12 : fsz f12 ≤ 1000000000 := by have := fsz_mem (l := [f1, f2, f3, f4, f5, f6, f7, f8, f9, f10, f11, f12, f13, f14, f15, f16]) (f := f12) (by simp); omega
 have s13 : fsz f13 ≤ 1000000000 := by have := fsz_mem (l := [f1, f2, f3, f4, f5, f6, f7, f8, f9, f10, f11, f12, f13, f14, f15, f16]) (f := f13) (by simp); omega
 have s14 : fsz f14 ≤ 1000000000 := by have := fsz_mem (l := [f1, f2, f3, f4, f5, f6, f7, f8, f9, f10, f11, f12, f13, f14, f15, f16]) (f := f14) (by simp); omega
 have s15 : fsz f15 ≤ 1000000000 := by have := fsz_mem (l := [f1, f2, f3, f4, f5, f6, f7, f8, f9, f10, f11, f12, f13, f14, f15, f16]) (f := f15) (by simp); omega
 have s16 : fsz f16 ≤ 1000000000 := by have := fsz_mem (l := [f1, f2, f3, f4, f5, f6, f7, f8, f9, f10, f11, f12, f13, f14, f15, f16]) (f := f16) (by simp); omega
 have n1 : k1.length = 1 := Cod.int_ok.len q1
 have a1 : w1.rangeAt w.heap.size 0 k1 := At.left (w := w1) hA
 replace hA : w1.rangeAt w.heap.size 1 _ := At.right (w := w1) hA (k := 1) (by rw [n1])
 have n2 : k2.length = 1 := Cod.int_ok.len q2
 have a2 : w1.rangeAt w.heap.size 1 k2 := At.left (w := w1) hA
 replace hA : w1.rangeAt w.heap.size 2 _ := At.right (w := w1) hA (k := 2) (by rw [n2])
 have n3 : k3.length = 1 := Cod.str_ok.len q3
 have a3 : w1.rangeAt w.heap.size 2 k3 := At.left (w := w1) hA
 replace hA : w1.rangeAt w.heap.size 3 _ := At.right (w := w1) hA (k := 3) (by rw [n3])
 have n4 : k4.length = 1 := Cod.str_ok.len q4
 have a4 : w1.rangeAt w.heap.size 3 k4 := At.left (w := w1) hA
 replace hA : w1.rangeAt w.heap.size 4 _ := At.right (w := w1) hA (k := 4) (by rw [n4])
 have n5 : k5.length = 1 := Cod.int_ok.len q5
 have a5 : w1.rangeAt w.heap.size 4 k5 := At.left (w := w1) hA
 replace hA : w1.rangeAt w.heap.size 5 _ := At.right (w := w1) hA (k := 5) (by rw [n5])
 have n6 : k6.length = 1 := Cod.int_ok.len q6
 have a6 : w1.rangeAt w.heap.size 5 k6 := At.left (w := w1) hA
 replace hA : w1.rangeAt w.heap.size 6 _ := At.right (w := w1) hA (k := 6) (by rw [n6])
 have n7 : k7.length = 1 := Cod.int_ok.len q7
 have a7 : w1.rangeAt w.heap.size 6 k7 := At.left (w := w1) hA
 replace hA : w1.rangeAt w.heap.size 7 _ := At.right (w := w1) hA (k := 7) (by rw [n7])
 have n8 : k8.length = 1 := Cod.str_ok.len q8
 have a8 : w1.rangeAt w.heap.size 7 k8 := At.left (w := w1) hA
 replace hA : w1.rangeAt w.heap.size 8 _ := At.right (w := w1) hA (k := 8) (by rw [n8])
 have n9 : k9.length = 1 := Cod.str_ok.len q9
 have a9 : w1.rangeAt w.heap.size 8 k9 := At.left (w := w1) hA
 replace hA : w1.rangeAt w.heap.size 9 _ := At.right (w := w1) hA (k := 9) (by rw [n9])
 have n10 : k10.length = 3 := Cod.origin_ok.len q10
 have a10 : w1.rangeAt w.heap.size 9 k10 := At.left (w := w1) hA
 replace hA : w1.rangeAt w.heap.size 12 _ := At.right (w := w1) hA (k := 12) (by rw [n10])
 have n11 : k11.length = 1 := (Cod.list_ok Cod.vari_ok).len q11
 have a11 : w1.rangeAt w.heap.size 12 k11 := At.left (w := w1) hA
 replace hA : w1.rangeAt w.heap.size 13 _ := At.right (w := w1) hA (k := 13) (by rw [n11])
 have n12 : k12.length = 1 := (Cod.list_ok Cod.timing_ok).len q12
 have a12 : w1.rangeAt w.heap.size 13 k12 := At.left (w := w1) hA
 replace hA : w1.rangeAt w.heap.size 14 _ := At.right (w := w1) hA (k := 14) (by rw [n12])
 have n13 : k13.length = 6 := Cod.result_ok.len q13
 have a13 : w1.rangeAt w.heap.size 14 k13 := At.left (w := w1) hA
 replace hA : w1.rangeAt w.heap.size 20 _ := At.right (w := w1) hA (k := 20) (by rw [n13])
 have n14 : k14.length = 9 := Cod.machine_ok.len q14
 have a14 : w1.rangeAt w.heap.size 20 k14 := At.left (w := w1) hA
 replace hA : w1.rangeAt w.heap.size 29 _ := At.right (w := w1) hA (k := 29) (by rw [n14])
 have n15 : k15.length = 5 := Cod.secret_ok.len q15
 have a15 : w1.rangeAt w.heap.size 29 k15 := At.left (w := w1) hA
 replace hA : w1.rangeAt w.heap.size 34 _ := At.right (w := w1) hA (k := 34) (by rw [n15])
 have n16 : k16.length = 8 := Cod.entry_ok.len q16
 have a16 : w1.rangeAt w.heap.size 34 k16 := At.left (w := w1) hA
 clear hA
 obtain ⟨v1, rfl⟩ := one_list n1
 have e1 : w1.cell? ⟨w.heap.size, 0, none⟩ = some v1 := a1 0 _ rfl
 clear a1
 obtain ⟨v2, rfl⟩ := one_list n2
 have e2 : w1.cell? ⟨w.heap.size, 1, none⟩ = some v2 := a2 0 _ rfl
 clear a2
 obtain ⟨v3, rfl⟩ := one_list n3
 have e3 : w1.cell? ⟨w.heap.size, 2, none⟩ = some v3 := a3 0 _ rfl
 clear a3
 obtain ⟨v4, rfl⟩ := one_list n4
 have e4 : w1.cell? ⟨w.heap.size, 3, none⟩ = some v4 := a4 0 _ rfl
 clear a4
 obtain ⟨v5, rfl⟩ := one_list n5
 have e5 : w1.cell? ⟨w.heap.size, 4, none⟩ = some v5 := a5 0 _ rfl
 clear a5
 obtain ⟨v6, rfl⟩ := one_list n6
 have e6 : w1.cell? ⟨w.heap.size, 5, none⟩ = some v6 := a6 0 _ rfl
 clear a6
 obtain ⟨v7, rfl⟩ := one_list n7
 have e7 : w1.cell? ⟨w.heap.size, 6, none⟩ = some v7 := a7 0 _ rfl
 clear a7
 obtain ⟨v8, rfl⟩ := one_list n8
 have e8 : w1.cell? ⟨w.heap.size, 7, none⟩ = some v8 := a8 0 _ rfl
 clear a8
 obtain ⟨v9, rfl⟩ := one_list n9
 have e9 : w1.cell? ⟨w.heap.size, 8, none⟩ = some v9 := a9 0 _ rfl
 clear a9
 obtain ⟨v11, rfl⟩ := one_list n11
 have e11 : w1.cell? ⟨w.heap.size, 12, none⟩ = some v11 := a11 0 _ rfl
 clear a11
 obtain ⟨v12, rfl⟩ := one_list n12
 have e12 : w1.cell? ⟨w.heap.size, 13, none⟩ = some v12 := a12 0 _ rfl
 clear a12
 clear n1 n2 n3 n4 n5 n6 n7 n8 n9 n11 n12
 have hbc : Below w1.heap.size w1 w1.drew := (Below.refl _ _).drew
 have hz := hbc.size
 refine wp_region_held_drew (S := (fun w' => w'.cell? ⟨w.heap.size, 0, none⟩ = some v1 ∧ w'.cell? ⟨w.heap.size, 1, none⟩ = some v2 ∧ w'.cell? ⟨w.heap.size, 2, none⟩ = some v3 ∧ w'.cell? ⟨w.heap.size, 3, none⟩ = some v4 ∧ w'.cell? ⟨w.heap.size, 4, none⟩ = some v5 ∧ w'.cell? ⟨w.heap.size, 5, none⟩ = some v6 ∧ w'.cell? ⟨w.heap.size, 6, none⟩ = some v7 ∧ w'.cell? ⟨w.heap.size, 7, none⟩ = some v8 ∧ w'.cell? ⟨w.heap.size, 8, none⟩ = some v9 ∧ w'.cell? ⟨w.heap.size, 12, none⟩ = some v11 ∧ w'.cell? ⟨w.heap.size, 13, none⟩ = some v12 ∧ w'.rangeAt w.heap.size 9 k10 ∧ w'.rangeAt w.heap.size 14 k13 ∧ w'.rangeAt w.heap.size 20 k14 ∧ w'.rangeAt w.heap.size 29 k15 ∧ w'.rangeAt w.heap.size 34 k16)) (by kernel_rfl) ?_ (fun hHeld => ?_)
 ·(try dsimp only)
  exact ⟨CT hbc hlt0 e1, CT hbc hlt0 e2, CT hbc hlt0 e3, CT hbc hlt0 e4, CT hbc hlt0 e5, CT hbc hlt0 e6, CT hbc hlt0 e7, CT hbc hlt0 e8, CT hbc hlt0 e9, CT hbc hlt0 e11, CT hbc hlt0 e12, at_up a10 hbc hlt0, at_up a13 hbc hlt0, at_up a14 hbc hlt0, at_up a15 hbc hlt0, at_up a16 hbc hlt0⟩
 generalize World.drew w1 = vd at *
 refine tkY 0 (v := ?v24) rfl (.inl ⟨by rfl, ?hy24⟩) ?hr24
 case hy24 => (intro w hSw; (try dsimp only at hSw); go_simp; try with_reducible rfl)
 simp only [Act.put, Z1, Z2, Z4, Z5, Z6]
 refine tkY 1 (v := ?v25) rfl (.inl ⟨by rfl, ?hy25⟩) ?hr25
 case hy25 => (intro w hSw; (try dsimp only at hSw); go_simp; try with_reducible rfl)
 simp only [Act.put, Z1, Z2, Z3, Z4, Z5, Z6]
 refine tkY 3 (v := ?v26) rfl (.inl ⟨by rfl, ?hy26⟩) ?hr26
 case hy26 => (intro w hSw; (try dsimp only at hSw); go_simp; try with_reducible rfl)
 simp only [Act.put, Z1, Z2, Z3, Z4, Z5, Z6]
 refine tkY 4 (v := ?v27) rfl (.inl ⟨by rfl, ?hy27⟩) ?hr27
 case hy27 => (intro w hSw; (try dsimp only at hSw); go_simp; try with_reducible rfl)
 simp only [Act.put, Z1, Z2, Z3, Z4, Z5, Z6]
 refine tkY 6 (v := ?v28) rfl (.inl ⟨by rfl, ?hy28⟩) ?hr28
 case hy28 => (intro w hSw; (try dsimp only at hSw); go_simp; try with_reducible rfl)
 simp only [Act.put, Z1, Z2, Z3, Z4, Z5, Z6]
 refine tkY 7 (v := ?v29) rfl (.inl ⟨by rfl, ?hy29⟩) ?hr29
 case hy29 => (intro w hSw; (try dsimp only at hSw); go_simp; try with_reducible rfl)
 simp only [Act.put, Z1, Z2, Z3, Z4, Z5, Z6]
 refine tkY 9 (v := ?v30) rfl (.inl ⟨by rfl, ?hy30⟩) ?hr30
 case hy30 => (intro w hSw; (try dsimp only at hSw); go_simp; try with_reducible rfl)
 simp only [Act.put, Z1, Z2, Z3, Z4, Z5, Z6]
 refine tkY 10 (v := ?v31) rfl (.inl ⟨by rfl, ?hy31⟩) ?hr31
 case hy31 => (intro w hSw; (try dsimp only at hSw); go_simp; try with_reducible rfl)
 simp only [Act.put, Z1, Z2, Z3, Z4, Z5, Z6]
 refine tkY 12 (v := ?v32) rfl (.inl ⟨by rfl, ?hy32⟩) ?hr32
 case hy32 => (intro w hSw; (try dsimp only at hSw); go_simp; try with_reducible rfl)
 simp only [Act.put, Z1, Z2, Z3, Z4, Z5, Z6]
 refine tkY 13 (v := ?v33) rfl (.inl ⟨by rfl, ?hy33⟩) ?hr33
 case hy33 => (intro w hSw; (try dsimp only at hSw); go_simp; try with_reducible rfl)
 simp only [Act.put, Z1, Z2, Z3, Z4, Z5, Z6]
 refine tkY 15 (v := ?v34) rfl (.inl ⟨by rfl, ?hy34⟩) ?hr34
 case hy34 => (intro w hSw; (try dsimp only at hSw); go_simp; try with_reducible rfl)
 simp only [Act.put, Z1, Z2, Z3, Z4, Z5, Z6]
 refine tkY 16 (v := ?v35) rfl (.inl ⟨by rfl, ?hy35⟩) ?hr35
 case hy35 => (intro w hSw; (try dsimp only at hSw); go_simp; try with_reducible rfl)
 simp only [Act.put, Z1, Z2, Z3, Z4, Z5, Z6]
 refine tkY 18 (v := ?v36) rfl (.inl ⟨by rfl, ?hy36⟩) ?hr36
 case hy36 => (intro w hSw; (try dsimp only at hSw); go_simp; try with_reducible rfl)
 simp only [Act.put, Z1, Z2, Z3, Z4, Z5, Z6]
 refine tkY 19 (v := ?v37) rfl (.inl ⟨by rfl, ?hy37⟩) ?hr37
 case hy37 => (intro w hSw; (try dsimp only at hSw); go_simp; try with_reducible rfl)
 simp only [Act.put, Z1, Z2, Z3, Z4, Z5, Z6]
 refine tkY 21 (v := ?v38) rfl (.inl ⟨by rfl, ?hy38⟩) ?hr38
 case hy38 => (intro w hSw; (try dsimp only at hSw); go_simp; try with_reducible rfl)
 simp only [Act.put, Z1, Z2, Z3, Z4, Z5, Z6]
 refine tkY 22 (v := ?v39) rfl (.inl ⟨by rfl, ?hy39⟩) ?hr39
 case hy39 => (intro w hSw; (try dsimp only at hSw); go_simp; try with_reducible rfl)
 simp only [Act.put, Z1, Z2, Z3, Z4, Z5, Z6]
 refine tkY 24 (v := ?v40) rfl (.inl ⟨by rfl, ?hy40⟩) ?hr40
 case hy40 => (intro w hSw; (try dsimp only at hSw); go_simp; try with_reducible rfl)
 simp only [Act.put, Z1, Z2, Z3, Z4, Z5, Z6]
 refine tkY 25 (v := ?v41) rfl (.inl ⟨by rfl, ?hy41⟩) ?hr41
 case hy41 => (intro w hSw; (try dsimp only at hSw); go_simp; try with_reducible rfl)
 simp only [Act.put, Z1, Z2, Z3, Z4, Z5, Z6]
 refine tkY 27 (v := ?v42) rfl (.inl ⟨by rfl, ?hy42⟩) ?hr42
 case hy42 => (intro w hSw; (try dsimp only at hSw); go_simp; try with_reducible rfl)
 simp only [Act.put, Z1, Z2, Z3, Z4, Z5, Z6]
 refine tkY 28 (v := .agg k10.toArray) rfl (yieldsIf_load_mid (by rfl) 23 _ rfl w.heap.size 9 rfl k10 _ (fun v h => h.2.2.2.2.2.2.2.2.2.2.2.1) Tryz.underlying23 rfl (by rw [n10]; kernel_rfl)) ?hr43
 simp only [Act.put, Z1, Z2, Z3, Z4, Z5, Z6]
 refine tkY 30 (v := ?v44) rfl (.inl ⟨by rfl, ?hy44⟩) ?hr44
 case hy44 => (intro w hSw; (try dsimp only at hSw); go_simp; try with_reducible rfl)
 simp only [Act.put, Z1, Z2, Z3, Z4, Z5, Z6]
 refine tkY 31 (v := ?v45) rfl (.inl ⟨by rfl, ?hy45⟩) ?hr45
 case hy45 => (intro w hSw; (try dsimp only at hSw); go_simp; try with_reducible rfl)
 simp only [Act.put, Z1, Z2, Z3, Z4, Z5, Z6]
 refine tkY 33 (v := ?v46) rfl (.inl ⟨by rfl, ?hy46⟩) ?hr46
 case hy46 => (intro w hSw; (try dsimp only at hSw); go_simp; try with_reducible rfl)
 simp only [Act.put, Z1, Z2, Z3, Z4, Z5, Z6]
 refine tkY 34 (v := ?v47) rfl (.inl ⟨by rfl, ?hy47⟩) ?hr47
 case hy47 => (intro w hSw; (try dsimp only at hSw); go_simp; try with_reducible rfl)
 simp only [Act.put, Z1, Z2, Z3, Z4, Z5, Z6]
 refine tkY 36 (v := ?v48) rfl (.inl ⟨by rfl, ?hy48⟩) ?hr48
 case hy48 => (intro w hSw; (try dsimp only at hSw); go_simp; try with_reducible rfl)
 simp only [Act.put, Z1, Z2, Z3, Z4, Z5, Z6]
 refine tkY 37 (v := .agg k13.toArray) rfl (yieldsIf_load_mid (by rfl) 29 _ rfl w.heap.size 14 rfl k13 _ (fun v h => h.2.2.2.2.2.2.2.2.2.2.2.2.1) Tryz.underlying29 rfl (by rw [n13]; kernel_rfl)) ?hr49
 simp only [Act.put, Z1, Z2, Z3, Z4, Z5, Z6]
 refine tkY 39 (v := ?v50) rfl (.inl ⟨by rfl, ?hy50⟩) ?hr50
 case hy50 => (intro w hSw; (try dsimp only at hSw); go_simp; try with_reducible rfl)
 simp only [Act.put, Z1, Z2, Z3, Z4, Z5, Z6]
 refine tkY 40 (v := .agg k14.toArray) rfl (yieldsIf_load_mid (by rfl) 33 _ rfl w.heap.size 20 rfl k14 _ (fun v h => h.2.2.2.2.2.2.2.2.2.2.2.2.2.1) Tryz.underlying33 rfl (by rw [n14]; kernel_rfl)) ?hr51
 simp only [Act.put, Z1, Z2, Z3, Z4, Z5, Z6]
 refine tkY 42 (v := ?v52) rfl (.inl ⟨by rfl, ?hy52⟩) ?hr52
 case hy52 => (intro w hSw; (try dsimp only at hSw); go_simp; try with_reducible rfl)
 simp only [Act.put, Z1, Z2, Z3, Z4, Z5, Z6]
 refine tkY 43 (v := .agg k15.toArray) rfl (yieldsIf_load_mid (by rfl) 35 _ rfl w.heap.size 29 rfl k15 _ (fun v h => h.2.2.2.2.2.2.2.2.2.2.2.2.2.2.1) Tryz.underlying35 rfl (by rw [n15]; kernel_rfl)) ?hr53
 simp only [Act.put, Z1, Z2, Z3, Z4, Z5, Z6]
 refine tkY 45 (v := ?v54) rfl (.inl ⟨by rfl, ?hy54⟩) ?hr54
 case hy54 => (intro w hSw; (try dsimp only at hSw); go_simp; try with_reducible rfl)
 simp only [Act.put, Z1, Z2, Z3, Z4, Z5, Z6]
 refine tkY 46 (v := .agg k16.toArray) rfl (yieldsIf_load_mid (by rfl) 41 _ rfl w.heap.size 34 rfl k16 _ (fun v h => h.2.2.2.2.2.2.2.2.2.2.2.2.2.2.2) Tryz.underlying41 rfl (by rw [n16]; kernel_rfl)) ?hr55
 simp only [Act.put, Z1, Z2, Z3, Z4, Z5, Z6]
 refine wpAnyH_ready (rs := [2]) (by kernel_rfl) (by simp) ?_
 refine AllReadyH.cons rfl (fun K hK => ?_) AllReadyH.nil
 go_simp
 go_at_call 64
 refine (num_fc vd f1 v1 (Cod.int_ok.up q1 (hb0.trans (hbc.mono hb0.size))) s1).mono ?_
 rintro e z1 ⟨A1, c1, rfl, hF1, hbq⟩
 dsimp only
 replace hF1 := rf_lo hF1 hz
 replace hbc := hbc.trans (hbq.mono hbc.size)
 have hz_ := hz
 replace hz := hbc.size
 refine hK.out _ _ ?_ (fun hHeld => ?_)
 ·(try dsimp only)
  exact ⟨CT hbc hlt0 e1, CT hbc hlt0 e2, CT hbc hlt0 e3, CT hbc hlt0 e4, CT hbc hlt0 e5, CT hbc hlt0 e6, CT hbc hlt0 e7, CT hbc hlt0 e8, CT hbc hlt0 e9, CT hbc hlt0 e11, CT hbc hlt0 e12, at_up a10 hbc hlt0, at_up a13 hbc hlt0, at_up a14 hbc hlt0, at_up a15 hbc hlt0, at_up a16 hbc hlt0⟩
 clear hK K
 try simp only [Act.put, Z1, Z2, Z3, Z4, Z5, Z6]
 refine wpAnyH_ready (rs := [5]) (by kernel_rfl) (by simp) ?_
 refine AllReadyH.cons rfl (fun K hK => ?_) AllReadyH.nil
 go_simp
 go_at_call 64
 refine (num_fc z1 f2 v2 (Cod.int_ok.up q2 (hb0.trans (hbc.mono hb0.size))) s2).mono ?_
 rintro e z2 ⟨A2, c2, rfl, hF2, hbq⟩
 dsimp only
 replace hF2 := rf_lo hF2 hz
 replace hF1 := rf_up hF1 hbq
 replace hbc := hbc.trans (hbq.mono hbc.size)
 have hz_ := hz
 replace hz := hbc.size
 refine hK.out _ _ ?_ (fun hHeld => ?_)
 ·(try dsimp only)
  exact ⟨CT hbc hlt0 e1, CT hbc hlt0 e2, CT hbc hlt0 e3, CT hbc hlt0 e4, CT hbc hlt0 e5, CT hbc hlt0 e6, CT hbc hlt0 e7, CT hbc hlt0 e8, CT hbc hlt0 e9, CT hbc hlt0 e11, CT hbc hlt0 e12, at_up a10 hbc hlt0, at_up a13 hbc hlt0, at_up a14 hbc hlt0, at_up a15 hbc hlt0, at_up a16 hbc hlt0⟩
 clear hK K
 try simp only [Act.put, Z1, Z2, Z3, Z4, Z5, Z6]
 refine wpAnyH_ready (rs := [8]) (by kernel_rfl) (by simp) ?_
 refine AllReadyH.cons rfl (fun K hK => ?_) AllReadyH.nil
 go_simp
 go_at_call 65
 refine (str_fc z2 f3 v3 (Cod.str_ok.up q3 (hb0.trans (hbc.mono hb0.size))) s3).mono ?_
 rintro e z3 ⟨A3, c3, rfl, hF3, hbq⟩
 dsimp only
 replace hF3 := rf_lo hF3 hz
 replace hF1 := rf_up hF1 hbq
 replace hF2 := rf_up hF2 hbq
 replace hbc := hbc.trans (hbq.mono hbc.size)
 have hz_ := hz
 replace hz := hbc.size
 refine hK.out _ _ ?_ (fun hHeld => ?_)
 ·(try dsimp only)
  exact ⟨CT hbc hlt0 e1, CT hbc hlt0 e2, CT hbc hlt0 e3, CT hbc hlt0 e4, CT hbc hlt0 e5, CT hbc hlt0 e6, CT hbc hlt0 e7, CT hbc hlt0 e8, CT hbc hlt0 e9, CT hbc hlt0 e11, CT hbc hlt0 e12, at_up a10 hbc hlt0, at_up a13 hbc hlt0, at_up a14 hbc hlt0, at_up a15 hbc hlt0, at_up a16 hbc hlt0⟩
 clear hK K
 try simp only [Act.put, Z1, Z2, Z3, Z4, Z5, Z6]
 refine wpAnyH_ready (rs := [11]) (by kernel_rfl) (by simp) ?_
 refine AllReadyH.cons rfl (fun K hK => ?_) AllReadyH.nil
 go_simp
 go_at_call 65
 refine (str_fc z3 f4 v4 (Cod.str_ok.up q4 (hb0.trans (hbc.mono hb0.size))) s4).mono ?_
 rintro e z4 ⟨A4, c4, rfl, hF4, hbq⟩
 dsimp only
 replace hF4 := rf_lo hF4 hz
 replace hF1 := rf_up hF1 hbq
 replace hF2 := rf_up hF2 hbq
 replace hF3 := rf_up hF3 hbq
 replace hbc := hbc.trans (hbq.mono hbc.size)
 have hz_ := hz
 replace hz := hbc.size
 refine hK.out _ _ ?_ (fun hHeld => ?_)
 ·(try dsimp only)
  exact ⟨CT hbc hlt0 e1, CT hbc hlt0 e2, CT hbc hlt0 e3, CT hbc hlt0 e4, CT hbc hlt0 e5, CT hbc hlt0 e6, CT hbc hlt0 e7, CT hbc hlt0 e8, CT hbc hlt0 e9, CT hbc hlt0 e11, CT hbc hlt0 e12, at_up a10 hbc hlt0, at_up a13 hbc hlt0, at_up a14 hbc hlt0, at_up a15 hbc hlt0, at_up a16 hbc hlt0⟩
 clear hK K
 try simp only [Act.put, Z1, Z2, Z3, Z4, Z5, Z6]
 refine wpAnyH_ready (rs := [14]) (by kernel_rfl) (by simp) ?_
 refine AllReadyH.cons rfl (fun K hK => ?_) AllReadyH.nil
 go_simp
 go_at_call 64
 refine (num_fc z4 f5 v5 (Cod.int_ok.up q5 (hb0.trans (hbc.mono hb0.size))) s5).mono ?_
 rintro e z5 ⟨A5, c5, rfl, hF5, hbq⟩
 dsimp only
 replace hF5 := rf_lo hF5 hz
 replace hF1 := rf_up hF1 hbq
 replace hF2 := rf_up hF2 hbq
 replace hF3 := rf_up hF3 hbq
 replace hF4 := rf_up hF4 hbq
 replace hbc := hbc.trans (hbq.mono hbc.size)
 have hz_ := hz
 replace hz := hbc.size
 refine hK.out _ _ ?_ (fun hHeld => ?_)
 ·(try dsimp only)
  exact ⟨CT hbc hlt0 e1, CT hbc hlt0 e2, CT hbc hlt0 e3, CT hbc hlt0 e4, CT hbc hlt0 e5, CT hbc hlt0 e6, CT hbc hlt0 e7, CT hbc hlt0 e8, CT hbc hlt0 e9, CT hbc hlt0 e11, CT hbc hlt0 e12, at_up a10 hbc hlt0, at_up a13 hbc hlt0, at_up a14 hbc hlt0, at_up a15 hbc hlt0, at_up a16 hbc hlt0⟩
 clear hK K
 try simp only [Act.put, Z1, Z2, Z3, Z4, Z5, Z6]
 refine wpAnyH_ready (rs := [17]) (by kernel_rfl) (by simp) ?_
 refine AllReadyH.cons rfl (fun K hK => ?_) AllReadyH.nil
 go_simp
 go_at_call 64
 refine (num_fc z5 f6 v6 (Cod.int_ok.up q6 (hb0.trans (hbc.mono hb0.size))) s6).mono ?_
 rintro e z6 ⟨A6, c6, rfl, hF6, hbq⟩
 dsimp only
 replace hF6 := rf_lo hF6 hz
 replace hF1 := rf_up hF1 hbq
 replace hF2 := rf_up hF2 hbq
 replace hF3 := rf_up hF3 hbq
 replace hF4 := rf_up hF4 hbq
 replace hF5 := rf_up hF5 hbq
 replace hbc := hbc.trans (hbq.mono hbc.size)
 have hz_ := hz
 replace hz := hbc.size
 refine hK.out _ _ ?_ (fun hHeld => ?_)
 ·(try dsimp only)
  exact ⟨CT hbc hlt0 e1, CT hbc hlt0 e2, CT hbc hlt0 e3, CT hbc hlt0 e4, CT hbc hlt0 e5, CT hbc hlt0 e6, CT hbc hlt0 e7, CT hbc hlt0 e8, CT hbc hlt0 e9, CT hbc hlt0 e11, CT hbc hlt0 e12, at_up a10 hbc hlt0, at_up a13 hbc hlt0, at_up a14 hbc hlt0, at_up a15 hbc hlt0, at_up a16 hbc hlt0⟩
 clear hK K
 try simp only [Act.put, Z1, Z2, Z3, Z4, Z5, Z6]
 refine wpAnyH_ready (rs := [20]) (by kernel_rfl) (by simp) ?_
 refine AllReadyH.cons rfl (fun K hK => ?_) AllReadyH.nil
 go_simp
 go_at_call 64
 refine (num_fc z6 f7 v7 (Cod.int_ok.up q7 (hb0.trans (hbc.mono hb0.size))) s7).mono ?_
 rintro e z7 ⟨A7, c7, rfl, hF7, hbq⟩
 dsimp only
 replace hF7 := rf_lo hF7 hz
 replace hF1 := rf_up hF1 hbq
 replace hF2 := rf_up hF2 hbq
 replace hF3 := rf_up hF3 hbq
 replace hF4 := rf_up hF4 hbq
 replace hF5 := rf_up hF5 hbq
 replace hF6 := rf_up hF6 hbq
 replace hbc := hbc.trans (hbq.mono hbc.size)
 have hz_ := hz
 replace hz := hbc.size
 refine hK.out _ _ ?_ (fun hHeld => ?_)
 ·(try dsimp only)
  exact ⟨CT hbc hlt0 e1, CT hbc hlt0 e2, CT hbc hlt0 e3, CT hbc hlt0 e4, CT hbc hlt0 e5, CT hbc hlt0 e6, CT hbc hlt0 e7, CT hbc hlt0 e8, CT hbc hlt0 e9, CT hbc hlt0 e11, CT hbc hlt0 e12, at_up a10 hbc hlt0, at_up a13 hbc hlt0, at_up a14 hbc hlt0, at_up a15 hbc hlt0, at_up a16 hbc hlt0⟩
 clear hK K
 try simp only [Act.put, Z1, Z2, Z3, Z4, Z5, Z6]
 refine wpAnyH_ready (rs := [23]) (by kernel_rfl) (by simp) ?_
 refine AllReadyH.cons rfl (fun K hK => ?_) AllReadyH.nil
 go_simp
 go_at_call 65
 refine (str_fc z7 f8 v8 (Cod.str_ok.up q8 (hb0.trans (hbc.mono hb0.size))) s8).mono ?_
 rintro e z8 ⟨A8, c8, rfl, hF8, hbq⟩
 dsimp only
 replace hF8 := rf_lo hF8 hz
 replace hF1 := rf_up hF1 hbq
 replace hF2 := rf_up hF2 hbq
 replace hF3 := rf_up hF3 hbq
 replace hF4 := rf_up hF4 hbq
 replace hF5 := rf_up hF5 hbq
 replace hF6 := rf_up hF6 hbq
 replace hF7 := rf_up hF7 hbq
 replace hbc := hbc.trans (hbq.mono hbc.size)
 have hz_ := hz
 replace hz := hbc.size
 refine hK.out _ _ ?_ (fun hHeld => ?_)
 ·(try dsimp only)
  exact ⟨CT hbc hlt0 e1, CT hbc hlt0 e2, CT hbc hlt0 e3, CT hbc hlt0 e4, CT hbc hlt0 e5, CT hbc hlt0 e6, CT hbc hlt0 e7, CT hbc hlt0 e8, CT hbc hlt0 e9, CT hbc hlt0 e11, CT hbc hlt0 e12, at_up a10 hbc hlt0, at_up a13 hbc hlt0, at_up a14 hbc hlt0, at_up a15 hbc hlt0, at_up a16 hbc hlt0⟩
 clear hK K
 try simp only [Act.put, Z1, Z2, Z3, Z4, Z5, Z6]
 refine wpAnyH_ready (rs := [26]) (by kernel_rfl) (by simp) ?_
 refine AllReadyH.cons rfl (fun K hK => ?_) AllReadyH.nil
 go_simp
 go_at_call 65
 refine (str_fc z8 f9 v9 (Cod.str_ok.up q9 (hb0.trans (hbc.mono hb0.size))) s9).mono ?_
 rintro e z9 ⟨A9, c9, rfl, hF9, hbq⟩
 dsimp only
 replace hF9 := rf_lo hF9 hz
 replace hF1 := rf_up hF1 hbq
 replace hF2 := rf_up hF2 hbq
 replace hF3 := rf_up hF3 hbq
 replace hF4 := rf_up hF4 hbq
 replace hF5 := rf_up hF5 hbq
 replace hF6 := rf_up hF6 hbq
 replace hF7 := rf_up hF7 hbq
 replace hF8 := rf_up hF8 hbq
 replace hbc := hbc.trans (hbq.mono hbc.size)
 have hz_ := hz
 replace hz := hbc.size
 refine hK.out _ _ ?_ (fun hHeld => ?_)
 ·(try dsimp only)
  exact ⟨CT hbc hlt0 e1, CT hbc hlt0 e2, CT hbc hlt0 e3, CT hbc hlt0 e4, CT hbc hlt0 e5, CT hbc hlt0 e6, CT hbc hlt0 e7, CT hbc hlt0 e8, CT hbc hlt0 e9, CT hbc hlt0 e11, CT hbc hlt0 e12, at_up a10 hbc hlt0, at_up a13 hbc hlt0, at_up a14 hbc hlt0, at_up a15 hbc hlt0, at_up a16 hbc hlt0⟩
 clear hK K
 try simp only [Act.put, Z1, Z2, Z3, Z4, Z5, Z6]
 refine wpAnyH_ready (rs := [29]) (by kernel_rfl) (by simp) ?_
 refine AllReadyH.cons rfl (fun K hK => ?_) AllReadyH.nil
 go_simp
 go_at_call 66
 refine (origin_fc z9 f10 k10 (Cod.origin_ok.up q10 (hb0.trans (hbc.mono hb0.size))) s10).mono ?_
 rintro e z10 ⟨A10, c10, rfl, hF10, hbq⟩
 dsimp only
 replace hF10 := rf_lo hF10 hz
 replace hF1 := rf_up hF1 hbq
 replace hF2 := rf_up hF2 hbq
 replace hF3 := rf_up hF3 hbq
 replace hF4 := rf_up hF4 hbq
 replace hF5 := rf_up hF5 hbq
 replace hF6 := rf_up hF6 hbq
 replace hF7 := rf_up hF7 hbq
 replace hF8 := rf_up hF8 hbq
 replace hF9 := rf_up hF9 hbq
 replace hbc := hbc.trans (hbq.mono hbc.size)
 have hz_ := hz
 replace hz := hbc.size
 refine hK.out _ _ ?_ (fun hHeld => ?_)
 ·(try dsimp only)
  exact ⟨CT hbc hlt0 e1, CT hbc hlt0 e2, CT hbc hlt0 e3, CT hbc hlt0 e4, CT hbc hlt0 e5, CT hbc hlt0 e6, CT hbc hlt0 e7, CT hbc hlt0 e8, CT hbc hlt0 e9, CT hbc hlt0 e11, CT hbc hlt0 e12, at_up a10 hbc hlt0, at_up a13 hbc hlt0, at_up a14 hbc hlt0, at_up a15 hbc hlt0, at_up a16 hbc hlt0⟩
 clear hK K
 try simp only [Act.put, Z1, Z2, Z3, Z4, Z5, Z6]
 refine wpAnyH_ready (rs := [32]) (by kernel_rfl) (by simp) ?_
 refine AllReadyH.cons rfl (fun K hK => ?_) AllReadyH.nil
 go_simp
 go_at_call 67
 refine (vars_fc z10 f11 v11 ((Cod.list_ok Cod.vari_ok).up q11 (hb0.trans (hbc.mono hb0.size))) s11).mono ?_
 rintro e z11 ⟨A11, c11, rfl, hF11, hbq⟩
 dsimp only
 replace hF11 := rf_lo hF11 hz
 replace hF1 := rf_up hF1 hbq
 replace hF2 := rf_up hF2 hbq
 replace hF3 := rf_up hF3 hbq
 replace hF4 := rf_up hF4 hbq
 replace hF5 := rf_up hF5 hbq
 replace hF6 := rf_up hF6 hbq
 replace hF7 := rf_up hF7 hbq
 replace hF8 := rf_up hF8 hbq
 replace hF9 := rf_up hF9 hbq
 replace hF10 := rf_up hF10 hbq
 replace hbc := hbc.trans (hbq.mono hbc.size)
 have hz_ := hz
 replace hz := hbc.size
 refine hK.out _ _ ?_ (fun hHeld => ?_)
 ·(try dsimp only)
  exact ⟨CT hbc hlt0 e1, CT hbc hlt0 e2, CT hbc hlt0 e3, CT hbc hlt0 e4, CT hbc hlt0 e5, CT hbc hlt0 e6, CT hbc hlt0 e7, CT hbc hlt0 e8, CT hbc hlt0 e9, CT hbc hlt0 e11, CT hbc hlt0 e12, at_up a10 hbc hlt0, at_up a13 hbc hlt0, at_up a14 hbc hlt0, at_up a15 hbc hlt0, at_up a16 hbc hlt0⟩
 clear hK K
 try simp only [Act.put, Z1, Z2, Z3, Z4, Z5, Z6]
 refine wpAnyH_ready (rs := [35]) (by kernel_rfl) (by simp) ?_
 refine AllReadyH.cons rfl (fun K hK => ?_) AllReadyH.nil
 go_simp
 go_at_call 68
 refine (times_fc z11 f12 v12 ((Cod.list_ok Cod.timing_ok).up q12 (hb0.trans (hbc.mono hb0.size))) s12).mono ?_
 rintro e z12 ⟨A12, c12, rfl, hF12, hbq⟩
 dsimp only
 replace hF12 := rf_lo hF12 hz
 replace hF1 := rf_up hF1 hbq
 replace hF2 := rf_up hF2 hbq
 replace hF3 := rf_up hF3 hbq
 replace hF4 := rf_up hF4 hbq
 replace hF5 := rf_up hF5 hbq
 replace hF6 := rf_up hF6 hbq
 replace hF7 := rf_up hF7 hbq
 replace hF8 := rf_up hF8 hbq
 replace hF9 := rf_up hF9 hbq
 replace hF10 := rf_up hF10 hbq
 replace hF11 := rf_up hF11 hbq
 replace hbc := hbc.trans (hbq.mono hbc.size)
 have hz_ := hz
 replace hz := hbc.size
 refine hK.out _ _ ?_ (fun hHeld => ?_)
 ·(try dsimp only)
  exact ⟨CT hbc hlt0 e1, CT hbc hlt0 e2, CT hbc hlt0 e3, CT hbc hlt0 e4, CT hbc hlt0 e5, CT hbc hlt0 e6, CT hbc hlt0 e7, CT hbc hlt0 e8, CT hbc hlt0 e9, CT hbc hlt0 e11, CT hbc hlt0 e12, at_up a10 hbc hlt0, at_up a13 hbc hlt0, at_up a14 hbc hlt0, at_up a15 hbc hlt0, at_up a16 hbc hlt0⟩
 clear hK K
 try simp only [Act.put, Z1, Z2, Z3, Z4, Z5, Z6]
 refine wpAnyH_ready (rs := [38]) (by kernel_rfl) (by simp) ?_
 refine AllReadyH.cons rfl (fun K hK => ?_) AllReadyH.nil
 go_simp
 go_at_call 69
 refine (result_fc z12 f13 k13 (Cod.result_ok.up q13 (hb0.trans (hbc.mono hb0.size))) s13).mono ?_
 rintro e z13 ⟨A13, c13, rfl, hF13, hbq⟩
 dsimp only
 replace hF13 := rf_lo hF13 hz
 replace hF1 := rf_up hF1 hbq
 replace hF2 := rf_up hF2 hbq
 replace hF3 := rf_up hF3 hbq
 replace hF4 := rf_up hF4 hbq
 replace hF5 := rf_up hF5 hbq
 replace hF6 := rf_up hF6 hbq
 replace hF7 := rf_up hF7 hbq
 replace hF8 := rf_up hF8 hbq
 replace hF9 := rf_up hF9 hbq
 replace hF10 := rf_up hF10 hbq
 replace hF11 := rf_up hF11 hbq
 replace hF12 := rf_up hF12 hbq
 replace hbc := hbc.trans (hbq.mono hbc.size)
 have hz_ := hz
 replace hz := hbc.size
 refine hK.out _ _ ?_ (fun hHeld => ?_)
 ·(try dsimp only)
  exact ⟨CT hbc hlt0 e1, CT hbc hlt0 e2, CT hbc hlt0 e3, CT hbc hlt0 e4, CT hbc hlt0 e5, CT hbc hlt0 e6, CT hbc hlt0 e7, CT hbc hlt0 e8, CT hbc hlt0 e9, CT hbc hlt0 e11, CT hbc hlt0 e12, at_up a10 hbc hlt0, at_up a13 hbc hlt0, at_up a14 hbc hlt0, at_up a15 hbc hlt0, at_up a16 hbc hlt0⟩
 clear hK K
 try simp only [Act.put, Z1, Z2, Z3, Z4, Z5, Z6]
 refine wpAnyH_ready (rs := [41]) (by kernel_rfl) (by simp) ?_
 refine AllReadyH.cons rfl (fun K hK => ?_) AllReadyH.nil
 go_simp
 go_at_call 70
 refine (machine_fc z13 f14 k14 (Cod.machine_ok.up q14 (hb0.trans (hbc.mono hb0.size))) s14).mono ?_
 rintro e z14 ⟨A14, c14, rfl, hF14, hbq⟩
 dsimp only
 replace hF14 := rf_lo hF14 hz
 replace hF1 := rf_up hF1 hbq
 replace hF2 := rf_up hF2 hbq
 replace hF3 := rf_up hF3 hbq
 replace hF4 := rf_up hF4 hbq
 replace hF5 := rf_up hF5 hbq
 replace hF6 := rf_up hF6 hbq
 replace hF7 := rf_up hF7 hbq
 replace hF8 := rf_up hF8 hbq
 replace hF9 := rf_up hF9 hbq
 replace hF10 := rf_up hF10 hbq
 replace hF11 := rf_up hF11 hbq
 replace hF12 := rf_up hF12 hbq
 replace hF13 := rf_up hF13 hbq
 replace hbc := hbc.trans (hbq.mono hbc.size)
 have hz_ := hz
 replace hz := hbc.size
 refine hK.out _ _ ?_ (fun hHeld => ?_)
 ·(try dsimp only)
  exact ⟨CT hbc hlt0 e1, CT hbc hlt0 e2, CT hbc hlt0 e3, CT hbc hlt0 e4, CT hbc hlt0 e5, CT hbc hlt0 e6, CT hbc hlt0 e7, CT hbc hlt0 e8, CT hbc hlt0 e9, CT hbc hlt0 e11, CT hbc hlt0 e12, at_up a10 hbc hlt0, at_up a13 hbc hlt0, at_up a14 hbc hlt0, at_up a15 hbc hlt0, at_up a16 hbc hlt0⟩
 clear hK K
 try simp only [Act.put, Z1, Z2, Z3, Z4, Z5, Z6]
 refine wpAnyH_ready (rs := [44]) (by kernel_rfl) (by simp) ?_
 refine AllReadyH.cons rfl (fun K hK => ?_) AllReadyH.nil
 go_simp
 go_at_call 71
 refine (secret_fc z14 f15 k15 (Cod.secret_ok.up q15 (hb0.trans (hbc.mono hb0.size))) s15).mono ?_
 rintro e z15 ⟨A15, c15, rfl, hF15, hbq⟩
 dsimp only
 replace hF15 := rf_lo hF15 hz
 replace hF1 := rf_up hF1 hbq
 replace hF2 := rf_up hF2 hbq
 replace hF3 := rf_up hF3 hbq
 replace hF4 := rf_up hF4 hbq
 replace hF5 := rf_up hF5 hbq
 replace hF6 := rf_up hF6 hbq
 replace hF7 := rf_up hF7 hbq
 replace hF8 := rf_up hF8 hbq
 replace hF9 := rf_up hF9 hbq
 replace hF10 := rf_up hF10 hbq
 replace hF11 := rf_up hF11 hbq
 replace hF12 := rf_up hF12 hbq
 replace hF13 := rf_up hF13 hbq
 replace hF14 := rf_up hF14 hbq
 replace hbc := hbc.trans (hbq.mono hbc.size)
 have hz_ := hz
 replace hz := hbc.size
 refine hK.out _ _ ?_ (fun hHeld => ?_)
 ·(try dsimp only)
  exact ⟨CT hbc hlt0 e1, CT hbc hlt0 e2, CT hbc hlt0 e3, CT hbc hlt0 e4, CT hbc hlt0 e5, CT hbc hlt0 e6, CT hbc hlt0 e7, CT hbc hlt0 e8, CT hbc hlt0 e9, CT hbc hlt0 e11, CT hbc hlt0 e12, at_up a10 hbc hlt0, at_up a13 hbc hlt0, at_up a14 hbc hlt0, at_up a15 hbc hlt0, at_up a16 hbc hlt0⟩
 clear hK K
 try simp only [Act.put, Z1, Z2, Z3, Z4, Z5, Z6]
 refine wpAnyH_ready (rs := [47]) (by kernel_rfl) (by simp) ?_
 refine AllReadyH.cons rfl (fun K hK => ?_) AllReadyH.nil
 go_simp
 go_at_call 72
 refine (entry_fc z15 f16 k16 (Cod.entry_ok.up q16 (hb0.trans (hbc.mono hb0.size))) s16).mono ?_
 rintro e z16 ⟨A16, c16, rfl, hF16, hbq⟩
 dsimp only
 replace hF16 := rf_lo hF16 hz
 replace hF1 := rf_up hF1 hbq
 replace hF2 := rf_up hF2 hbq
 replace hF3 := rf_up hF3 hbq
 replace hF4 := rf_up hF4 hbq
 replace hF5 := rf_up hF5 hbq
 replace hF6 := rf_up hF6 hbq
 replace hF7 := rf_up hF7 hbq
 replace hF8 := rf_up hF8 hbq
 replace hF9 := rf_up hF9 hbq
 replace hF10 := rf_up hF10 hbq
 replace hF11 := rf_up hF11 hbq
 replace hF12 := rf_up hF12 hbq
 replace hF13 := rf_up hF13 hbq
 replace hF14 := rf_up hF14 hbq
 replace hF15 := rf_up hF15 hbq
 replace hbc := hbc.trans (hbq.mono hbc.size)
 have hz_ := hz
 replace hz := hbc.size
 refine hK.out _ _ ?_ (fun hHeld => ?_)
 ·(try dsimp only)
  exact ⟨CT hbc hlt0 e1, CT hbc hlt0 e2, CT hbc hlt0 e3, CT hbc hlt0 e4, CT hbc hlt0 e5, CT hbc hlt0 e6, CT hbc hlt0 e7, CT hbc hlt0 e8, CT hbc hlt0 e9, CT hbc hlt0 e11, CT hbc hlt0 e12, at_up a10 hbc hlt0, at_up a13 hbc hlt0, at_up a14 hbc hlt0, at_up a15 hbc hlt0, at_up a16 hbc hlt0⟩
 clear hK K
 try simp only [Act.put, Z1, Z2, Z3, Z4, Z5, Z6]
 refine wpAnyH_ready (rs := [48]) (by kernel_rfl) (by simp) ?_
 refine AllReadyH.cons rfl (fun K hK => ?_) AllReadyH.nil
 go_simp
 generalize hx_ : World.alloc z16 _ = z17
 have hbq : Below z16.heap.size z16 z17 := by rw [← hx_]; exact (Below.refl _ _).alloc (Nat.le_refl _) _
 have hOw : Own w1 z17 fldT 4 (.slice (some ⟨z16.heap.size, 0, none⟩) 16 16) 16 (fC f1 A1 c1 ++ (fC f2 A2 c2 ++ (fC f3 A3 c3 ++ (fC f4 A4 c4 ++ (fC f5 A5 c5 ++ (fC f6 A6 c6 ++ (fC f7 A7 c7 ++ (fC f8 A8 c8 ++ (fC f9 A9 c9 ++ (fC f10 A10 c10 ++ (fC f11 A11 c11 ++ (fC f12 A12 c12 ++ (fC f13 A13 c13 ++ (fC f14 A14 c14 ++ (fC f15 A15 c15 ++ (fC f16 A16 c16 ++ ([]))))))))))))))))) := by rw [← hx_]; exact Own.lit hbc rfl (by decide)
 clear hx_
 replace hF1 := rf_up hF1 hbq
 replace hF2 := rf_up hF2 hbq
 replace hF3 := rf_up hF3 hbq
 replace hF4 := rf_up hF4 hbq
 replace hF5 := rf_up hF5 hbq
 replace hF6 := rf_up hF6 hbq
 replace hF7 := rf_up hF7 hbq
 replace hF8 := rf_up hF8 hbq
 replace hF9 := rf_up hF9 hbq
 replace hF10 := rf_up hF10 hbq
 replace hF11 := rf_up hF11 hbq
 replace hF12 := rf_up hF12 hbq
 replace hF13 := rf_up hF13 hbq
 replace hF14 := rf_up hF14 hbq
 replace hF15 := rf_up hF15 hbq
 replace hF16 := rf_up hF16 hbq
 replace hbc := hbc.trans (hbq.mono hbc.size)
 have hz_ := hz
 replace hz := hbc.size
 have hL := rl_cons hF1 (rl_cons hF2 (rl_cons hF3 (rl_cons hF4 (rl_cons hF5 (rl_cons hF6 (rl_cons hF7 (rl_cons hF8 (rl_cons hF9 (rl_cons hF10 (rl_cons hF11 (rl_cons hF12 (rl_cons hF13 (rl_cons hF14 (rl_cons hF15 (rl_cons hF16 (rl_nil))))))))))))))))
 clear hF1 hF2 hF3 hF4 hF5 hF6 hF7 hF8 hF9 hF10 hF11 hF12 hF13 hF14 hF15 hF16
 refine hK.out _ _ ?_ (fun hHeld => ?_)
 ·(try dsimp only)
  exact ⟨CT hbc hlt0 e1, CT hbc hlt0 e2, CT hbc hlt0 e3, CT hbc hlt0 e4, CT hbc hlt0 e5, CT hbc hlt0 e6, CT hbc hlt0 e7, CT hbc hlt0 e8, CT hbc hlt0 e9, CT hbc hlt0 e11, CT hbc hlt0 e12, at_up a10 hbc hlt0, at_up a13 hbc hlt0, at_up a14 hbc hlt0, at_up a15 hbc hlt0, at_up a16 hbc hlt0⟩
 clear hK K
 try simp only [Act.put, Z1, Z2, Z3, Z4, Z5, Z6]
 refine tkY 49 (v := ?v56) rfl (.inl ⟨by rfl, ?hy56⟩) ?hr56
 case hy56 => (intro w hSw; (try dsimp only at hSw); go_simp; try with_reducible rfl)
 simp only [Act.put, Z1, Z2, Z3, Z4, Z5, Z6]
 refine wpAnyH_done (by kernel_rfl) ?_ _
 clear hHeld
 repeat' (first | go_skip | go_guarded | go_step)
 go_ret
 exact ⟨some ⟨z16.heap.size, 0, none⟩, 16, _, rfl, Own.up hb0 hOw, RList.map (fun x d hd => rF_ok _ _ _ _ x d (fun _ _ => rfl) (fun b hb => ⟨Nat.le_trans hb0.size hb.1, hb.2⟩) hd) hL⟩
theorem rsame_ev (fs fs' : List FV) (E E' : List Value) (w : World) (h : EvR w fs E) (h' : EvR w fs' E') : Calls Tryz.prog 17 #[.agg E.toArray, .agg E'.toArray] w fun e w' => e = .returned (.bool (eqF (ofL fs) (ofL fs'))) ∧ Below w.heap.size w w' := by
 go_enter Tryz.func17, Tryz.ntmps17
 go_upto_region 1 with (fail)
 have hA : ((w.alloc (.cells E.toArray 43)).alloc (.cells E'.toArray 43)).rangeAt w.heap.size 0 E := World.rangeAt_alloc (at_new w E 43) _
 have hA' : ((w.alloc (.cells E.toArray 43)).alloc (.cells E'.toArray 43)).rangeAt (w.heap.size + 1) 0 E' := by
  have := at_new (w.alloc (.cells E.toArray 43)) E' 43
  rw [World.size_alloc] at this
  exact this
 have hlt0 : w.heap.size < ((w.alloc (.cells E.toArray 43)).alloc (.cells E'.toArray 43)).heap.size := by simp; omega
 have hlt1 : w.heap.size + 1 < ((w.alloc (.cells E.toArray 43)).alloc (.cells E'.toArray 43)).heap.size := by simp
 have hb0 : Below w.heap.size w ((w.alloc (.cells E.toArray 43)).alloc (.cells E'.toArray 43)) := ((Below.refl w.heap.size w).alloc (Nat.le_refl _) _).alloc (by simp) _
 generalize World.alloc (World.alloc w _) _ = w1 at *
 have hi := ev_info h.len
 have hi' := ev_info h'.len
 replace h := Lib.hid h
 replace h' := Lib.hid h'
 have hS0 : (Below w1.heap.size w1 w1 ∧ w1.rangeAt w.heap.size 0 E ∧ w1.rangeAt (w.heap.size + 1) 0 E') := ⟨Below.refl _ _, hA, hA'⟩
 have keepS : ∀ v1 v2 : World, (Below w1.heap.size w1 v1 ∧ v1.rangeAt w.heap.size 0 E ∧ v1.rangeAt (w.heap.size + 1) 0 E') → Below v1.heap.size v1 v2 → (Below w1.heap.size w1 v2 ∧ v2.rangeAt w.heap.size 0 E ∧ v2.rangeAt (w.heap.size + 1) 0 E') := fun v1 v2 h hb => ⟨h.1.trans (hb.mono h.1.size), range_up h.2.1 hb (Nat.lt_of_lt_of_le hlt0 h.1.size), range_up h.2.2 hb (Nat.lt_of_lt_of_le hlt1 h.1.size)⟩
 have hS1 : (Below w1.heap.size w1 w1.drew ∧ w1.drew.rangeAt w.heap.size 0 E ∧ w1.drew.rangeAt (w.heap.size + 1) 0 E') := keepS _ _ hS0 ((Below.refl _ _).drew)
 replace keepS := Lib.hid keepS
 clear hS0
 refine wp_region_held_drew (S := fun w' => Below w1.heap.size w1 w' ∧ w'.rangeAt w.heap.size 0 E ∧ w'.rangeAt (w.heap.size + 1) 0 E') (by kernel_rfl) ?_ (fun hHeld => ?_)
 ·(try dsimp only)
  exact hS1
 refine tkY 0 (v := .agg E.toArray) rfl (yieldsIf_load_mid (by rfl) 43 _ rfl w.heap.size 0 rfl E _ (fun v h => h.2.1) Tryz.underlying43 rfl hi) ?hr4
 simp only [Act.put, Z1, Z2, Z4, Z5, Z6]
 refine tkY 2 (v := .agg E'.toArray) rfl (yieldsIf_load_mid (by rfl) 43 _ rfl (w.heap.size + 1) 0 rfl E' _ (fun v h => h.2.2) Tryz.underlying43 rfl hi') ?hr5
 simp only [Act.put, Z1, Z2, Z3, Z4, Z5, Z6]
 refine wpAnyH_ready (rs := [1]) (by kernel_rfl) (by simp) ?_
 refine AllReadyH.cons rfl (fun K hK => ?_) AllReadyH.nil
 go_simp
 go_at_call 32
 refine (forms_any fs E _ ((h.out.up (hb0.trans (hHeld.1.mono hb0.size))).rd) h.out.sz).mono ?_
 rintro e z1 ⟨A1, c1, cs1, rfl, hO1, hL1⟩
 dsimp only
 have hbq := hO1.2
 obtain ⟨g1, g2⟩ := RetFs.fields hO1 hL1
 clear hO1 hL1
 have hB1 := Nat.le_refl z1.heap.size
 refine hK.out _ _ ?_ (fun hHeld => ?_)
 ·(try dsimp only)
  exact keepS.out _ _ hHeld hbq
 clear hK K
 try simp only [Act.put, Z1, Z2, Z3, Z4, Z5, Z6]
 refine wpAnyH_ready (rs := [3]) (by kernel_rfl) (by simp) ?_
 refine AllReadyH.cons rfl (fun K hK => ?_) AllReadyH.nil
 go_simp
 go_at_call 32
 refine (forms_any fs' E' _ ((h'.out.up (hb0.trans (hHeld.1.mono hb0.size))).rd) h'.out.sz).mono ?_
 rintro e z2 ⟨A2, c2, cs2, rfl, hO2, hL2⟩
 dsimp only
 have hbq := hO2.2
 obtain ⟨g3, g4⟩ := RetFs.fields hO2 hL2
 clear hO2 hL2
 replace g1 := (g1.below hbq).more hbq.size
 replace g2 := (g2.below hbq).more hbq.size
 refine hK.out _ _ ?_ (fun hHeld => ?_)
 ·(try dsimp only)
  exact keepS.out _ _ hHeld hbq
 clear hK K
 try simp only [Act.put, Z1, Z2, Z3, Z4, Z5, Z6]
 refine wpAnyH_ready (rs := [4]) (by kernel_rfl) (by simp) ?_
 refine AllReadyH.cons rfl (fun K hK => ?_) AllReadyH.nil
 go_simp
 go_at_call 34
 have CJ := rsame_any (ofL fs) (ofL fs') A1 c1 cs1 A2 c2 cs2 z2 z2.heap.size (Nat.le_refl _) g1 g2 g3 g4 h.out.sz h'.out.sz
 rw [ofL_length, ofL_length] at CJ
 refine CJ.mono ?_
 clear CJ g1 g2 g3 g4
 rintro e z3 ⟨rfl, hbq⟩
 dsimp only
 refine hK.out _ _ ?_ (fun hHeld => ?_)
 ·(try dsimp only)
  exact keepS.out _ _ hHeld hbq
 clear hK K
 try simp only [Act.put, Z1, Z2, Z3, Z4, Z5, Z6]
 refine tkY 5 (v := ?v6) rfl (.inl ⟨by rfl, ?hy6⟩) ?hr6
 case hy6 => (intro w hSw; (try dsimp only at hSw); go_simp; try with_reducible rfl)
 simp only [Act.put, Z1, Z2, Z3, Z4, Z5, Z6]
 refine wpAnyH_done (by kernel_rfl) ?_ _
 have hbW := hHeld.1
 clear hHeld hS1 keepS
 repeat' (first | go_skip | go_guarded | go_step)
 go_ret
 exact ⟨rfl, hb0.trans (hbW.mono hb0.size)⟩
end Go.Proofs.YtgdapkglofchjaaGreatDoor
