/- Joined: JnGb JnS JnR. -/
import Derived.Test.YtgdapkglofchjaaGreatDoorF9
set_option maxRecDepth 100000
set_option maxHeartbeats 8000000
set_option linter.unusedVariables false
namespace Go.Proofs.YtgdapkglofchjaaGreatDoor
open Go.RowKit
theorem forms_any (fs : List FV) (E : List Value) (w : World) (hr : RecL evC w (fun b => b < w.heap.size) fs E) (hs : lsz fs ≤ 1000000000) : Calls Tryz.prog 32 #[.agg E.toArray] w (RetFs w fs) := by
 go_enter Tryz.func32, Tryz.ntmps32
 go_upto_region 1 with (fail)
 have hA : (w.alloc (.cells E.toArray 43)).rangeAt w.heap.size 0 E := at_new w E 43
 have hlt0 : w.heap.size < (w.alloc (.cells E.toArray 43)).heap.size := by simp
 have hb0 := (Below.refl w.heap.size w).alloc (Nat.le_refl _) (.cells E.toArray 43)
 generalize World.alloc w _ = w1 at *
 obtain ⟨f1, r1, k1, d1, rfl, rfl, q1, hr⟩ := hr
 obtain ⟨f2, r2, k2, d2, rfl, rfl, q2, hr⟩ := hr
 obtain ⟨f3, r3, k3, d3, rfl, rfl, q3, hr⟩ := hr
 obtain ⟨f4, r4, k4, d4, rfl, rfl, q4, hr⟩ := hr
 obtain ⟨f5, r5, k5, d5, rfl, rfl, q5, hr⟩ := hr
 obtain ⟨f6, r6, k6, d6, rfl, rfl, q6, hr⟩ := hr
 obtain ⟨f7, r7, k7, d7, rfl, rfl, q7, hr⟩ := hr
 obtain ⟨f8, r8, k8, d8, rfl, rfl, q8, hr⟩ := hr
 obtain ⟨f9, r9, k9, d9, rfl, rfl, q9, hr⟩ := hr
 obtain ⟨f10, r10, k10, d10, rfl, rfl, q10, hr⟩ := hr
 obtain ⟨f11, r11, k11, d11, rfl, rfl, q11, hr⟩ := hr
 obtain ⟨f12, r12, k12, d12, rfl, rfl, q12, hr⟩ := hr
 obtain ⟨f13, r13, k13, d13, rfl, rfl, q13, hr⟩ := hr
 obtain ⟨f14, r14, k14, d14, rfl, rfl, q14, hr⟩ := hr
 obtain ⟨f15, r15, k15, d15, rfl, rfl, q15, hr⟩ := hr
 obtain ⟨f16, r16, k16, d16, rfl, rfl, q16, hr⟩ := hr
 obtain ⟨rfl, rfl⟩ := hr
 obtain ⟨s1, s2, s3, s4, s5, s6, s7, s8, s9, s10, s11, s12, s13, s14, s15, s16, -⟩ := szs (N := 1000000000) (l := [f1, f2, f3, f4, f5, f6, f7, f8, f9, f10, f11, f12, f13, f14, f15, f16]) (by omega)
 have n1 : k1.length = 1 := Cod.int_ok.len q1
 have a1 : w1.rangeAt w.heap.size 0 k1 := At.left (w := w1) hA
 replace hA : w1.rangeAt w.heap.size 1 _ := At.right (w := w1) hA (k := 1) (by rw [n1])
 have n2 : k2.length = 1 := Cod.int_ok.len q2
 have a2 : w1.rangeAt w.heap.size 1 k2 := At.left (w := w1) hA
 replace hA : w1.rangeAt w.heap.size 2 _ := At.right (w := w1) hA (k := 2) (by rw [n2])
 have n3 : k3.length = 1 := Cod.str_ok.len q3
 have a3 : w1.rangeAt w.heap.size 2 k3 := At.left (w := w1) hA
 replace hA : w1.rangeAt w.heap.size 3 _ := At.right (w := w1) hA (k := 3) (by rw [n3])
 have n4 : k4.length = 1 := Cod.str_ok.len q4
 have a4 : w1.rangeAt w.heap.size 3 k4 := At.left (w := w1) hA
 replace hA : w1.rangeAt w.heap.size 4 _ := At.right (w := w1) hA (k := 4) (by rw [n4])
 have n5 : k5.length = 1 := Cod.int_ok.len q5
 have a5 : w1.rangeAt w.heap.size 4 k5 := At.left (w := w1) hA
 replace hA : w1.rangeAt w.heap.size 5 _ := At.right (w := w1) hA (k := 5) (by rw [n5])
 have n6 : k6.length = 1 := Cod.int_ok.len q6
 have a6 : w1.rangeAt w.heap.size 5 k6 := At.left (w := w1) hA
 replace hA : w1.rangeAt w.heap.size 6 _ := At.right (w := w1) hA (k := 6) (by rw [n6])
 have n7 : k7.length = 1 := Cod.int_ok.len q7
 have a7 : w1.rangeAt w.heap.size 6 k7 := At.left (w := w1) hA
 replace hA : w1.rangeAt w.heap.size 7 _ := At.right (w := w1) hA (k := 7) (by rw [n7])
 have n8 : k8.length = 1 := Cod.str_ok.len q8
 have a8 : w1.rangeAt w.heap.size 7 k8 := At.left (w := w1) hA
 replace hA : w1.rangeAt w.heap.size 8 _ := At.right (w := w1) hA (k := 8) (by rw [n8])
 have n9 : k9.length = 1 := Cod.str_ok.len q9
 have a9 : w1.rangeAt w.heap.size 8 k9 := At.left (w := w1) hA
 replace hA : w1.rangeAt w.heap.size 9 _ := At.right (w := w1) hA (k := 9) (by rw [n9])
 have n10 : k10.length = 3 := Cod.origin_ok.len q10
 have a10 : w1.rangeAt w.heap.size 9 k10 := At.left (w := w1) hA
 replace hA : w1.rangeAt w.heap.size 12 _ := At.right (w := w1) hA (k := 12) (by rw [n10])
 have n11 : k11.length = 1 := (Cod.list_ok Cod.vari_ok).len q11
 have a11 : w1.rangeAt w.heap.size 12 k11 := At.left (w := w1) hA
 replace hA : w1.rangeAt w.heap.size 13 _ := At.right (w := w1) hA (k := 13) (by rw [n11])
 have n12 : k12.length = 1 := (Cod.list_ok Cod.timing_ok).len q12
 have a12 : w1.rangeAt w.heap.size 13 k12 := At.left (w := w1) hA
 replace hA : w1.rangeAt w.heap.size 14 _ := At.right (w := w1) hA (k := 14) (by rw [n12])
 have n13 : k13.length = 6 := Cod.result_ok.len q13
 have a13 : w1.rangeAt w.heap.size 14 k13 := At.left (w := w1) hA
 replace hA : w1.rangeAt w.heap.size 20 _ := At.right (w := w1) hA (k := 20) (by rw [n13])
 have n14 : k14.length = 9 := Cod.machine_ok.len q14
 have a14 : w1.rangeAt w.heap.size 20 k14 := At.left (w := w1) hA
 replace hA : w1.rangeAt w.heap.size 29 _ := At.right (w := w1) hA (k := 29) (by rw [n14])
 have n15 : k15.length = 5 := Cod.secret_ok.len q15
 have a15 : w1.rangeAt w.heap.size 29 k15 := At.left (w := w1) hA
 replace hA : w1.rangeAt w.heap.size 34 _ := At.right (w := w1) hA (k := 34) (by rw [n15])
 have n16 : k16.length = 8 := Cod.entry_ok.len q16
 have a16 : w1.rangeAt w.heap.size 34 k16 := At.left (w := w1) hA
 clear hA
 obtain ⟨v1, rfl⟩ := one_list n1
 have e1 : w1.cell? ⟨w.heap.size, 0, none⟩ = some v1 := a1 0 _ rfl
 clear a1
 obtain ⟨v2, rfl⟩ := one_list n2
 have e2 : w1.cell? ⟨w.heap.size, 1, none⟩ = some v2 := a2 0 _ rfl
 clear a2
 obtain ⟨v3, rfl⟩ := one_list n3
 have e3 : w1.cell? ⟨w.heap.size, 2, none⟩ = some v3 := a3 0 _ rfl
 clear a3
 obtain ⟨v4, rfl⟩ := one_list n4
 have e4 : w1.cell? ⟨w.heap.size, 3, none⟩ = some v4 := a4 0 _ rfl
 clear a4
 obtain ⟨v5, rfl⟩ := one_list n5
 have e5 : w1.cell? ⟨w.heap.size, 4, none⟩ = some v5 := a5 0 _ rfl
 clear a5
 obtain ⟨v6, rfl⟩ := one_list n6
 have e6 : w1.cell? ⟨w.heap.size, 5, none⟩ = some v6 := a6 0 _ rfl
 clear a6
 obtain ⟨v7, rfl⟩ := one_list n7
 have e7 : w1.cell? ⟨w.heap.size, 6, none⟩ = some v7 := a7 0 _ rfl
 clear a7
 obtain ⟨v8, rfl⟩ := one_list n8
 have e8 : w1.cell? ⟨w.heap.size, 7, none⟩ = some v8 := a8 0 _ rfl
 clear a8
 obtain ⟨v9, rfl⟩ := one_list n9
 have e9 : w1.cell? ⟨w.heap.size, 8, none⟩ = some v9 := a9 0 _ rfl
 clear a9
 obtain ⟨v11, rfl⟩ := one_list n11
 have e11 : w1.cell? ⟨w.heap.size, 12, none⟩ = some v11 := a11 0 _ rfl
 clear a11
 obtain ⟨v12, rfl⟩ := one_list n12
 have e12 : w1.cell? ⟨w.heap.size, 13, none⟩ = some v12 := a12 0 _ rfl
 clear a12
 clear n1 n2 n3 n4 n5 n6 n7 n8 n9 n11 n12
 have hbc : Below w1.heap.size w1 w1.drew := (Below.refl _ _).drew
 have hz := hbc.size
 refine wp_region_held_drew (S := (fun w' => w'.cell? ⟨w.heap.size, 0, none⟩ = some v1 ∧ w'.cell? ⟨w.heap.size, 1, none⟩ = some v2 ∧ w'.cell? ⟨w.heap.size, 2, none⟩ = some v3 ∧ w'.cell? ⟨w.heap.size, 3, none⟩ = some v4 ∧ w'.cell? ⟨w.heap.size, 4, none⟩ = some v5 ∧ w'.cell? ⟨w.heap.size, 5, none⟩ = some v6 ∧ w'.cell? ⟨w.heap.size, 6, none⟩ = some v7 ∧ w'.cell? ⟨w.heap.size, 7, none⟩ = some v8 ∧ w'.cell? ⟨w.heap.size, 8, none⟩ = some v9 ∧ w'.cell? ⟨w.heap.size, 12, none⟩ = some v11 ∧ w'.cell? ⟨w.heap.size, 13, none⟩ = some v12 ∧ w'.rangeAt w.heap.size 9 k10 ∧ w'.rangeAt w.heap.size 14 k13 ∧ w'.rangeAt w.heap.size 20 k14 ∧ w'.rangeAt w.heap.size 29 k15 ∧ w'.rangeAt w.heap.size 34 k16)) (by kernel_rfl) ?_ (fun hHeld => ?_)
 ·(try dsimp only)
  exact ⟨CT hbc hlt0 e1, CT hbc hlt0 e2, CT hbc hlt0 e3, CT hbc hlt0 e4, CT hbc hlt0 e5, CT hbc hlt0 e6, CT hbc hlt0 e7, CT hbc hlt0 e8, CT hbc hlt0 e9, CT hbc hlt0 e11, CT hbc hlt0 e12, at_up a10 hbc hlt0, at_up a13 hbc hlt0, at_up a14 hbc hlt0, at_up a15 hbc hlt0, at_up a16 hbc hlt0⟩
 generalize World.drew w1 = vd at *
 refine tkQ 0 ?_
 refine tkQ 1 ?_
 refine tkQ 3 ?_
 refine tkQ 4 ?_
 refine tkQ 6 ?_
 refine tkQ 7 ?_
 refine tkQ 9 ?_
 refine tkQ 10 ?_
 refine tkQ 12 ?_
 refine tkQ 13 ?_
 refine tkQ 15 ?_
 refine tkQ 16 ?_
 refine tkQ 18 ?_
 refine tkQ 19 ?_
 refine tkQ 21 ?_
 refine tkQ 22 ?_
 refine tkQ 24 ?_
 refine tkQ 25 ?_
 refine tkQ 27 ?_
 refine tkV 28 (v := .agg k10.toArray) rfl (yieldsIf_load_mid (by rfl) 23 _ rfl w.heap.size 9 rfl k10 _ (fun v h => h.2.2.2.2.2.2.2.2.2.2.2.1) Tryz.underlying23 rfl (by rw [n10]; kernel_rfl)) ?_
 refine tkQ 30 ?_
 refine tkQ 31 ?_
 refine tkQ 33 ?_
 refine tkQ 34 ?_
 refine tkQ 36 ?_
 refine tkV 37 (v := .agg k13.toArray) rfl (yieldsIf_load_mid (by rfl) 29 _ rfl w.heap.size 14 rfl k13 _ (fun v h => h.2.2.2.2.2.2.2.2.2.2.2.2.1) Tryz.underlying29 rfl (by rw [n13]; kernel_rfl)) ?_
 refine tkQ 39 ?_
 refine tkV 40 (v := .agg k14.toArray) rfl (yieldsIf_load_mid (by rfl) 33 _ rfl w.heap.size 20 rfl k14 _ (fun v h => h.2.2.2.2.2.2.2.2.2.2.2.2.2.1) Tryz.underlying33 rfl (by rw [n14]; kernel_rfl)) ?_
 refine tkQ 42 ?_
 refine tkV 43 (v := .agg k15.toArray) rfl (yieldsIf_load_mid (by rfl) 35 _ rfl w.heap.size 29 rfl k15 _ (fun v h => h.2.2.2.2.2.2.2.2.2.2.2.2.2.2.1) Tryz.underlying35 rfl (by rw [n15]; kernel_rfl)) ?_
 refine tkQ 45 ?_
 refine tkV 46 (v := .agg k16.toArray) rfl (yieldsIf_load_mid (by rfl) 41 _ rfl w.heap.size 34 rfl k16 _ (fun v h => h.2.2.2.2.2.2.2.2.2.2.2.2.2.2.2) Tryz.underlying41 rfl (by rw [n16]; kernel_rfl)) ?_
 refine rdO 2 fun K hK => ?_
 go_simp
 go_at_call 64
 refine (num_fc vd f1 v1 (Cod.int_ok.up q1 (hb0.trans (hbc.mono hb0.size))) s1).mono ?_
 rintro e z1 ⟨A1, c1, rfl, hF1, hbq⟩
 dsimp only
 replace hF1 := rf_lo hF1 hz
 replace hbc := hbc.trans (hbq.mono hbc.size)
 have hz_ := hz
 replace hz := hbc.size
 refine hkO hK (⟨CT hbc hlt0 e1, CT hbc hlt0 e2, CT hbc hlt0 e3, CT hbc hlt0 e4, CT hbc hlt0 e5, CT hbc hlt0 e6, CT hbc hlt0 e7, CT hbc hlt0 e8, CT hbc hlt0 e9, CT hbc hlt0 e11, CT hbc hlt0 e12, at_up a10 hbc hlt0, at_up a13 hbc hlt0, at_up a14 hbc hlt0, at_up a15 hbc hlt0, at_up a16 hbc hlt0⟩) fun hHeld => ?_
 clear hK K
 refine rdO 5 fun K hK => ?_
 go_simp
 go_at_call 64
 refine (num_fc z1 f2 v2 (Cod.int_ok.up q2 (hb0.trans (hbc.mono hb0.size))) s2).mono ?_
 rintro e z2 ⟨A2, c2, rfl, hF2, hbq⟩
 dsimp only
 replace hF2 := rf_lo hF2 hz
 replace hF1 := rf_up hF1 hbq
 replace hbc := hbc.trans (hbq.mono hbc.size)
 have hz_ := hz
 replace hz := hbc.size
 refine hkO hK (⟨CT hbc hlt0 e1, CT hbc hlt0 e2, CT hbc hlt0 e3, CT hbc hlt0 e4, CT hbc hlt0 e5, CT hbc hlt0 e6, CT hbc hlt0 e7, CT hbc hlt0 e8, CT hbc hlt0 e9, CT hbc hlt0 e11, CT hbc hlt0 e12, at_up a10 hbc hlt0, at_up a13 hbc hlt0, at_up a14 hbc hlt0, at_up a15 hbc hlt0, at_up a16 hbc hlt0⟩) fun hHeld => ?_
 clear hK K
 refine rdO 8 fun K hK => ?_
 go_simp
 go_at_call 65
 refine (str_fc z2 f3 v3 (Cod.str_ok.up q3 (hb0.trans (hbc.mono hb0.size))) s3).mono ?_
 rintro e z3 ⟨A3, c3, rfl, hF3, hbq⟩
 dsimp only
 replace hF3 := rf_lo hF3 hz
 replace hF1 := rf_up hF1 hbq
 replace hF2 := rf_up hF2 hbq
 replace hbc := hbc.trans (hbq.mono hbc.size)
 have hz_ := hz
 replace hz := hbc.size
 refine hkO hK (⟨CT hbc hlt0 e1, CT hbc hlt0 e2, CT hbc hlt0 e3, CT hbc hlt0 e4, CT hbc hlt0 e5, CT hbc hlt0 e6, CT hbc hlt0 e7, CT hbc hlt0 e8, CT hbc hlt0 e9, CT hbc hlt0 e11, CT hbc hlt0 e12, at_up a10 hbc hlt0, at_up a13 hbc hlt0, at_up a14 hbc hlt0, at_up a15 hbc hlt0, at_up a16 hbc hlt0⟩) fun hHeld => ?_
 clear hK K
 refine rdO 11 fun K hK => ?_
 go_simp
 go_at_call 65
 refine (str_fc z3 f4 v4 (Cod.str_ok.up q4 (hb0.trans (hbc.mono hb0.size))) s4).mono ?_
 rintro e z4 ⟨A4, c4, rfl, hF4, hbq⟩
 dsimp only
 replace hF4 := rf_lo hF4 hz
 replace hF1 := rf_up hF1 hbq
 replace hF2 := rf_up hF2 hbq
 replace hF3 := rf_up hF3 hbq
 replace hbc := hbc.trans (hbq.mono hbc.size)
 have hz_ := hz
 replace hz := hbc.size
 refine hkO hK (⟨CT hbc hlt0 e1, CT hbc hlt0 e2, CT hbc hlt0 e3, CT hbc hlt0 e4, CT hbc hlt0 e5, CT hbc hlt0 e6, CT hbc hlt0 e7, CT hbc hlt0 e8, CT hbc hlt0 e9, CT hbc hlt0 e11, CT hbc hlt0 e12, at_up a10 hbc hlt0, at_up a13 hbc hlt0, at_up a14 hbc hlt0, at_up a15 hbc hlt0, at_up a16 hbc hlt0⟩) fun hHeld => ?_
 clear hK K
 refine rdO 14 fun K hK => ?_
 go_simp
 go_at_call 64
 refine (num_fc z4 f5 v5 (Cod.int_ok.up q5 (hb0.trans (hbc.mono hb0.size))) s5).mono ?_
 rintro e z5 ⟨A5, c5, rfl, hF5, hbq⟩
 dsimp only
 replace hF5 := rf_lo hF5 hz
 replace hF1 := rf_up hF1 hbq
 replace hF2 := rf_up hF2 hbq
 replace hF3 := rf_up hF3 hbq
 replace hF4 := rf_up hF4 hbq
 replace hbc := hbc.trans (hbq.mono hbc.size)
 have hz_ := hz
 replace hz := hbc.size
 refine hkO hK (⟨CT hbc hlt0 e1, CT hbc hlt0 e2, CT hbc hlt0 e3, CT hbc hlt0 e4, CT hbc hlt0 e5, CT hbc hlt0 e6, CT hbc hlt0 e7, CT hbc hlt0 e8, CT hbc hlt0 e9, CT hbc hlt0 e11, CT hbc hlt0 e12, at_up a10 hbc hlt0, at_up a13 hbc hlt0, at_up a14 hbc hlt0, at_up a15 hbc hlt0, at_up a16 hbc hlt0⟩) fun hHeld => ?_
 clear hK K
 refine rdO 17 fun K hK => ?_
 go_simp
 go_at_call 64
 refine (num_fc z5 f6 v6 (Cod.int_ok.up q6 (hb0.trans (hbc.mono hb0.size))) s6).mono ?_
 rintro e z6 ⟨A6, c6, rfl, hF6, hbq⟩
 dsimp only
 replace hF6 := rf_lo hF6 hz
 replace hF1 := rf_up hF1 hbq
 replace hF2 := rf_up hF2 hbq
 replace hF3 := rf_up hF3 hbq
 replace hF4 := rf_up hF4 hbq
 replace hF5 := rf_up hF5 hbq
 replace hbc := hbc.trans (hbq.mono hbc.size)
 have hz_ := hz
 replace hz := hbc.size
 refine hkO hK (⟨CT hbc hlt0 e1, CT hbc hlt0 e2, CT hbc hlt0 e3, CT hbc hlt0 e4, CT hbc hlt0 e5, CT hbc hlt0 e6, CT hbc hlt0 e7, CT hbc hlt0 e8, CT hbc hlt0 e9, CT hbc hlt0 e11, CT hbc hlt0 e12, at_up a10 hbc hlt0, at_up a13 hbc hlt0, at_up a14 hbc hlt0, at_up a15 hbc hlt0, at_up a16 hbc hlt0⟩) fun hHeld => ?_
 clear hK K
 refine rdO 20 fun K hK => ?_
 go_simp
 go_at_call 64
 refine (num_fc z6 f7 v7 (Cod.int_ok.up q7 (hb0.trans (hbc.mono hb0.size))) s7).mono ?_
 rintro e z7 ⟨A7, c7, rfl, hF7, hbq⟩
 dsimp only
 replace hF7 := rf_lo hF7 hz
 replace hF1 := rf_up hF1 hbq
 replace hF2 := rf_up hF2 hbq
 replace hF3 := rf_up hF3 hbq
 replace hF4 := rf_up hF4 hbq
 replace hF5 := rf_up hF5 hbq
 replace hF6 := rf_up hF6 hbq
 replace hbc := hbc.trans (hbq.mono hbc.size)
 have hz_ := hz
 replace hz := hbc.size
 refine hkO hK (⟨CT hbc hlt0 e1, CT hbc hlt0 e2, CT hbc hlt0 e3, CT hbc hlt0 e4, CT hbc hlt0 e5, CT hbc hlt0 e6, CT hbc hlt0 e7, CT hbc hlt0 e8, CT hbc hlt0 e9, CT hbc hlt0 e11, CT hbc hlt0 e12, at_up a10 hbc hlt0, at_up a13 hbc hlt0, at_up a14 hbc hlt0, at_up a15 hbc hlt0, at_up a16 hbc hlt0⟩) fun hHeld => ?_
 clear hK K
 refine rdO 23 fun K hK => ?_
 go_simp
 go_at_call 65
 refine (str_fc z7 f8 v8 (Cod.str_ok.up q8 (hb0.trans (hbc.mono hb0.size))) s8).mono ?_
 rintro e z8 ⟨A8, c8, rfl, hF8, hbq⟩
 dsimp only
 replace hF8 := rf_lo hF8 hz
 replace hF1 := rf_up hF1 hbq
 replace hF2 := rf_up hF2 hbq
 replace hF3 := rf_up hF3 hbq
 replace hF4 := rf_up hF4 hbq
 replace hF5 := rf_up hF5 hbq
 replace hF6 := rf_up hF6 hbq
 replace hF7 := rf_up hF7 hbq
 replace hbc := hbc.trans (hbq.mono hbc.size)
 have hz_ := hz
 replace hz := hbc.size
 refine hkO hK (⟨CT hbc hlt0 e1, CT hbc hlt0 e2, CT hbc hlt0 e3, CT hbc hlt0 e4, CT hbc hlt0 e5, CT hbc hlt0 e6, CT hbc hlt0 e7, CT hbc hlt0 e8, CT hbc hlt0 e9, CT hbc hlt0 e11, CT hbc hlt0 e12, at_up a10 hbc hlt0, at_up a13 hbc hlt0, at_up a14 hbc hlt0, at_up a15 hbc hlt0, at_up a16 hbc hlt0⟩) fun hHeld => ?_
 clear hK K
 refine rdO 26 fun K hK => ?_
 go_simp
 go_at_call 65
 refine (str_fc z8 f9 v9 (Cod.str_ok.up q9 (hb0.trans (hbc.mono hb0.size))) s9).mono ?_
 rintro e z9 ⟨A9, c9, rfl, hF9, hbq⟩
 dsimp only
 replace hF9 := rf_lo hF9 hz
 replace hF1 := rf_up hF1 hbq
 replace hF2 := rf_up hF2 hbq
 replace hF3 := rf_up hF3 hbq
 replace hF4 := rf_up hF4 hbq
 replace hF5 := rf_up hF5 hbq
 replace hF6 := rf_up hF6 hbq
 replace hF7 := rf_up hF7 hbq
 replace hF8 := rf_up hF8 hbq
 replace hbc := hbc.trans (hbq.mono hbc.size)
 have hz_ := hz
 replace hz := hbc.size
 refine hkO hK (⟨CT hbc hlt0 e1, CT hbc hlt0 e2, CT hbc hlt0 e3, CT hbc hlt0 e4, CT hbc hlt0 e5, CT hbc hlt0 e6, CT hbc hlt0 e7, CT hbc hlt0 e8, CT hbc hlt0 e9, CT hbc hlt0 e11, CT hbc hlt0 e12, at_up a10 hbc hlt0, at_up a13 hbc hlt0, at_up a14 hbc hlt0, at_up a15 hbc hlt0, at_up a16 hbc hlt0⟩) fun hHeld => ?_
 clear hK K
 refine rdO 29 fun K hK => ?_
 go_simp
 go_at_call 66
 refine (origin_fc z9 f10 k10 (Cod.origin_ok.up q10 (hb0.trans (hbc.mono hb0.size))) s10).mono ?_
 rintro e z10 ⟨A10, c10, rfl, hF10, hbq⟩
 dsimp only
 replace hF10 := rf_lo hF10 hz
 replace hF1 := rf_up hF1 hbq
 replace hF2 := rf_up hF2 hbq
 replace hF3 := rf_up hF3 hbq
 replace hF4 := rf_up hF4 hbq
 replace hF5 := rf_up hF5 hbq
 replace hF6 := rf_up hF6 hbq
 replace hF7 := rf_up hF7 hbq
 replace hF8 := rf_up hF8 hbq
 replace hF9 := rf_up hF9 hbq
 replace hbc := hbc.trans (hbq.mono hbc.size)
 have hz_ := hz
 replace hz := hbc.size
 refine hkO hK (⟨CT hbc hlt0 e1, CT hbc hlt0 e2, CT hbc hlt0 e3, CT hbc hlt0 e4, CT hbc hlt0 e5, CT hbc hlt0 e6, CT hbc hlt0 e7, CT hbc hlt0 e8, CT hbc hlt0 e9, CT hbc hlt0 e11, CT hbc hlt0 e12, at_up a10 hbc hlt0, at_up a13 hbc hlt0, at_up a14 hbc hlt0, at_up a15 hbc hlt0, at_up a16 hbc hlt0⟩) fun hHeld => ?_
 clear hK K
 refine rdO 32 fun K hK => ?_
 go_simp
 go_at_call 67
 refine (vars_fc z10 f11 v11 ((Cod.list_ok Cod.vari_ok).up q11 (hb0.trans (hbc.mono hb0.size))) s11).mono ?_
 rintro e z11 ⟨A11, c11, rfl, hF11, hbq⟩
 dsimp only
 replace hF11 := rf_lo hF11 hz
 replace hF1 := rf_up hF1 hbq
 replace hF2 := rf_up hF2 hbq
 replace hF3 := rf_up hF3 hbq
 replace hF4 := rf_up hF4 hbq
 replace hF5 := rf_up hF5 hbq
 replace hF6 := rf_up hF6 hbq
 replace hF7 := rf_up hF7 hbq
 replace hF8 := rf_up hF8 hbq
 replace hF9 := rf_up hF9 hbq
 replace hF10 := rf_up hF10 hbq
 replace hbc := hbc.trans (hbq.mono hbc.size)
 have hz_ := hz
 replace hz := hbc.size
 refine hkO hK (⟨CT hbc hlt0 e1, CT hbc hlt0 e2, CT hbc hlt0 e3, CT hbc hlt0 e4, CT hbc hlt0 e5, CT hbc hlt0 e6, CT hbc hlt0 e7, CT hbc hlt0 e8, CT hbc hlt0 e9, CT hbc hlt0 e11, CT hbc hlt0 e12, at_up a10 hbc hlt0, at_up a13 hbc hlt0, at_up a14 hbc hlt0, at_up a15 hbc hlt0, at_up a16 hbc hlt0⟩) fun hHeld => ?_
 clear hK K
 refine rdO 35 fun K hK => ?_
 go_simp
 go_at_call 68
 refine (times_fc z11 f12 v12 ((Cod.list_ok Cod.timing_ok).up q12 (hb0.trans (hbc.mono hb0.size))) s12).mono ?_
 rintro e z12 ⟨A12, c12, rfl, hF12, hbq⟩
 dsimp only
 replace hF12 := rf_lo hF12 hz
 replace hF1 := rf_up hF1 hbq
 replace hF2 := rf_up hF2 hbq
 replace hF3 := rf_up hF3 hbq
 replace hF4 := rf_up hF4 hbq
 replace hF5 := rf_up hF5 hbq
 replace hF6 := rf_up hF6 hbq
 replace hF7 := rf_up hF7 hbq
 replace hF8 := rf_up hF8 hbq
 replace hF9 := rf_up hF9 hbq
 replace hF10 := rf_up hF10 hbq
 replace hF11 := rf_up hF11 hbq
 replace hbc := hbc.trans (hbq.mono hbc.size)
 have hz_ := hz
 replace hz := hbc.size
 refine hkO hK (⟨CT hbc hlt0 e1, CT hbc hlt0 e2, CT hbc hlt0 e3, CT hbc hlt0 e4, CT hbc hlt0 e5, CT hbc hlt0 e6, CT hbc hlt0 e7, CT hbc hlt0 e8, CT hbc hlt0 e9, CT hbc hlt0 e11, CT hbc hlt0 e12, at_up a10 hbc hlt0, at_up a13 hbc hlt0, at_up a14 hbc hlt0, at_up a15 hbc hlt0, at_up a16 hbc hlt0⟩) fun hHeld => ?_
 clear hK K
 refine rdO 38 fun K hK => ?_
 go_simp
 go_at_call 69
 refine (result_fc z12 f13 k13 (Cod.result_ok.up q13 (hb0.trans (hbc.mono hb0.size))) s13).mono ?_
 rintro e z13 ⟨A13, c13, rfl, hF13, hbq⟩
 dsimp only
 replace hF13 := rf_lo hF13 hz
 replace hF1 := rf_up hF1 hbq
 replace hF2 := rf_up hF2 hbq
 replace hF3 := rf_up hF3 hbq
 replace hF4 := rf_up hF4 hbq
 replace hF5 := rf_up hF5 hbq
 replace hF6 := rf_up hF6 hbq
 replace hF7 := rf_up hF7 hbq
 replace hF8 := rf_up hF8 hbq
 replace hF9 := rf_up hF9 hbq
 replace hF10 := rf_up hF10 hbq
 replace hF11 := rf_up hF11 hbq
 replace hF12 := rf_up hF12 hbq
 replace hbc := hbc.trans (hbq.mono hbc.size)
 have hz_ := hz
 replace hz := hbc.size
 refine hkO hK (⟨CT hbc hlt0 e1, CT hbc hlt0 e2, CT hbc hlt0 e3, CT hbc hlt0 e4, CT hbc hlt0 e5, CT hbc hlt0 e6, CT hbc hlt0 e7, CT hbc hlt0 e8, CT hbc hlt0 e9, CT hbc hlt0 e11, CT hbc hlt0 e12, at_up a10 hbc hlt0, at_up a13 hbc hlt0, at_up a14 hbc hlt0, at_up a15 hbc hlt0, at_up a16 hbc hlt0⟩) fun hHeld => ?_
 clear hK K
 refine rdO 41 fun K hK => ?_
 go_simp
 go_at_call 70
 refine (machine_fc z13 f14 k14 (Cod.machine_ok.up q14 (hb0.trans (hbc.mono hb0.size))) s14).mono ?_
 rintro e z14 ⟨A14, c14, rfl, hF14, hbq⟩
 dsimp only
 replace hF14 := rf_lo hF14 hz
 replace hF1 := rf_up hF1 hbq
 replace hF2 := rf_up hF2 hbq
 replace hF3 := rf_up hF3 hbq
 replace hF4 := rf_up hF4 hbq
 replace hF5 := rf_up hF5 hbq
 replace hF6 := rf_up hF6 hbq
 replace hF7 := rf_up hF7 hbq
 replace hF8 := rf_up hF8 hbq
 replace hF9 := rf_up hF9 hbq
 replace hF10 := rf_up hF10 hbq
 replace hF11 := rf_up hF11 hbq
 replace hF12 := rf_up hF12 hbq
 replace hF13 := rf_up hF13 hbq
 replace hbc := hbc.trans (hbq.mono hbc.size)
 have hz_ := hz
 replace hz := hbc.size
 refine hkO hK (⟨CT hbc hlt0 e1, CT hbc hlt0 e2, CT hbc hlt0 e3, CT hbc hlt0 e4, CT hbc hlt0 e5, CT hbc hlt0 e6, CT hbc hlt0 e7, CT hbc hlt0 e8, CT hbc hlt0 e9, CT hbc hlt0 e11, CT hbc hlt0 e12, at_up a10 hbc hlt0, at_up a13 hbc hlt0, at_up a14 hbc hlt0, at_up a15 hbc hlt0, at_up a16 hbc hlt0⟩) fun hHeld => ?_
 clear hK K
 refine rdO 44 fun K hK => ?_
 go_simp
 go_at_call 71
 refine (secret_fc z14 f15 k15 (Cod.secret_ok.up q15 (hb0.trans (hbc.mono hb0.size))) s15).mono ?_
 rintro e z15 ⟨A15, c15, rfl, hF15, hbq⟩
 dsimp only
 replace hF15 := rf_lo hF15 hz
 replace hF1 := rf_up hF1 hbq
 replace hF2 := rf_up hF2 hbq
 replace hF3 := rf_up hF3 hbq
 replace hF4 := rf_up hF4 hbq
 replace hF5 := rf_up hF5 hbq
 replace hF6 := rf_up hF6 hbq
 replace hF7 := rf_up hF7 hbq
 replace hF8 := rf_up hF8 hbq
 replace hF9 := rf_up hF9 hbq
 replace hF10 := rf_up hF10 hbq
 replace hF11 := rf_up hF11 hbq
 replace hF12 := rf_up hF12 hbq
 replace hF13 := rf_up hF13 hbq
 replace hF14 := rf_up hF14 hbq
 replace hbc := hbc.trans (hbq.mono hbc.size)
 have hz_ := hz
 replace hz := hbc.size
 refine hkO hK (⟨CT hbc hlt0 e1, CT hbc hlt0 e2, CT hbc hlt0 e3, CT hbc hlt0 e4, CT hbc hlt0 e5, CT hbc hlt0 e6, CT hbc hlt0 e7, CT hbc hlt0 e8, CT hbc hlt0 e9, CT hbc hlt0 e11, CT hbc hlt0 e12, at_up a10 hbc hlt0, at_up a13 hbc hlt0, at_up a14 hbc hlt0, at_up a15 hbc hlt0, at_up a16 hbc hlt0⟩) fun hHeld => ?_
 clear hK K
 refine rdO 47 fun K hK => ?_
 go_simp
 go_at_call 72
 refine (entry_fc z15 f16 k16 (Cod.entry_ok.up q16 (hb0.trans (hbc.mono hb0.size))) s16).mono ?_
 rintro e z16 ⟨A16, c16, rfl, hF16, hbq⟩
 dsimp only
 replace hF16 := rf_lo hF16 hz
 replace hF1 := rf_up hF1 hbq
 replace hF2 := rf_up hF2 hbq
 replace hF3 := rf_up hF3 hbq
 replace hF4 := rf_up hF4 hbq
 replace hF5 := rf_up hF5 hbq
 replace hF6 := rf_up hF6 hbq
 replace hF7 := rf_up hF7 hbq
 replace hF8 := rf_up hF8 hbq
 replace hF9 := rf_up hF9 hbq
 replace hF10 := rf_up hF10 hbq
 replace hF11 := rf_up hF11 hbq
 replace hF12 := rf_up hF12 hbq
 replace hF13 := rf_up hF13 hbq
 replace hF14 := rf_up hF14 hbq
 replace hF15 := rf_up hF15 hbq
 replace hbc := hbc.trans (hbq.mono hbc.size)
 have hz_ := hz
 replace hz := hbc.size
 refine hkO hK (⟨CT hbc hlt0 e1, CT hbc hlt0 e2, CT hbc hlt0 e3, CT hbc hlt0 e4, CT hbc hlt0 e5, CT hbc hlt0 e6, CT hbc hlt0 e7, CT hbc hlt0 e8, CT hbc hlt0 e9, CT hbc hlt0 e11, CT hbc hlt0 e12, at_up a10 hbc hlt0, at_up a13 hbc hlt0, at_up a14 hbc hlt0, at_up a15 hbc hlt0, at_up a16 hbc hlt0⟩) fun hHeld => ?_
 clear hK K
 refine rdO 48 fun K hK => ?_
 go_simp
 generalize hx_ : World.alloc z16 _ = z17
 have hbq : Below z16.heap.size z16 z17 := by rw [← hx_]; exact (Below.refl _ _).alloc (Nat.le_refl _) _
 have hOw : Own w1 z17 fldT 4 (.slice (some ⟨z16.heap.size, 0, none⟩) 16 16) 16 (fC f1 A1 c1 ++ (fC f2 A2 c2 ++ (fC f3 A3 c3 ++ (fC f4 A4 c4 ++ (fC f5 A5 c5 ++ (fC f6 A6 c6 ++ (fC f7 A7 c7 ++ (fC f8 A8 c8 ++ (fC f9 A9 c9 ++ (fC f10 A10 c10 ++ (fC f11 A11 c11 ++ (fC f12 A12 c12 ++ (fC f13 A13 c13 ++ (fC f14 A14 c14 ++ (fC f15 A15 c15 ++ (fC f16 A16 c16 ++ ([]))))))))))))))))) := by rw [← hx_]; exact Own.lit hbc rfl (by decide)
 clear hx_
 replace hF1 := rf_up hF1 hbq
 replace hF2 := rf_up hF2 hbq
 replace hF3 := rf_up hF3 hbq
 replace hF4 := rf_up hF4 hbq
 replace hF5 := rf_up hF5 hbq
 replace hF6 := rf_up hF6 hbq
 replace hF7 := rf_up hF7 hbq
 replace hF8 := rf_up hF8 hbq
 replace hF9 := rf_up hF9 hbq
 replace hF10 := rf_up hF10 hbq
 replace hF11 := rf_up hF11 hbq
 replace hF12 := rf_up hF12 hbq
 replace hF13 := rf_up hF13 hbq
 replace hF14 := rf_up hF14 hbq
 replace hF15 := rf_up hF15 hbq
 replace hF16 := rf_up hF16 hbq
 replace hbc := hbc.trans (hbq.mono hbc.size)
 have hz_ := hz
 replace hz := hbc.size
 have hL := rl_cons hF1 (rl_cons hF2 (rl_cons hF3 (rl_cons hF4 (rl_cons hF5 (rl_cons hF6 (rl_cons hF7 (rl_cons hF8 (rl_cons hF9 (rl_cons hF10 (rl_cons hF11 (rl_cons hF12 (rl_cons hF13 (rl_cons hF14 (rl_cons hF15 (rl_cons hF16 (rl_nil))))))))))))))))
 clear hF1 hF2 hF3 hF4 hF5 hF6 hF7 hF8 hF9 hF10 hF11 hF12 hF13 hF14 hF15 hF16
 refine hkO hK (⟨CT hbc hlt0 e1, CT hbc hlt0 e2, CT hbc hlt0 e3, CT hbc hlt0 e4, CT hbc hlt0 e5, CT hbc hlt0 e6, CT hbc hlt0 e7, CT hbc hlt0 e8, CT hbc hlt0 e9, CT hbc hlt0 e11, CT hbc hlt0 e12, at_up a10 hbc hlt0, at_up a13 hbc hlt0, at_up a14 hbc hlt0, at_up a15 hbc hlt0, at_up a16 hbc hlt0⟩) fun hHeld => ?_
 clear hK K
 refine tkQ 49 ?_
 refine wpAnyH_done (by kernel_rfl) ?_ _
 clear hHeld
 repeat' (first | go_skip | go_guarded | go_step)
 go_ret
 exact ⟨some ⟨z16.heap.size, 0, none⟩, 16, _, rfl, Own.up hb0 hOw, RList.map (fun x d hd => rF_ok _ _ _ _ x d (fun _ _ => rfl) (fun b hb => ⟨Nat.le_trans hb0.size hb.1, hb.2⟩) hd) hL⟩
structure EvR (w : World) (fs : List FV) (E : List Value) : Prop where
 rd : RecL evC w (fun b => b < w.heap.size) fs E
 sz : lsz fs ≤ 1000000000
theorem EvR.len {w : World} {fs : List FV} {E : List Value} (h : EvR w fs E) : E.length = 42 := (h.rd.len evC_ok).1
theorem EvR.up {w z : World} {fs : List FV} {E : List Value} (h : EvR w fs E) (hb : Below w.heap.size w z) : EvR z fs E := ⟨h.rd.map evC_ok (fun p hp => hb.cell hp) (fun b hb' => Nat.lt_of_lt_of_le hb' hb.size), h.sz⟩
theorem ev_info {E : List Value} (h : E.length = 42) : (Tryz.prog.info? 43).map (·.size) = some E.length := by rw [h]; kernel_rfl
theorem RetFs.fields {w z : World} {l : List FV} {A : Option Addr} {c : Nat} {cs : List Value} (hO : Own w z fldT 4 (.slice A l.length c) l.length cs) (hL : RList rF 4 z (Fresh w z) l cs) : Seq z z.heap.size 4 A (ofL l).length cs ∧ RepF z z.heap.size (ofL l) cs := by
 refine ⟨by rw [ofL_length]; exact hO.seq, (rep_of hL).imp fun b hb => hb.2⟩
theorem range_up {w w' : World} {b o : Nat} {J : List Value} (h : w.rangeAt b o J) (hb : Below w.heap.size w w') (hl : b < w.heap.size) : w'.rangeAt b o J := fun j v hj => (hb.cell (p := ⟨b, o + j, none⟩) hl).trans (h j v hj)
theorem psame_ev (fs fs' : List FV) (E E' : List Value) (w : World) (h : EvR w fs E) (h' : EvR w fs' E') : Calls Tryz.prog 16 #[.agg E.toArray, .agg E'.toArray] w fun e w' => e = .returned (.bool (eqF (ofL fs) (ofL fs'))) ∧ Below w.heap.size w w' := by
 go_enter Tryz.func16, Tryz.ntmps16
 go_upto_region 1 with (fail)
 have hA : ((w.alloc (.cells E.toArray 43)).alloc (.cells E'.toArray 43)).rangeAt w.heap.size 0 E := World.rangeAt_alloc (at_new w E 43) _
 have hA' : ((w.alloc (.cells E.toArray 43)).alloc (.cells E'.toArray 43)).rangeAt (w.heap.size + 1) 0 E' := by
  have := at_new (w.alloc (.cells E.toArray 43)) E' 43
  rw [World.size_alloc] at this
  exact this
 have hlt0 : w.heap.size < ((w.alloc (.cells E.toArray 43)).alloc (.cells E'.toArray 43)).heap.size := by simp; omega
 have hlt1 : w.heap.size + 1 < ((w.alloc (.cells E.toArray 43)).alloc (.cells E'.toArray 43)).heap.size := by simp
 have hb0 : Below w.heap.size w ((w.alloc (.cells E.toArray 43)).alloc (.cells E'.toArray 43)) := ((Below.refl w.heap.size w).alloc (Nat.le_refl _) _).alloc (by simp) _
 generalize World.alloc (World.alloc w _) _ = w1 at *
 have hi := ev_info h.len
 have hi' := ev_info h'.len
 replace h := Lib.hid h
 replace h' := Lib.hid h'
 have hS0 : (Below w1.heap.size w1 w1 ∧ w1.rangeAt w.heap.size 0 E ∧ w1.rangeAt (w.heap.size + 1) 0 E') := ⟨Below.refl _ _, hA, hA'⟩
 have keepS : ∀ v1 v2 : World, (Below w1.heap.size w1 v1 ∧ v1.rangeAt w.heap.size 0 E ∧ v1.rangeAt (w.heap.size + 1) 0 E') → Below v1.heap.size v1 v2 → (Below w1.heap.size w1 v2 ∧ v2.rangeAt w.heap.size 0 E ∧ v2.rangeAt (w.heap.size + 1) 0 E') := fun v1 v2 h hb => ⟨h.1.trans (hb.mono h.1.size), range_up h.2.1 hb (Nat.lt_of_lt_of_le hlt0 h.1.size), range_up h.2.2 hb (Nat.lt_of_lt_of_le hlt1 h.1.size)⟩
 have hS1 : (Below w1.heap.size w1 w1.drew ∧ w1.drew.rangeAt w.heap.size 0 E ∧ w1.drew.rangeAt (w.heap.size + 1) 0 E') := keepS _ _ hS0 ((Below.refl _ _).drew)
 replace keepS := Lib.hid keepS
 clear hS0
 refine wp_region_held_drew (S := fun w' => Below w1.heap.size w1 w' ∧ w'.rangeAt w.heap.size 0 E ∧ w'.rangeAt (w.heap.size + 1) 0 E') (by kernel_rfl) ?_ (fun hHeld => ?_)
 ·(try dsimp only)
  exact hS1
 refine tkV 0 (v := .agg E.toArray) rfl (yieldsIf_load_mid (by rfl) 43 _ rfl w.heap.size 0 rfl E _ (fun v h => h.2.1) Tryz.underlying43 rfl hi) ?_
 refine tkV 2 (v := .agg E'.toArray) rfl (yieldsIf_load_mid (by rfl) 43 _ rfl (w.heap.size + 1) 0 rfl E' _ (fun v h => h.2.2) Tryz.underlying43 rfl hi') ?_
 refine rdO 1 fun K hK => ?_
 go_simp
 go_at_call 28
 refine (form_any fs E _ ((h.out.up (hb0.trans (hHeld.1.mono hb0.size))).rd) h.out.sz).mono ?_
 rintro e z1 ⟨A1, c1, cs1, rfl, hO1, hL1⟩
 dsimp only
 have hbq := hO1.2
 obtain ⟨g1, g2⟩ := RetFs.fields hO1 hL1
 clear hO1 hL1
 have hB1 := Nat.le_refl z1.heap.size
 refine hkO hK (keepS.out _ _ hHeld hbq) fun hHeld => ?_
 clear hK K
 refine rdO 3 fun K hK => ?_
 go_simp
 go_at_call 28
 refine (form_any fs' E' _ ((h'.out.up (hb0.trans (hHeld.1.mono hb0.size))).rd) h'.out.sz).mono ?_
 rintro e z2 ⟨A2, c2, cs2, rfl, hO2, hL2⟩
 dsimp only
 have hbq := hO2.2
 obtain ⟨g3, g4⟩ := RetFs.fields hO2 hL2
 clear hO2 hL2
 replace g1 := (g1.below hbq).more hbq.size
 replace g2 := (g2.below hbq).more hbq.size
 refine hkO hK (keepS.out _ _ hHeld hbq) fun hHeld => ?_
 clear hK K
 refine rdO 4 fun K hK => ?_
 go_simp
 go_at_call 33
 have CJ := psame_any (ofL fs) (ofL fs') A1 c1 cs1 A2 c2 cs2 z2 z2.heap.size (Nat.le_refl _) g1 g2 g3 g4 h.out.sz h'.out.sz
 rw [ofL_length, ofL_length] at CJ
 refine CJ.mono ?_
 clear CJ g1 g2 g3 g4
 rintro e z3 ⟨rfl, hbq⟩
 dsimp only
 refine hkO hK (keepS.out _ _ hHeld hbq) fun hHeld => ?_
 clear hK K
 refine tkQ 5 ?_
 refine wpAnyH_done (by kernel_rfl) ?_ _
 have hbW := hHeld.1
 clear hHeld hS1 keepS
 repeat' (first | go_skip | go_guarded | go_step)
 go_ret
 exact ⟨rfl, hb0.trans (hbW.mono hb0.size)⟩
theorem rsame_ev (fs fs' : List FV) (E E' : List Value) (w : World) (h : EvR w fs E) (h' : EvR w fs' E') : Calls Tryz.prog 17 #[.agg E.toArray, .agg E'.toArray] w fun e w' => e = .returned (.bool (eqF (ofL fs) (ofL fs'))) ∧ Below w.heap.size w w' := by
 go_enter Tryz.func17, Tryz.ntmps17
 go_upto_region 1 with (fail)
 have hA : ((w.alloc (.cells E.toArray 43)).alloc (.cells E'.toArray 43)).rangeAt w.heap.size 0 E := World.rangeAt_alloc (at_new w E 43) _
 have hA' : ((w.alloc (.cells E.toArray 43)).alloc (.cells E'.toArray 43)).rangeAt (w.heap.size + 1) 0 E' := by
  have := at_new (w.alloc (.cells E.toArray 43)) E' 43
  rw [World.size_alloc] at this
  exact this
 have hlt0 : w.heap.size < ((w.alloc (.cells E.toArray 43)).alloc (.cells E'.toArray 43)).heap.size := by simp; omega
 have hlt1 : w.heap.size + 1 < ((w.alloc (.cells E.toArray 43)).alloc (.cells E'.toArray 43)).heap.size := by simp
 have hb0 : Below w.heap.size w ((w.alloc (.cells E.toArray 43)).alloc (.cells E'.toArray 43)) := ((Below.refl w.heap.size w).alloc (Nat.le_refl _) _).alloc (by simp) _
 generalize World.alloc (World.alloc w _) _ = w1 at *
 have hi := ev_info h.len
 have hi' := ev_info h'.len
 replace h := Lib.hid h
 replace h' := Lib.hid h'
 have hS0 : (Below w1.heap.size w1 w1 ∧ w1.rangeAt w.heap.size 0 E ∧ w1.rangeAt (w.heap.size + 1) 0 E') := ⟨Below.refl _ _, hA, hA'⟩
 have keepS : ∀ v1 v2 : World, (Below w1.heap.size w1 v1 ∧ v1.rangeAt w.heap.size 0 E ∧ v1.rangeAt (w.heap.size + 1) 0 E') → Below v1.heap.size v1 v2 → (Below w1.heap.size w1 v2 ∧ v2.rangeAt w.heap.size 0 E ∧ v2.rangeAt (w.heap.size + 1) 0 E') := fun v1 v2 h hb => ⟨h.1.trans (hb.mono h.1.size), range_up h.2.1 hb (Nat.lt_of_lt_of_le hlt0 h.1.size), range_up h.2.2 hb (Nat.lt_of_lt_of_le hlt1 h.1.size)⟩
 have hS1 : (Below w1.heap.size w1 w1.drew ∧ w1.drew.rangeAt w.heap.size 0 E ∧ w1.drew.rangeAt (w.heap.size + 1) 0 E') := keepS _ _ hS0 ((Below.refl _ _).drew)
 replace keepS := Lib.hid keepS
 clear hS0
 refine wp_region_held_drew (S := fun w' => Below w1.heap.size w1 w' ∧ w'.rangeAt w.heap.size 0 E ∧ w'.rangeAt (w.heap.size + 1) 0 E') (by kernel_rfl) ?_ (fun hHeld => ?_)
 ·(try dsimp only)
  exact hS1
 refine tkV 0 (v := .agg E.toArray) rfl (yieldsIf_load_mid (by rfl) 43 _ rfl w.heap.size 0 rfl E _ (fun v h => h.2.1) Tryz.underlying43 rfl hi) ?_
 refine tkV 2 (v := .agg E'.toArray) rfl (yieldsIf_load_mid (by rfl) 43 _ rfl (w.heap.size + 1) 0 rfl E' _ (fun v h => h.2.2) Tryz.underlying43 rfl hi') ?_
 refine rdO 1 fun K hK => ?_
 go_simp
 go_at_call 32
 refine (forms_any fs E _ ((h.out.up (hb0.trans (hHeld.1.mono hb0.size))).rd) h.out.sz).mono ?_
 rintro e z1 ⟨A1, c1, cs1, rfl, hO1, hL1⟩
 dsimp only
 have hbq := hO1.2
 obtain ⟨g1, g2⟩ := RetFs.fields hO1 hL1
 clear hO1 hL1
 have hB1 := Nat.le_refl z1.heap.size
 refine hkO hK (keepS.out _ _ hHeld hbq) fun hHeld => ?_
 clear hK K
 refine rdO 3 fun K hK => ?_
 go_simp
 go_at_call 32
 refine (forms_any fs' E' _ ((h'.out.up (hb0.trans (hHeld.1.mono hb0.size))).rd) h'.out.sz).mono ?_
 rintro e z2 ⟨A2, c2, cs2, rfl, hO2, hL2⟩
 dsimp only
 have hbq := hO2.2
 obtain ⟨g3, g4⟩ := RetFs.fields hO2 hL2
 clear hO2 hL2
 replace g1 := (g1.below hbq).more hbq.size
 replace g2 := (g2.below hbq).more hbq.size
 refine hkO hK (keepS.out _ _ hHeld hbq) fun hHeld => ?_
 clear hK K
 refine rdO 4 fun K hK => ?_
 go_simp
 go_at_call 34
 have CJ := rsame_any (ofL fs) (ofL fs') A1 c1 cs1 A2 c2 cs2 z2 z2.heap.size (Nat.le_refl _) g1 g2 g3 g4 h.out.sz h'.out.sz
 rw [ofL_length, ofL_length] at CJ
 refine CJ.mono ?_
 clear CJ g1 g2 g3 g4
 rintro e z3 ⟨rfl, hbq⟩
 dsimp only
 refine hkO hK (keepS.out _ _ hHeld hbq) fun hHeld => ?_
 clear hK K
 refine tkQ 5 ?_
 refine wpAnyH_done (by kernel_rfl) ?_ _
 have hbW := hHeld.1
 clear hHeld hS1 keepS
 repeat' (first | go_skip | go_guarded | go_step)
 go_ret
 exact ⟨rfl, hb0.trans (hbW.mono hb0.size)⟩
def zeroFs : List FV := [(fI 0), (fI 0), (fS ByteArray.empty), (fS ByteArray.empty), (fI 0), (fI 0), (fI 0), (fS ByteArray.empty), (fS ByteArray.empty), (fL [(fS ByteArray.empty), (fS ByteArray.empty), (fI 0)]), (fL []), (fL []), (fL [(fI 0), (fI 0), (fL []), (fL []), (fL []), (fS ByteArray.empty)]), (fL [(fS ByteArray.empty), (fL []), (fI 0), (fI 0), (fI 0), (fI 0), (fI 0), (fI 0), (fL [])]), (fL [(fS ByteArray.empty), (fS ByteArray.empty), (fI 0), (fL []), (fL [])]), (fL [fL [(fS ByteArray.empty), (fI 0), (fS ByteArray.empty)], (fS ByteArray.empty), (fI 0), (fI 0), (fI 0), (fI 0)])]
def evZ : List Value := [.int .i64 0, .int .i64 0, .string ⟨#[]⟩, .string ⟨#[]⟩, .int .i64 0, .int .i64 0, .int .i64 0, .string ⟨#[]⟩, .string ⟨#[]⟩, .string ⟨#[]⟩, .string ⟨#[]⟩, .bool false, .slice none 0 0, .slice none 0 0, .int .i64 0, .int .i64 0, .slice none 0 0, .slice none 0 0, .slice none 0 0, .string ⟨#[]⟩, .string ⟨#[]⟩, .slice none 0 0, .int .i64 0, .int .i64 0, .bool false, .int .i64 0, .int .i64 0, .int .i64 0, .slice none 0 0, .string ⟨#[]⟩, .string ⟨#[]⟩, .int .i64 0, .slice none 0 0, .slice none 0 0, .string ⟨#[]⟩, .int .i64 0, .string ⟨#[]⟩, .string ⟨#[]⟩, .int .u64 0, .int .i64 0, .int .i64 0, .int .i64 0]
def usedL : Nat → List Nat
 | 1 => [0, 1, 2, 4, 9, 8, 10, 11]
 | 2 => [0, 1, 2, 3, 4, 5, 7]
 | 3 => [0, 1, 2, 3, 4, 5, 12, 8]
 | 4 => [0, 1, 2, 3, 4, 5, 6]
 | 5 => [0, 1, 2, 3, 7]
 | 6 => [0, 1, 2, 3, 7]
 | 7 => [0, 1, 2, 6]
 | 8 => [0, 1, 2, 3]
 | 9 => [0, 1, 2]
 | 10 => [0, 1, 8, 4, 5, 6]
 | 11 => [0, 1, 13]
 | 12 => [0, 1, 7]
 | 13 => [0, 1, 7]
 | 14 => [0, 1, 14]
 | 15 => [0, 1, 2, 3, 5, 15]
 | _ => [0, 1]
def restF (k : Nat) (fs : List FV) : List FV := (usedL k).foldl (fun l i => l.set i (zeroFs.getD i (fI 0))) fs
def setL : List Value → Nat → List Value → List Value
 | cs, _, [] => cs
 | cs, o, z :: zs => setL (cs.set o z) (o + 1) zs
theorem setL_app (a b : List Value) : ∀ (zs : List Value) (o : Nat), setL (a ++ b) (a.length + o) zs = a ++ setL b o zs := fun zs => by
 induction zs generalizing b with
 | nil => intro o; rfl
 | cons z zs ih =>
  intro o
  rw [setL, setL, List.set_append_right _ _ (by omega), Nat.add_sub_cancel_left, Nat.add_assoc, ih]
theorem setL_front : ∀ (zs a b : List Value) (p : List Value), a.length = zs.length → setL (p ++ (a ++ b)) p.length zs = p ++ (zs ++ b)
 | [], a, b, p, h => by
  have : a = [] := List.eq_nil_of_length_eq_zero h
  subst this; rfl
 | z :: zs, x :: a, b, p, h => by
  rw [setL, List.set_append_right _ _ (Nat.le_refl _), Nat.sub_self]
  have := setL_front zs a b (p ++ [z]) (by simpa using h)
  simp only [List.append_assoc, List.length_append, List.length_cons, List.length_nil, List.cons_append, List.nil_append, Nat.zero_add] at this
  simpa using this
theorem RecL.put {w : World} {S : Nat → Prop} {C : Cod} {f : FV} {z : List Value} (hz : C.rp w S f z) : ∀ {Cs : List Cod} {fs : List FV} {cs : List Value} (i off : Nat), (∀ D ∈ Cs, Cod.Ok D) → RecL Cs w S fs cs → Cs[i]? = some C → csz (Cs.take i) = off → RecL Cs w S (fs.set i f) (setL cs off z)
 | [], _, _, i, _, _, _, h, _ => by simp at h
 | D :: Cs, fs, cs, 0, off, hO, ⟨f1, fr, c1, c2, h1, h2, h3, h4⟩, h, ho => by
  simp only [List.getElem?_cons_zero, Option.some.injEq] at h
  subst h
  have : off = 0 := ho.symm
  subst this
  subst h1 h2
  have e := setL_front z c1 c2 [] (((hO D (by simp)).len h3).trans ((hO D (by simp)).len hz).symm)
  exact ⟨f, fr, z, c2, rfl, e, hz, h4⟩
 | D :: Cs, fs, cs, i + 1, off, hO, ⟨f1, fr, c1, c2, h1, h2, h3, h4⟩, h, ho => by
  subst h1 h2
  have hl := (hO D (by simp)).len h3
  have ho' : off = c1.length + csz (Cs.take i) := by rw [← ho, hl]; simp [csz]
  subst ho'
  exact ⟨f1, fr.set i f, c1, setL c2 (csz (Cs.take i)) z, rfl, setL_app c1 c2 z _, h3, RecL.put hz i _ (fun E hE => hO E (by simp [hE])) h4 (by simpa using h) rfl⟩
theorem lsz_set : ∀ (l : List FV) (i : Nat) (f : FV), lsz (l.set i f) ≤ lsz l + fsz f
 | [], _, _ => by simp
 | g :: l, 0, f => by rw [List.set_cons_zero, lsz_cons, lsz_cons]; omega
 | g :: l, i + 1, f => by rw [List.set_cons_succ, lsz_cons, lsz_cons]; have := lsz_set l i f; omega
section
variable {w : World} {S : Nat → Prop}
theorem z_int : Cod.int.rp w S (fI 0) [.int .i64 0] := ⟨0, ii0, rfl, rfl⟩
theorem z_str : Cod.str.rp w S (fS ByteArray.empty) [.string ⟨#[]⟩] := ⟨_, rfl, rfl⟩
theorem z_flag : Cod.flag.rp w S (fI 0) [.bool false] := ⟨false, rfl, rfl⟩
theorem z_dig : Cod.dig.rp w S (fI 0) [.int .u64 0] := ⟨0, by decide, by rw [show wrap64 ((0 : Nat) : Int) = 0 from by unfold wrap64; omega], rfl⟩
theorem z_list (C : Cod) : (Cod.list C).rp w S (fL []) [.slice none 0 0] := ⟨[], none, 0, rfl, rfl, rfl, Nat.le_refl _, fun _ => rfl, [], SeqP.nil_, rfl⟩
theorem z_nil : RecL [] w S [] [] := ⟨rfl, rfl⟩
theorem z_cons {C : Cod} {Cs : List Cod} {f : FV} {fs : List FV} {c cs : List Value} (h : C.rp w S f c) (hs : RecL Cs w S fs cs) : RecL (C :: Cs) w S (f :: fs) (c ++ cs) := ⟨f, fs, c, cs, rfl, rfl, h, hs⟩
theorem z_rec {Cs : List Cod} {fs : List FV} {cs : List Value} (h : RecL Cs w S fs cs) : (Cod.recd Cs).rp w S (fL fs) cs := ⟨fs, rfl, h⟩
theorem zz0 : Cod.rp (.int : Cod) w S (fI 0) [.int .i64 0] := z_int
theorem zz1 : Cod.rp (.int : Cod) w S (fI 0) [.int .i64 0] := z_int
theorem zz2 : Cod.rp (.str : Cod) w S (fS ByteArray.empty) [.string ⟨#[]⟩] := z_str
theorem zz3 : Cod.rp (.str : Cod) w S (fS ByteArray.empty) [.string ⟨#[]⟩] := z_str
theorem zz4 : Cod.rp (.int : Cod) w S (fI 0) [.int .i64 0] := z_int
theorem zz5 : Cod.rp (.int : Cod) w S (fI 0) [.int .i64 0] := z_int
theorem zz6 : Cod.rp (.int : Cod) w S (fI 0) [.int .i64 0] := z_int
theorem zz7 : Cod.rp (.str : Cod) w S (fS ByteArray.empty) [.string ⟨#[]⟩] := z_str
theorem zz8 : Cod.rp (.str : Cod) w S (fS ByteArray.empty) [.string ⟨#[]⟩] := z_str
theorem zz9 : Cod.rp (.origin : Cod) w S (fL [(fS ByteArray.empty), (fS ByteArray.empty), (fI 0)]) [.string ⟨#[]⟩, .string ⟨#[]⟩, .bool false] := (z_rec (z_cons z_str (z_cons z_str (z_cons z_flag z_nil))))
theorem zz10 : Cod.rp (.list .vari : Cod) w S (fL []) [.slice none 0 0] := (z_list Cod.vari)
theorem zz11 : Cod.rp (.list .timing : Cod) w S (fL []) [.slice none 0 0] := (z_list Cod.timing)
theorem zz12 : Cod.rp (.result : Cod) w S (fL [(fI 0), (fI 0), (fL []), (fL []), (fL []), (fS ByteArray.empty)]) [.int .i64 0, .int .i64 0, .slice none 0 0, .slice none 0 0, .slice none 0 0, .string ⟨#[]⟩] := (z_rec (z_cons z_int (z_cons z_int (z_cons (z_list Cod.output) (z_cons (z_list Cod.output) (z_cons (z_list Cod.test) (z_cons z_str z_nil)))))))
theorem zz13 : Cod.rp (.machine : Cod) w S (fL [(fS ByteArray.empty), (fL []), (fI 0), (fI 0), (fI 0), (fI 0), (fI 0), (fI 0), (fL [])]) [.string ⟨#[]⟩, .slice none 0 0, .int .i64 0, .int .i64 0, .bool false, .int .i64 0, .int .i64 0, .int .i64 0, .slice none 0 0] := (z_rec (z_cons z_str (z_cons (z_list Cod.str) (z_cons z_int (z_cons z_int (z_cons z_flag (z_cons z_int (z_cons z_int (z_cons z_int (z_cons (z_list Cod.int) z_nil))))))))))
theorem zz14 : Cod.rp (.secret : Cod) w S (fL [(fS ByteArray.empty), (fS ByteArray.empty), (fI 0), (fL []), (fL [])]) [.string ⟨#[]⟩, .string ⟨#[]⟩, .int .i64 0, .slice none 0 0, .slice none 0 0] := (z_rec (z_cons z_str (z_cons z_str (z_cons z_int (z_cons (z_list Cod.str) (z_cons (z_list Cod.str) z_nil))))))
theorem zz15 : Cod.rp (.entry : Cod) w S (fL [fL [(fS ByteArray.empty), (fI 0), (fS ByteArray.empty)], (fS ByteArray.empty), (fI 0), (fI 0), (fI 0), (fI 0)]) [.string ⟨#[]⟩, .int .i64 0, .string ⟨#[]⟩, .string ⟨#[]⟩, .int .u64 0, .int .i64 0, .int .i64 0, .int .i64 0] := (z_rec (z_cons (z_rec (z_cons z_str (z_cons z_int (z_cons z_str z_nil)))) (z_cons z_str (z_cons z_dig (z_cons z_int (z_cons z_int (z_cons z_int z_nil)))))))
theorem evZ_rd : RecL evC w S zeroFs evZ := (z_cons zz0 (z_cons zz1 (z_cons zz2 (z_cons zz3 (z_cons zz4 (z_cons zz5 (z_cons zz6 (z_cons zz7 (z_cons zz8 (z_cons zz9 (z_cons zz10 (z_cons zz11 (z_cons zz12 (z_cons zz13 (z_cons zz14 (z_cons zz15 z_nil))))))))))))))))
end
theorem zs0 : fsz (fI 0) ≤ 40 := by decide +kernel
theorem zs1 : fsz (fI 0) ≤ 40 := by decide +kernel
theorem zs2 : fsz (fS ByteArray.empty) ≤ 40 := by decide +kernel
theorem zs3 : fsz (fS ByteArray.empty) ≤ 40 := by decide +kernel
theorem zs4 : fsz (fI 0) ≤ 40 := by decide +kernel
theorem zs5 : fsz (fI 0) ≤ 40 := by decide +kernel
theorem zs6 : fsz (fI 0) ≤ 40 := by decide +kernel
theorem zs7 : fsz (fS ByteArray.empty) ≤ 40 := by decide +kernel
theorem zs8 : fsz (fS ByteArray.empty) ≤ 40 := by decide +kernel
theorem zs9 : fsz (fL [(fS ByteArray.empty), (fS ByteArray.empty), (fI 0)]) ≤ 40 := by decide +kernel
theorem zs10 : fsz (fL []) ≤ 40 := by decide +kernel
theorem zs11 : fsz (fL []) ≤ 40 := by decide +kernel
theorem zs12 : fsz (fL [(fI 0), (fI 0), (fL []), (fL []), (fL []), (fS ByteArray.empty)]) ≤ 40 := by decide +kernel
theorem zs13 : fsz (fL [(fS ByteArray.empty), (fL []), (fI 0), (fI 0), (fI 0), (fI 0), (fI 0), (fI 0), (fL [])]) ≤ 40 := by decide +kernel
theorem zs14 : fsz (fL [(fS ByteArray.empty), (fS ByteArray.empty), (fI 0), (fL []), (fL [])]) ≤ 40 := by decide +kernel
theorem zs15 : fsz (fL [fL [(fS ByteArray.empty), (fI 0), (fS ByteArray.empty)], (fS ByteArray.empty), (fI 0), (fI 0), (fI 0), (fI 0)]) ≤ 40 := by decide +kernel
theorem getD_at {l : List Value} {n j : Nat} (h : l.length = n) (hj : j < n) : l[j]? = some (l.getD j undef) := by
 rw [List.getD_eq_getElem?_getD, List.getElem?_eq_getElem (by omega)]; rfl
theorem sixteen {α : Type} {l : List α} (h : l.length = 16) : ∃ a b c d e f g i j k m n o p q r, l = [a, b, c, d, e, f, g, i, j, k, m, n, o, p, q, r] := by
 match l, h with
 | [a, b, c, d, e, f, g, i, j, k, m, n, o, p, q, r], _ => exact ⟨a, b, c, d, e, f, g, i, j, k, m, n, o, p, q, r, rfl⟩
theorem restF_sz (fs : List FV) (k : Nat) : lsz (restF k fs) ≤ lsz fs + 400 := by
 have key : ∀ (L : List Nat) (l : List FV), lsz (L.foldl (fun l i => l.set i (zeroFs.getD i (fI 0))) l) ≤ lsz l + 40 * L.length := by
  intro L
  induction L with
  | nil => intro l; simp
  | cons i L ih =>
   intro l
   have h1 := ih (l.set i (zeroFs.getD i (fI 0)))
   have h2 := lsz_set l i (zeroFs.getD i (fI 0))
   have h3 : fsz (zeroFs.getD i (fI 0)) ≤ 40 := by
    match i with
    | 0 => exact zs0
    | 1 => exact zs1
    | 2 => exact zs2
    | 3 => exact zs3
    | 4 => exact zs4
    | 5 => exact zs5
    | 6 => exact zs6
    | 7 => exact zs7
    | 8 => exact zs8
    | 9 => exact zs9
    | 10 => exact zs10
    | 11 => exact zs11
    | 12 => exact zs12
    | 13 => exact zs13
    | 14 => exact zs14
    | 15 => exact zs15
    | n + 16 => exact zs0
   simp only [List.foldl_cons, List.length_cons]
   omega
 have h1 := key (usedL k) fs
 have h2 : (usedL k).length ≤ 10 := by
  unfold usedL
  split <;> decide
 unfold restF
 omega
end Go.Proofs.YtgdapkglofchjaaGreatDoor
