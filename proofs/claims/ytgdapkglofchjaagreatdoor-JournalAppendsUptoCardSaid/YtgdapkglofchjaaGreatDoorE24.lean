/- Joined: JnG6 JnG7 JnG8. -/
import Derived.Test.YtgdapkglofchjaaGreatDoorE23
set_option maxRecDepth 100000
set_option maxHeartbeats 4000000
set_option linter.unusedVariables false
namespace Go.Proofs.YtgdapkglofchjaaGreatDoor
open Go.RowKit
theorem result_fc : FormS 69 Cod.result := by
 intro w f cs hr hs
 obtain ⟨fs, rfl, hr⟩ := hr
 obtain ⟨f1, r1, k1, d1, rfl, rfl, q1, hr⟩ := hr
 obtain ⟨f2, r2, k2, d2, rfl, rfl, q2, hr⟩ := hr
 obtain ⟨f3, r3, k3, d3, rfl, rfl, q3, hr⟩ := hr
 obtain ⟨f4, r4, k4, d4, rfl, rfl, q4, hr⟩ := hr
 obtain ⟨f5, r5, k5, d5, rfl, rfl, q5, hr⟩ := hr
 obtain ⟨f6, r6, k6, d6, rfl, rfl, q6, hr⟩ := hr
 obtain ⟨rfl, rfl⟩ := hr
 rw [fsz_fL] at hs
 have s1 : fsz f1 ≤ 1000000000 := by have := fsz_mem (l := [f1, f2, f3, f4, f5, f6]) (f := f1) (by simp); omega
 have s2 : fsz f2 ≤ 1000000000 := by have := fsz_mem (l := [f1, f2, f3, f4, f5, f6]) (f := f2) (by simp); omega
 have s3 : fsz f3 ≤ 1000000000 := by have := fsz_mem (l := [f1, f2, f3, f4, f5, f6]) (f := f3) (by simp); omega
 have s4 : fsz f4 ≤ 1000000000 := by have := fsz_mem (l := [f1, f2, f3, f4, f5, f6]) (f := f4) (by simp); omega
 have s5 : fsz f5 ≤ 1000000000 := by have := fsz_mem (l := [f1, f2, f3, f4, f5, f6]) (f := f5) (by simp); omega
 have s6 : fsz f6 ≤ 1000000000 := by have := fsz_mem (l := [f1, f2, f3, f4, f5, f6]) (f := f6) (by simp); omega
 obtain ⟨v1, rfl⟩ := one_list (Cod.int_ok.len q1)
 obtain ⟨v2, rfl⟩ := one_list (Cod.int_ok.len q2)
 obtain ⟨v3, rfl⟩ := one_list ((Cod.list_ok Cod.output_ok).len q3)
 obtain ⟨v4, rfl⟩ := one_list ((Cod.list_ok Cod.output_ok).len q4)
 obtain ⟨v5, rfl⟩ := one_list ((Cod.list_ok Cod.test_ok).len q5)
 obtain ⟨v6, rfl⟩ := one_list (Cod.str_ok.len q6)
 show Calls _ _ #[.agg #[v1, v2, v3, v4, v5, v6]] _ _
 go_enter Tryz.func69, Tryz.ntmps69
 go_upto_region 1 with (fail)
 generalize hx_ : World.alloc (World.alloc w _) _ = wo1
 have hP1 : OwnB w wo1 [(w.heap.size + 1, [.int .i64 0, .int .i64 0, .string ⟨#[]⟩, .slice none 0 0]), (w.heap.size, [v1, v2, v3, v4, v5, v6])] := by rw [← hx_]; exact ((OwnB.refl w).new #[v1, v2, v3, v4, v5, v6] _ (g := w.heap.size)).new #[.int .i64 0, .int .i64 0, .string ⟨#[]⟩, .slice none 0 0] _ (g := w.heap.size + 1)
 have hbn : Below w.heap.size w wo1 := by rw [← hx_]; exact ((Below.refl _ _).alloc (Nat.le_refl _) _).alloc (by simp) _
 have zwo1 : wo1.heap.size = w.heap.size + 2 := by rw [← hx_]; simp
 clear hx_
 have c0_0 := hP1.c 0 0
 have c0_1 := hP1.c 0 1
 have c0_2 := hP1.c 0 2
 have c0_3 := hP1.c 0 3
 have cf0 := hP1.fr 0
 have c1_0 := hP1.c 1 0
 have c1_1 := hP1.c 1 1
 have c1_2 := hP1.c 1 2
 have c1_3 := hP1.c 1 3
 have c1_4 := hP1.c 1 4
 have c1_5 := hP1.c 1 5
 have cf1 := hP1.fr 1
 clear hbn
 have hz : wo1.heap.size ≤ wo1.heap.size := Nat.le_refl _
 have hlt1 : w.heap.size + 1 < wo1.heap.size := hP1.lt 0
 clear zwo1
 have hO := hP1.drew
 have hz : wo1.heap.size ≤ wo1.drew.heap.size := Nat.le_refl _
 refine wp_region_held_drew (S := (fun w' => w'.cell? ⟨w.heap.size, 0, none⟩ = some (v1) ∧ w'.cell? ⟨w.heap.size, 1, none⟩ = some (v2) ∧ w'.cell? ⟨w.heap.size, 2, none⟩ = some (v3) ∧ w'.cell? ⟨w.heap.size, 3, none⟩ = some (v4) ∧ w'.cell? ⟨w.heap.size, 4, none⟩ = some (v5) ∧ w'.cell? ⟨w.heap.size, 5, none⟩ = some (v6))) (by kernel_rfl) ?_ (fun hHeld => ?_)
 ·(try dsimp only)
  exact ⟨hO.c 1 0, hO.c 1 1, hO.c 1 2, hO.c 1 3, hO.c 1 4, hO.c 1 5⟩
 generalize World.drew wo1 = vd at *
 refine tkY 0 (v := ?v48) rfl (.inl ⟨by rfl, ?hy48⟩) ?hr48
 case hy48 => (intro w hSw; (try dsimp only at hSw); go_simp; try with_reducible rfl)
 simp only [Act.put, Z1, Z2, Z4, Z5, Z6]
 refine tkY 1 (v := ?v49) rfl (.inl ⟨by rfl, ?hy49⟩) ?hr49
 case hy49 => (intro w hSw; (try dsimp only at hSw); go_simp; try with_reducible rfl)
 simp only [Act.put, Z1, Z2, Z3, Z4, Z5, Z6]
 refine tkY 3 (v := ?v50) rfl (.inl ⟨by rfl, ?hy50⟩) ?hr50
 case hy50 => (intro w hSw; (try dsimp only at hSw); go_simp; try with_reducible rfl)
 simp only [Act.put, Z1, Z2, Z3, Z4, Z5, Z6]
 refine tkY 4 (v := ?v51) rfl (.inl ⟨by rfl, ?hy51⟩) ?hr51
 case hy51 => (intro w hSw; (try dsimp only at hSw); go_simp; try with_reducible rfl)
 simp only [Act.put, Z1, Z2, Z3, Z4, Z5, Z6]
 refine tkY 6 (v := ?v52) rfl (.inl ⟨by rfl, ?hy52⟩) ?hr52
 case hy52 => (intro w hSw; (try dsimp only at hSw); go_simp; try with_reducible rfl)
 simp only [Act.put, Z1, Z2, Z3, Z4, Z5, Z6]
 refine tkY 7 (v := ?v53) rfl (.inl ⟨by rfl, ?hy53⟩) ?hr53
 case hy53 => (intro w hSw; (try dsimp only at hSw); go_simp; try with_reducible rfl)
 simp only [Act.put, Z1, Z2, Z3, Z4, Z5, Z6]
 refine tkY 9 (v := ?v54) rfl (.inl ⟨by rfl, ?hy54⟩) ?hr54
 case hy54 => (intro w hSw; (try dsimp only at hSw); go_simp; try with_reducible rfl)
 simp only [Act.put, Z1, Z2, Z3, Z4, Z5, Z6]
 refine tkY 10 (v := ?v55) rfl (.inl ⟨by rfl, ?hy55⟩) ?hr55
 case hy55 => (intro w hSw; (try dsimp only at hSw); go_simp; try with_reducible rfl)
 simp only [Act.put, Z1, Z2, Z3, Z4, Z5, Z6]
 refine tkY 12 (v := ?v56) rfl (.inl ⟨by rfl, ?hy56⟩) ?hr56
 case hy56 => (intro w hSw; (try dsimp only at hSw); go_simp; try with_reducible rfl)
 simp only [Act.put, Z1, Z2, Z3, Z4, Z5, Z6]
 refine tkY 13 (v := ?v57) rfl (.inl ⟨by rfl, ?hy57⟩) ?hr57
 case hy57 => (intro w hSw; (try dsimp only at hSw); go_simp; try with_reducible rfl)
 simp only [Act.put, Z1, Z2, Z3, Z4, Z5, Z6]
 refine tkY 15 (v := ?v58) rfl (.inl ⟨by rfl, ?hy58⟩) ?hr58
 case hy58 => (intro w hSw; (try dsimp only at hSw); go_simp; try with_reducible rfl)
 simp only [Act.put, Z1, Z2, Z3, Z4, Z5, Z6]
 refine tkY 16 (v := ?v59) rfl (.inl ⟨by rfl, ?hy59⟩) ?hr59
 case hy59 => (intro w hSw; (try dsimp only at hSw); go_simp; try with_reducible rfl)
 simp only [Act.put, Z1, Z2, Z3, Z4, Z5, Z6]
 refine wpAnyH_ready (rs := [2]) (by kernel_rfl) (by simp) ?_
 refine AllReadyH.cons rfl (fun K hK => ?_) AllReadyH.nil
 go_simp
 go_at_call 64
 refine (num_fc vd f1 v1 (Cod.int_ok.up q1 hO.below) s1).mono ?_
 rintro e z1 ⟨A1, c1, rfl, hF1, hbq⟩
 dsimp only
 replace hF1 := rf_lo hF1 hz
 replace hO := hO.kept hbq
 have hz_ := hz
 replace hz := Nat.le_trans hz hbq.size
 refine hK.out _ _ ?_ (fun hHeld => ?_)
 ·(try dsimp only)
  exact ⟨hO.c 1 0, hO.c 1 1, hO.c 1 2, hO.c 1 3, hO.c 1 4, hO.c 1 5⟩
 clear hK K
 try simp only [Act.put, Z1, Z2, Z3, Z4, Z5, Z6]
 refine wpAnyH_ready (rs := [5]) (by kernel_rfl) (by simp) ?_
 refine AllReadyH.cons rfl (fun K hK => ?_) AllReadyH.nil
 go_simp
 go_at_call 64
 refine (num_fc z1 f2 v2 (Cod.int_ok.up q2 hO.below) s2).mono ?_
 rintro e z2 ⟨A2, c2, rfl, hF2, hbq⟩
 dsimp only
 replace hF2 := rf_lo hF2 hz
 replace hF1 := rf_up hF1 hbq
 replace hO := hO.kept hbq
 have hz_ := hz
 replace hz := Nat.le_trans hz hbq.size
 refine hK.out _ _ ?_ (fun hHeld => ?_)
 ·(try dsimp only)
  exact ⟨hO.c 1 0, hO.c 1 1, hO.c 1 2, hO.c 1 3, hO.c 1 4, hO.c 1 5⟩
 clear hK K
 try simp only [Act.put, Z1, Z2, Z3, Z4, Z5, Z6]
 refine wpAnyH_ready (rs := [8]) (by kernel_rfl) (by simp) ?_
 refine AllReadyH.cons rfl (fun K hK => ?_) AllReadyH.nil
 go_simp
 go_at_call 113
 refine (outputs_fc z2 f3 v3 ((Cod.list_ok Cod.output_ok).up q3 hO.below) s3).mono ?_
 rintro e z3 ⟨A3, c3, rfl, hF3, hbq⟩
 dsimp only
 replace hF3 := rf_lo hF3 hz
 replace hF1 := rf_up hF1 hbq
 replace hF2 := rf_up hF2 hbq
 replace hO := hO.kept hbq
 have hz_ := hz
 replace hz := Nat.le_trans hz hbq.size
 refine hK.out _ _ ?_ (fun hHeld => ?_)
 ·(try dsimp only)
  exact ⟨hO.c 1 0, hO.c 1 1, hO.c 1 2, hO.c 1 3, hO.c 1 4, hO.c 1 5⟩
 clear hK K
 try simp only [Act.put, Z1, Z2, Z3, Z4, Z5, Z6]
 refine wpAnyH_ready (rs := [11]) (by kernel_rfl) (by simp) ?_
 refine AllReadyH.cons rfl (fun K hK => ?_) AllReadyH.nil
 go_simp
 go_at_call 113
 refine (outputs_fc z3 f4 v4 ((Cod.list_ok Cod.output_ok).up q4 hO.below) s4).mono ?_
 rintro e z4 ⟨A4, c4, rfl, hF4, hbq⟩
 dsimp only
 replace hF4 := rf_lo hF4 hz
 replace hF1 := rf_up hF1 hbq
 replace hF2 := rf_up hF2 hbq
 replace hF3 := rf_up hF3 hbq
 replace hO := hO.kept hbq
 have hz_ := hz
 replace hz := Nat.le_trans hz hbq.size
 refine hK.out _ _ ?_ (fun hHeld => ?_)
 ·(try dsimp only)
  exact ⟨hO.c 1 0, hO.c 1 1, hO.c 1 2, hO.c 1 3, hO.c 1 4, hO.c 1 5⟩
 clear hK K
 try simp only [Act.put, Z1, Z2, Z3, Z4, Z5, Z6]
 refine wpAnyH_ready (rs := [14]) (by kernel_rfl) (by simp) ?_
 refine AllReadyH.cons rfl (fun K hK => ?_) AllReadyH.nil
 go_simp
 go_at_call 114
 refine (tests_fc z4 f5 v5 ((Cod.list_ok Cod.test_ok).up q5 hO.below) s5).mono ?_
 rintro e z5 ⟨A5, c5, rfl, hF5, hbq⟩
 dsimp only
 replace hF5 := rf_lo hF5 hz
 replace hF1 := rf_up hF1 hbq
 replace hF2 := rf_up hF2 hbq
 replace hF3 := rf_up hF3 hbq
 replace hF4 := rf_up hF4 hbq
 replace hO := hO.kept hbq
 have hz_ := hz
 replace hz := Nat.le_trans hz hbq.size
 refine hK.out _ _ ?_ (fun hHeld => ?_)
 ·(try dsimp only)
  exact ⟨hO.c 1 0, hO.c 1 1, hO.c 1 2, hO.c 1 3, hO.c 1 4, hO.c 1 5⟩
 clear hK K
 try simp only [Act.put, Z1, Z2, Z3, Z4, Z5, Z6]
 refine wpAnyH_ready (rs := [17]) (by kernel_rfl) (by simp) ?_
 refine AllReadyH.cons rfl (fun K hK => ?_) AllReadyH.nil
 go_simp
 go_at_call 65
 refine (str_fc z5 f6 v6 (Cod.str_ok.up q6 hO.below) s6).mono ?_
 rintro e z6 ⟨A6, c6, rfl, hF6, hbq⟩
 dsimp only
 replace hF6 := rf_lo hF6 hz
 replace hF1 := rf_up hF1 hbq
 replace hF2 := rf_up hF2 hbq
 replace hF3 := rf_up hF3 hbq
 replace hF4 := rf_up hF4 hbq
 replace hF5 := rf_up hF5 hbq
 replace hO := hO.kept hbq
 have hz_ := hz
 replace hz := Nat.le_trans hz hbq.size
 refine hK.out _ _ ?_ (fun hHeld => ?_)
 ·(try dsimp only)
  exact ⟨hO.c 1 0, hO.c 1 1, hO.c 1 2, hO.c 1 3, hO.c 1 4, hO.c 1 5⟩
 clear hK K
 try simp only [Act.put, Z1, Z2, Z3, Z4, Z5, Z6]
 refine wpAnyH_ready (rs := [18]) (by kernel_rfl) (by simp) ?_
 refine AllReadyH.cons rfl (fun K hK => ?_) AllReadyH.nil
 go_simp
 generalize hx_ : World.alloc z6 _ = z7
 have hbq : Below z6.heap.size z6 z7 := by rw [← hx_]; exact (Below.refl _ _).alloc (Nat.le_refl _) _
 have hC : CellsAt z7 z6.heap.size (fC f1 A1 c1 ++ (fC f2 A2 c2 ++ (fC f3 A3 c3 ++ (fC f4 A4 c4 ++ (fC f5 A5 c5 ++ (fC f6 A6 c6 ++ ([]))))))) := by rw [← hx_]; exact CellsAt.new z6 _ _
 clear hx_
 replace hF1 := rf_up hF1 hbq
 replace hF2 := rf_up hF2 hbq
 replace hF3 := rf_up hF3 hbq
 replace hF4 := rf_up hF4 hbq
 replace hF5 := rf_up hF5 hbq
 replace hF6 := rf_up hF6 hbq
 replace hO := hO.kept hbq
 have hz_ := hz
 replace hz := Nat.le_trans hz hbq.size
 have hL := rl_cons hF1 (rl_cons hF2 (rl_cons hF3 (rl_cons hF4 (rl_cons hF5 (rl_cons hF6 (rl_nil))))))
 have hFR := seq_of hC hz_ hL (n := 6) rfl
 clear hC hL hF1 hF2 hF3 hF4 hF5 hF6
 refine hK.out _ _ ?_ (fun hHeld => ?_)
 ·(try dsimp only)
  exact ⟨hO.c 1 0, hO.c 1 1, hO.c 1 2, hO.c 1 3, hO.c 1 4, hO.c 1 5⟩
 clear hK K
 try simp only [Act.put, Z1, Z2, Z3, Z4, Z5, Z6]
 refine wpAnyH_ready (rs := [19]) (by kernel_rfl) (by simp) ?_
 refine AllReadyH.cons rfl (fun K hK => ?_) AllReadyH.nil
 go_simp
 go_at_call 39
 refine (seq_any _ _ _ _).mono ?_
 rintro e z8 ⟨rfl, hbq⟩
 dsimp only
 replace hFR := rf_up hFR hbq
 replace hO := hO.kept hbq
 have hz_ := hz
 replace hz := Nat.le_trans hz hbq.size
 refine hK.out _ _ ?_ (fun hHeld => ?_)
 ·(try dsimp only)
  exact ⟨hO.c 1 0, hO.c 1 1, hO.c 1 2, hO.c 1 3, hO.c 1 4, hO.c 1 5⟩
 clear hK K
 try simp only [Act.put, Z1, Z2, Z3, Z4, Z5, Z6]
 refine wpAnyH_ready (rs := [20]) (by kernel_rfl) (by simp) ?_
 refine AllReadyH.cons rfl (fun K hK => ?_) AllReadyH.nil
 have y0 := hO.c 0 0
 have y1 := hO.c 0 1
 have y2 := hO.c 0 2
 have y3 := hO.c 0 3
 have yf := hO.fr 0
 go_simp
 clear y0 y1 y2 y3 yf
 have hO9 := (((hO.store 0 rfl 0 (.int .i64 2)).store 0 rfl 1 (.int .i64 0)).store 0 rfl 2 (.string ⟨#[]⟩)).store 0 rfl 3 (.slice (some ⟨z6.heap.size, 0, none⟩) 6 6)
 have h9 := far4g z8 (w.heap.size + 1) (.int .i64 2) (.int .i64 0) (.string ⟨#[]⟩) (.slice (some ⟨z6.heap.size, 0, none⟩) 6 6)
 generalize World.setCell (World.setCell (World.setCell (World.setCell z8 _ _) _ _) _ _) _ _ = w9 at *
 refine hK.out _ _ ?_ (fun hHeld => ?_)
 ·(try dsimp only)
  exact ⟨hO9.c 1 0, hO9.c 1 1, hO9.c 1 2, hO9.c 1 3, hO9.c 1 4, hO9.c 1 5⟩
 clear hK K
 try simp only [Act.put, Z1, Z2, Z3, Z4, Z5, Z6]
 refine wpAnyH_done (by kernel_rfl) ?_ _
 clear hHeld
 have y0 := hO9.c 0 0
 have y1 := hO9.c 0 1
 have y2 := hO9.c 0 2
 have y3 := hO9.c 0 3
 replace hFR := rf_far (w := w) hFR hlt1 (Nat.le_of_lt (Nat.lt_of_succ_lt hlt1)) h9
 repeat' (first | go_skip | go_guarded | go_step)
 refine bodyPost_ret (v := .agg #[.int .i64 2, .int .i64 0, .string ⟨#[]⟩, .slice (some ⟨z6.heap.size, 0, none⟩) 6 6]) (by simp only [results, Tryz.results69]; go_simp; first | done | exact ⟨rfl, rfl, rfl⟩ | rfl) rfl ?_
 exact ⟨some ⟨z6.heap.size, 0, none⟩, 6, rfl, hFR, hO9.below⟩
theorem machine_fc : FormS 70 Cod.machine := by
 intro w f cs hr hs
 obtain ⟨fs, rfl, hr⟩ := hr
 obtain ⟨f1, r1, k1, d1, rfl, rfl, q1, hr⟩ := hr
 obtain ⟨f2, r2, k2, d2, rfl, rfl, q2, hr⟩ := hr
 obtain ⟨f3, r3, k3, d3, rfl, rfl, q3, hr⟩ := hr
 obtain ⟨f4, r4, k4, d4, rfl, rfl, q4, hr⟩ := hr
 obtain ⟨f5, r5, k5, d5, rfl, rfl, q5, hr⟩ := hr
 obtain ⟨f6, r6, k6, d6, rfl, rfl, q6, hr⟩ := hr
 obtain ⟨f7, r7, k7, d7, rfl, rfl, q7, hr⟩ := hr
 obtain ⟨f8, r8, k8, d8, rfl, rfl, q8, hr⟩ := hr
 obtain ⟨f9, r9, k9, d9, rfl, rfl, q9, hr⟩ := hr
 obtain ⟨rfl, rfl⟩ := hr
 rw [fsz_fL] at hs
 have s1 : fsz f1 ≤ 1000000000 := by have := fsz_mem (l := [f1, f2, f3, f4, f5, f6, f7, f8, f9]) (f := f1) (by simp); omega
 have s2 : fsz f2 ≤ 1000000000 := by have := fsz_mem (l := [f1, f2, f3, f4, f5, f6, f7, f8, f9]) (f := f2) (by simp); omega
 have s3 : fsz f3 ≤ 1000000000 := by have := fsz_mem (l := [f1, f2, f3, f4, f5, f6, f7, f8, f9]) (f := f3) (by simp); omega
 have s4 : fsz f4 ≤ 1000000000 := by have := fsz_mem (l := [f1, f2, f3, f4, f5, f6, f7, f8, f9]) (f := f4) (by simp); omega
 have s5 : fsz f5 ≤ 1000000000 := by have := fsz_mem (l := [f1, f2, f3, f4, f5, f6, f7, f8, f9]) (f := f5) (by simp); omega
 have s6 : fsz f6 ≤ 1000000000 := by have := fsz_mem (l := [f1, f2, f3, f4, f5, f6, f7, f8, f9]) (f := f6) (by simp); omega
 have s7 : fsz f7 ≤ 1000000000 := by have := fsz_mem (l := [f1, f2, f3, f4, f5, f6, f7, f8, f9]) (f := f7) (by simp); omega
 have s8 : fsz f8 ≤ 1000000000 := by have := fsz_mem (l := [f1, f2, f3, f4, f5, f6, f7, f8, f9]) (f := f8) (by simp); omega
 have s9 : fsz f9 ≤ 1000000000 := by have := fsz_mem (l := [f1, f2, f3, f4, f5, f6, f7, f8, f9]) (f := f9) (by simp); omega
 obtain ⟨v1, rfl⟩ := one_list (Cod.str_ok.len q1)
 obtain ⟨v2, rfl⟩ := one_list (Cod.strs_ok.len q2)
 obtain ⟨v3, rfl⟩ := one_list (Cod.int_ok.len q3)
 obtain ⟨v4, rfl⟩ := one_list (Cod.int_ok.len q4)
 obtain ⟨v5, rfl⟩ := one_list (Cod.flag_ok.len q5)
 obtain ⟨v6, rfl⟩ := one_list (Cod.int_ok.len q6)
 obtain ⟨v7, rfl⟩ := one_list (Cod.int_ok.len q7)
 obtain ⟨v8, rfl⟩ := one_list (Cod.int_ok.len q8)
 obtain ⟨v9, rfl⟩ := one_list (Cod.ints_ok.len q9)
 show Calls _ _ #[.agg #[v1, v2, v3, v4, v5, v6, v7, v8, v9]] _ _
 go_enter Tryz.func70, Tryz.ntmps70
 go_upto_region 1 with (fail)
 generalize hx_ : World.alloc (World.alloc w _) _ = wo1
 have hP1 : OwnB w wo1 [(w.heap.size + 1, [.int .i64 0, .int .i64 0, .string ⟨#[]⟩, .slice none 0 0]), (w.heap.size, [v1, v2, v3, v4, v5, v6, v7, v8, v9])] := by rw [← hx_]; exact ((OwnB.refl w).new #[v1, v2, v3, v4, v5, v6, v7, v8, v9] _ (g := w.heap.size)).new #[.int .i64 0, .int .i64 0, .string ⟨#[]⟩, .slice none 0 0] _ (g := w.heap.size + 1)
 have hbn : Below w.heap.size w wo1 := by rw [← hx_]; exact ((Below.refl _ _).alloc (Nat.le_refl _) _).alloc (by simp) _
 have zwo1 : wo1.heap.size = w.heap.size + 2 := by rw [← hx_]; simp
 clear hx_
 have c0_0 := hP1.c 0 0
 have c0_1 := hP1.c 0 1
 have c0_2 := hP1.c 0 2
 have c0_3 := hP1.c 0 3
 have cf0 := hP1.fr 0
 have c1_0 := hP1.c 1 0
 have c1_1 := hP1.c 1 1
 have c1_2 := hP1.c 1 2
 have c1_3 := hP1.c 1 3
 have c1_4 := hP1.c 1 4
 have c1_5 := hP1.c 1 5
 have c1_6 := hP1.c 1 6
 have c1_7 := hP1.c 1 7
 have c1_8 := hP1.c 1 8
 have cf1 := hP1.fr 1
 clear hbn
 have hz : wo1.heap.size ≤ wo1.heap.size := Nat.le_refl _
 have hlt1 : w.heap.size + 1 < wo1.heap.size := hP1.lt 0
 clear zwo1
 have hO := hP1.drew
 have hz : wo1.heap.size ≤ wo1.drew.heap.size := Nat.le_refl _
 refine wp_region_held_drew (S := (fun w' => w'.cell? ⟨w.heap.size, 0, none⟩ = some (v1) ∧ w'.cell? ⟨w.heap.size, 1, none⟩ = some (v2) ∧ w'.cell? ⟨w.heap.size, 2, none⟩ = some (v3) ∧ w'.cell? ⟨w.heap.size, 3, none⟩ = some (v4) ∧ w'.cell? ⟨w.heap.size, 4, none⟩ = some (v5) ∧ w'.cell? ⟨w.heap.size, 5, none⟩ = some (v6) ∧ w'.cell? ⟨w.heap.size, 6, none⟩ = some (v7) ∧ w'.cell? ⟨w.heap.size, 7, none⟩ = some (v8) ∧ w'.cell? ⟨w.heap.size, 8, none⟩ = some (v9))) (by kernel_rfl) ?_ (fun hHeld => ?_)
 ·(try dsimp only)
  exact ⟨hO.c 1 0, hO.c 1 1, hO.c 1 2, hO.c 1 3, hO.c 1 4, hO.c 1 5, hO.c 1 6, hO.c 1 7, hO.c 1 8⟩
 generalize World.drew wo1 = vd at *
 refine tkY 0 (v := ?v60) rfl (.inl ⟨by rfl, ?hy60⟩) ?hr60
 case hy60 => (intro w hSw; (try dsimp only at hSw); go_simp; try with_reducible rfl)
 simp only [Act.put, Z1, Z2, Z4, Z5, Z6]
 refine tkY 1 (v := ?v61) rfl (.inl ⟨by rfl, ?hy61⟩) ?hr61
 case hy61 => (intro w hSw; (try dsimp only at hSw); go_simp; try with_reducible rfl)
 simp only [Act.put, Z1, Z2, Z3, Z4, Z5, Z6]
 refine tkY 3 (v := ?v62) rfl (.inl ⟨by rfl, ?hy62⟩) ?hr62
 case hy62 => (intro w hSw; (try dsimp only at hSw); go_simp; try with_reducible rfl)
 simp only [Act.put, Z1, Z2, Z3, Z4, Z5, Z6]
 refine tkY 4 (v := ?v63) rfl (.inl ⟨by rfl, ?hy63⟩) ?hr63
 case hy63 => (intro w hSw; (try dsimp only at hSw); go_simp; try with_reducible rfl)
 simp only [Act.put, Z1, Z2, Z3, Z4, Z5, Z6]
 refine tkY 6 (v := ?v64) rfl (.inl ⟨by rfl, ?hy64⟩) ?hr64
 case hy64 => (intro w hSw; (try dsimp only at hSw); go_simp; try with_reducible rfl)
 simp only [Act.put, Z1, Z2, Z3, Z4, Z5, Z6]
 refine tkY 7 (v := ?v65) rfl (.inl ⟨by rfl, ?hy65⟩) ?hr65
 case hy65 => (intro w hSw; (try dsimp only at hSw); go_simp; try with_reducible rfl)
 simp only [Act.put, Z1, Z2, Z3, Z4, Z5, Z6]
 refine tkY 9 (v := ?v66) rfl (.inl ⟨by rfl, ?hy66⟩) ?hr66
 case hy66 => (intro w hSw; (try dsimp only at hSw); go_simp; try with_reducible rfl)
 simp only [Act.put, Z1, Z2, Z3, Z4, Z5, Z6]
 refine tkY 10 (v := ?v67) rfl (.inl ⟨by rfl, ?hy67⟩) ?hr67
 case hy67 => (intro w hSw; (try dsimp only at hSw); go_simp; try with_reducible rfl)
 simp only [Act.put, Z1, Z2, Z3, Z4, Z5, Z6]
 refine tkY 12 (v := ?v68) rfl (.inl ⟨by rfl, ?hy68⟩) ?hr68
 case hy68 => (intro w hSw; (try dsimp only at hSw); go_simp; try with_reducible rfl)
 simp only [Act.put, Z1, Z2, Z3, Z4, Z5, Z6]
 refine tkY 13 (v := ?v69) rfl (.inl ⟨by rfl, ?hy69⟩) ?hr69
 case hy69 => (intro w hSw; (try dsimp only at hSw); go_simp; try with_reducible rfl)
 simp only [Act.put, Z1, Z2, Z3, Z4, Z5, Z6]
 refine tkY 15 (v := ?v70) rfl (.inl ⟨by rfl, ?hy70⟩) ?hr70
 case hy70 => (intro w hSw; (try dsimp only at hSw); go_simp; try with_reducible rfl)
 simp only [Act.put, Z1, Z2, Z3, Z4, Z5, Z6]
 refine tkY 16 (v := ?v71) rfl (.inl ⟨by rfl, ?hy71⟩) ?hr71
 case hy71 => (intro w hSw; (try dsimp only at hSw); go_simp; try with_reducible rfl)
 simp only [Act.put, Z1, Z2, Z3, Z4, Z5, Z6]
 refine tkY 18 (v := ?v72) rfl (.inl ⟨by rfl, ?hy72⟩) ?hr72
 case hy72 => (intro w hSw; (try dsimp only at hSw); go_simp; try with_reducible rfl)
 simp only [Act.put, Z1, Z2, Z3, Z4, Z5, Z6]
 refine tkY 19 (v := ?v73) rfl (.inl ⟨by rfl, ?hy73⟩) ?hr73
 case hy73 => (intro w hSw; (try dsimp only at hSw); go_simp; try with_reducible rfl)
 simp only [Act.put, Z1, Z2, Z3, Z4, Z5, Z6]
 refine tkY 21 (v := ?v74) rfl (.inl ⟨by rfl, ?hy74⟩) ?hr74
 case hy74 => (intro w hSw; (try dsimp only at hSw); go_simp; try with_reducible rfl)
 simp only [Act.put, Z1, Z2, Z3, Z4, Z5, Z6]
 refine tkY 22 (v := ?v75) rfl (.inl ⟨by rfl, ?hy75⟩) ?hr75
 case hy75 => (intro w hSw; (try dsimp only at hSw); go_simp; try with_reducible rfl)
 simp only [Act.put, Z1, Z2, Z3, Z4, Z5, Z6]
 refine tkY 24 (v := ?v76) rfl (.inl ⟨by rfl, ?hy76⟩) ?hr76
 case hy76 => (intro w hSw; (try dsimp only at hSw); go_simp; try with_reducible rfl)
 simp only [Act.put, Z1, Z2, Z3, Z4, Z5, Z6]
 refine tkY 25 (v := ?v77) rfl (.inl ⟨by rfl, ?hy77⟩) ?hr77
 case hy77 => (intro w hSw; (try dsimp only at hSw); go_simp; try with_reducible rfl)
 simp only [Act.put, Z1, Z2, Z3, Z4, Z5, Z6]
 refine wpAnyH_ready (rs := [2]) (by kernel_rfl) (by simp) ?_
 refine AllReadyH.cons rfl (fun K hK => ?_) AllReadyH.nil
 go_simp
 go_at_call 65
 refine (str_fc vd f1 v1 (Cod.str_ok.up q1 hO.below) s1).mono ?_
 rintro e z1 ⟨A1, c1, rfl, hF1, hbq⟩
 dsimp only
 replace hF1 := rf_lo hF1 hz
 replace hO := hO.kept hbq
 have hz_ := hz
 replace hz := Nat.le_trans hz hbq.size
 refine hK.out _ _ ?_ (fun hHeld => ?_)
 ·(try dsimp only)
  exact ⟨hO.c 1 0, hO.c 1 1, hO.c 1 2, hO.c 1 3, hO.c 1 4, hO.c 1 5, hO.c 1 6, hO.c 1 7, hO.c 1 8⟩
 clear hK K
 try simp only [Act.put, Z1, Z2, Z3, Z4, Z5, Z6]
 refine wpAnyH_ready (rs := [5]) (by kernel_rfl) (by simp) ?_
 refine AllReadyH.cons rfl (fun K hK => ?_) AllReadyH.nil
 go_simp
 go_at_call 115
 refine (strs_fc z1 f2 v2 (Cod.strs_ok.up q2 hO.below) s2).mono ?_
 rintro e z2 ⟨A2, c2, rfl, hF2, hbq⟩
 dsimp only
 replace hF2 := rf_lo hF2 hz
 replace hF1 := rf_up hF1 hbq
 replace hO := hO.kept hbq
 have hz_ := hz
 replace hz := Nat.le_trans hz hbq.size
 refine hK.out _ _ ?_ (fun hHeld => ?_)
 ·(try dsimp only)
  exact ⟨hO.c 1 0, hO.c 1 1, hO.c 1 2, hO.c 1 3, hO.c 1 4, hO.c 1 5, hO.c 1 6, hO.c 1 7, hO.c 1 8⟩
 clear hK K
 try simp only [Act.put, Z1, Z2, Z3, Z4, Z5, Z6]
 refine wpAnyH_ready (rs := [8]) (by kernel_rfl) (by simp) ?_
 refine AllReadyH.cons rfl (fun K hK => ?_) AllReadyH.nil
 go_simp
 go_at_call 64
 refine (num_fc z2 f3 v3 (Cod.int_ok.up q3 hO.below) s3).mono ?_
 rintro e z3 ⟨A3, c3, rfl, hF3, hbq⟩
 dsimp only
 replace hF3 := rf_lo hF3 hz
 replace hF1 := rf_up hF1 hbq
 replace hF2 := rf_up hF2 hbq
 replace hO := hO.kept hbq
 have hz_ := hz
 replace hz := Nat.le_trans hz hbq.size
 refine hK.out _ _ ?_ (fun hHeld => ?_)
 ·(try dsimp only)
  exact ⟨hO.c 1 0, hO.c 1 1, hO.c 1 2, hO.c 1 3, hO.c 1 4, hO.c 1 5, hO.c 1 6, hO.c 1 7, hO.c 1 8⟩
 clear hK K
 try simp only [Act.put, Z1, Z2, Z3, Z4, Z5, Z6]
 refine wpAnyH_ready (rs := [11]) (by kernel_rfl) (by simp) ?_
 refine AllReadyH.cons rfl (fun K hK => ?_) AllReadyH.nil
 go_simp
 go_at_call 64
 refine (num_fc z3 f4 v4 (Cod.int_ok.up q4 hO.below) s4).mono ?_
 rintro e z4 ⟨A4, c4, rfl, hF4, hbq⟩
 dsimp only
 replace hF4 := rf_lo hF4 hz
 replace hF1 := rf_up hF1 hbq
 replace hF2 := rf_up hF2 hbq
 replace hF3 := rf_up hF3 hbq
 replace hO := hO.kept hbq
 have hz_ := hz
 replace hz := Nat.le_trans hz hbq.size
 refine hK.out _ _ ?_ (fun hHeld => ?_)
 ·(try dsimp only)
  exact ⟨hO.c 1 0, hO.c 1 1, hO.c 1 2, hO.c 1 3, hO.c 1 4, hO.c 1 5, hO.c 1 6, hO.c 1 7, hO.c 1 8⟩
 clear hK K
 try simp only [Act.put, Z1, Z2, Z3, Z4, Z5, Z6]
 refine wpAnyH_ready (rs := [14]) (by kernel_rfl) (by simp) ?_
 refine AllReadyH.cons rfl (fun K hK => ?_) AllReadyH.nil
 go_simp
 go_at_call 111
 refine (flag_fc z4 f5 v5 (Cod.flag_ok.up q5 hO.below) s5).mono ?_
 rintro e z5 ⟨A5, c5, rfl, hF5, hbq⟩
 dsimp only
 replace hF5 := rf_lo hF5 hz
 replace hF1 := rf_up hF1 hbq
 replace hF2 := rf_up hF2 hbq
 replace hF3 := rf_up hF3 hbq
 replace hF4 := rf_up hF4 hbq
 replace hO := hO.kept hbq
 have hz_ := hz
 replace hz := Nat.le_trans hz hbq.size
 refine hK.out _ _ ?_ (fun hHeld => ?_)
 ·(try dsimp only)
  exact ⟨hO.c 1 0, hO.c 1 1, hO.c 1 2, hO.c 1 3, hO.c 1 4, hO.c 1 5, hO.c 1 6, hO.c 1 7, hO.c 1 8⟩
 clear hK K
 try simp only [Act.put, Z1, Z2, Z3, Z4, Z5, Z6]
 refine wpAnyH_ready (rs := [17]) (by kernel_rfl) (by simp) ?_
 refine AllReadyH.cons rfl (fun K hK => ?_) AllReadyH.nil
 go_simp
 go_at_call 64
 refine (num_fc z5 f6 v6 (Cod.int_ok.up q6 hO.below) s6).mono ?_
 rintro e z6 ⟨A6, c6, rfl, hF6, hbq⟩
 dsimp only
 replace hF6 := rf_lo hF6 hz
 replace hF1 := rf_up hF1 hbq
 replace hF2 := rf_up hF2 hbq
 replace hF3 := rf_up hF3 hbq
 replace hF4 := rf_up hF4 hbq
 replace hF5 := rf_up hF5 hbq
 replace hO := hO.kept hbq
 have hz_ := hz
 replace hz := Nat.le_trans hz hbq.size
 refine hK.out _ _ ?_ (fun hHeld => ?_)
 ·(try dsimp only)
  exact ⟨hO.c 1 0, hO.c 1 1, hO.c 1 2, hO.c 1 3, hO.c 1 4, hO.c 1 5, hO.c 1 6, hO.c 1 7, hO.c 1 8⟩
 clear hK K
 try simp only [Act.put, Z1, Z2, Z3, Z4, Z5, Z6]
 refine wpAnyH_ready (rs := [20]) (by kernel_rfl) (by simp) ?_
 refine AllReadyH.cons rfl (fun K hK => ?_) AllReadyH.nil
 go_simp
 go_at_call 64
 refine (num_fc z6 f7 v7 (Cod.int_ok.up q7 hO.below) s7).mono ?_
 rintro e z7 ⟨A7, c7, rfl, hF7, hbq⟩
 dsimp only
 replace hF7 := rf_lo hF7 hz
 replace hF1 := rf_up hF1 hbq
 replace hF2 := rf_up hF2 hbq
 replace hF3 := rf_up hF3 hbq
 replace hF4 := rf_up hF4 hbq
 replace hF5 := rf_up hF5 hbq
 replace hF6 := rf_up hF6 hbq
 replace hO := hO.kept hbq
 have hz_ := hz
 replace hz := Nat.le_trans hz hbq.size
 refine hK.out _ _ ?_ (fun hHeld => ?_)
 ·(try dsimp only)
  exact ⟨hO.c 1 0, hO.c 1 1, hO.c 1 2, hO.c 1 3, hO.c 1 4, hO.c 1 5, hO.c 1 6, hO.c 1 7, hO.c 1 8⟩
 clear hK K
 try simp only [Act.put, Z1, Z2, Z3, Z4, Z5, Z6]
 refine wpAnyH_ready (rs := [23]) (by kernel_rfl) (by simp) ?_
 refine AllReadyH.cons rfl (fun K hK => ?_) AllReadyH.nil
 go_simp
 go_at_call 64
 refine (num_fc z7 f8 v8 (Cod.int_ok.up q8 hO.below) s8).mono ?_
 rintro e z8 ⟨A8, c8, rfl, hF8, hbq⟩
 dsimp only
 replace hF8 := rf_lo hF8 hz
 replace hF1 := rf_up hF1 hbq
 replace hF2 := rf_up hF2 hbq
 replace hF3 := rf_up hF3 hbq
 replace hF4 := rf_up hF4 hbq
 replace hF5 := rf_up hF5 hbq
 replace hF6 := rf_up hF6 hbq
 replace hF7 := rf_up hF7 hbq
 replace hO := hO.kept hbq
 have hz_ := hz
 replace hz := Nat.le_trans hz hbq.size
 refine hK.out _ _ ?_ (fun hHeld => ?_)
 ·(try dsimp only)
  exact ⟨hO.c 1 0, hO.c 1 1, hO.c 1 2, hO.c 1 3, hO.c 1 4, hO.c 1 5, hO.c 1 6, hO.c 1 7, hO.c 1 8⟩
 clear hK K
 try simp only [Act.put, Z1, Z2, Z3, Z4, Z5, Z6]
 refine wpAnyH_ready (rs := [26]) (by kernel_rfl) (by simp) ?_
 refine AllReadyH.cons rfl (fun K hK => ?_) AllReadyH.nil
 go_simp
 go_at_call 116
 refine (ints_fc z8 f9 v9 (Cod.ints_ok.up q9 hO.below) s9).mono ?_
 rintro e z9 ⟨A9, c9, rfl, hF9, hbq⟩
 dsimp only
 replace hF9 := rf_lo hF9 hz
 replace hF1 := rf_up hF1 hbq
 replace hF2 := rf_up hF2 hbq
 replace hF3 := rf_up hF3 hbq
 replace hF4 := rf_up hF4 hbq
 replace hF5 := rf_up hF5 hbq
 replace hF6 := rf_up hF6 hbq
 replace hF7 := rf_up hF7 hbq
 replace hF8 := rf_up hF8 hbq
 replace hO := hO.kept hbq
 have hz_ := hz
 replace hz := Nat.le_trans hz hbq.size
 refine hK.out _ _ ?_ (fun hHeld => ?_)
 ·(try dsimp only)
  exact ⟨hO.c 1 0, hO.c 1 1, hO.c 1 2, hO.c 1 3, hO.c 1 4, hO.c 1 5, hO.c 1 6, hO.c 1 7, hO.c 1 8⟩
 clear hK K
 try simp only [Act.put, Z1, Z2, Z3, Z4, Z5, Z6]
 refine wpAnyH_ready (rs := [27]) (by kernel_rfl) (by simp) ?_
 refine AllReadyH.cons rfl (fun K hK => ?_) AllReadyH.nil
 go_simp
 generalize hx_ : World.alloc z9 _ = z10
 have hbq : Below z9.heap.size z9 z10 := by rw [← hx_]; exact (Below.refl _ _).alloc (Nat.le_refl _) _
 have hC : CellsAt z10 z9.heap.size (fC f1 A1 c1 ++ (fC f2 A2 c2 ++ (fC f3 A3 c3 ++ (fC f4 A4 c4 ++ (fC f5 A5 c5 ++ (fC f6 A6 c6 ++ (fC f7 A7 c7 ++ (fC f8 A8 c8 ++ (fC f9 A9 c9 ++ ([])))))))))) := by rw [← hx_]; exact CellsAt.new z9 _ _
 clear hx_
 replace hF1 := rf_up hF1 hbq
 replace hF2 := rf_up hF2 hbq
 replace hF3 := rf_up hF3 hbq
 replace hF4 := rf_up hF4 hbq
 replace hF5 := rf_up hF5 hbq
 replace hF6 := rf_up hF6 hbq
 replace hF7 := rf_up hF7 hbq
 replace hF8 := rf_up hF8 hbq
 replace hF9 := rf_up hF9 hbq
 replace hO := hO.kept hbq
 have hz_ := hz
 replace hz := Nat.le_trans hz hbq.size
 have hL := rl_cons hF1 (rl_cons hF2 (rl_cons hF3 (rl_cons hF4 (rl_cons hF5 (rl_cons hF6 (rl_cons hF7 (rl_cons hF8 (rl_cons hF9 (rl_nil)))))))))
 have hFR := seq_of hC hz_ hL (n := 9) rfl
 clear hC hL hF1 hF2 hF3 hF4 hF5 hF6 hF7 hF8 hF9
 refine hK.out _ _ ?_ (fun hHeld => ?_)
 ·(try dsimp only)
  exact ⟨hO.c 1 0, hO.c 1 1, hO.c 1 2, hO.c 1 3, hO.c 1 4, hO.c 1 5, hO.c 1 6, hO.c 1 7, hO.c 1 8⟩
 clear hK K
 try simp only [Act.put, Z1, Z2, Z3, Z4, Z5, Z6]
 refine wpAnyH_ready (rs := [28]) (by kernel_rfl) (by simp) ?_
 refine AllReadyH.cons rfl (fun K hK => ?_) AllReadyH.nil
 go_simp
 go_at_call 39
 refine (seq_any _ _ _ _).mono ?_
 rintro e z11 ⟨rfl, hbq⟩
 dsimp only
 replace hFR := rf_up hFR hbq
 replace hO := hO.kept hbq
 have hz_ := hz
 replace hz := Nat.le_trans hz hbq.size
 refine hK.out _ _ ?_ (fun hHeld => ?_)
 ·(try dsimp only)
  exact ⟨hO.c 1 0, hO.c 1 1, hO.c 1 2, hO.c 1 3, hO.c 1 4, hO.c 1 5, hO.c 1 6, hO.c 1 7, hO.c 1 8⟩
 clear hK K
 try simp only [Act.put, Z1, Z2, Z3, Z4, Z5, Z6]
 refine wpAnyH_ready (rs := [29]) (by kernel_rfl) (by simp) ?_
 refine AllReadyH.cons rfl (fun K hK => ?_) AllReadyH.nil
 have y0 := hO.c 0 0
 have y1 := hO.c 0 1
 have y2 := hO.c 0 2
 have y3 := hO.c 0 3
 have yf := hO.fr 0
 go_simp
 clear y0 y1 y2 y3 yf
 have hO9 := (((hO.store 0 rfl 0 (.int .i64 2)).store 0 rfl 1 (.int .i64 0)).store 0 rfl 2 (.string ⟨#[]⟩)).store 0 rfl 3 (.slice (some ⟨z9.heap.size, 0, none⟩) 9 9)
 have h9 := far4g z11 (w.heap.size + 1) (.int .i64 2) (.int .i64 0) (.string ⟨#[]⟩) (.slice (some ⟨z9.heap.size, 0, none⟩) 9 9)
 generalize World.setCell (World.setCell (World.setCell (World.setCell z11 _ _) _ _) _ _) _ _ = w9 at *
 refine hK.out _ _ ?_ (fun hHeld => ?_)
 ·(try dsimp only)
  exact ⟨hO9.c 1 0, hO9.c 1 1, hO9.c 1 2, hO9.c 1 3, hO9.c 1 4, hO9.c 1 5, hO9.c 1 6, hO9.c 1 7, hO9.c 1 8⟩
 clear hK K
 try simp only [Act.put, Z1, Z2, Z3, Z4, Z5, Z6]
 refine wpAnyH_done (by kernel_rfl) ?_ _
 clear hHeld
 have y0 := hO9.c 0 0
 have y1 := hO9.c 0 1
 have y2 := hO9.c 0 2
 have y3 := hO9.c 0 3
 replace hFR := rf_far (w := w) hFR hlt1 (Nat.le_of_lt (Nat.lt_of_succ_lt hlt1)) h9
 repeat' (first | go_skip | go_guarded | go_step)
 refine bodyPost_ret (v := .agg #[.int .i64 2, .int .i64 0, .string ⟨#[]⟩, .slice (some ⟨z9.heap.size, 0, none⟩) 9 9]) (by simp only [results, Tryz.results70]; go_simp; first | done | exact ⟨rfl, rfl, rfl⟩ | rfl) rfl ?_
 exact ⟨some ⟨z9.heap.size, 0, none⟩, 9, rfl, hFR, hO9.below⟩
theorem secret_fc : FormS 71 Cod.secret := by
 intro w f cs hr hs
 obtain ⟨fs, rfl, hr⟩ := hr
 obtain ⟨f1, r1, k1, d1, rfl, rfl, q1, hr⟩ := hr
 obtain ⟨f2, r2, k2, d2, rfl, rfl, q2, hr⟩ := hr
 obtain ⟨f3, r3, k3, d3, rfl, rfl, q3, hr⟩ := hr
 obtain ⟨f4, r4, k4, d4, rfl, rfl, q4, hr⟩ := hr
 obtain ⟨f5, r5, k5, d5, rfl, rfl, q5, hr⟩ := hr
 obtain ⟨rfl, rfl⟩ := hr
 rw [fsz_fL] at hs
 have s1 : fsz f1 ≤ 1000000000 := by have := fsz_mem (l := [f1, f2, f3, f4, f5]) (f := f1) (by simp); omega
 have s2 : fsz f2 ≤ 1000000000 := by have := fsz_mem (l := [f1, f2, f3, f4, f5]) (f := f2) (by simp); omega
 have s3 : fsz f3 ≤ 1000000000 := by have := fsz_mem (l := [f1, f2, f3, f4, f5]) (f := f3) (by simp); omega
 have s4 : fsz f4 ≤ 1000000000 := by have := fsz_mem (l := [f1, f2, f3, f4, f5]) (f := f4) (by simp); omega
 have s5 : fsz f5 ≤ 1000000000 := by have := fsz_mem (l := [f1, f2, f3, f4, f5]) (f := f5) (by simp); omega
 obtain ⟨v1, rfl⟩ := one_list (Cod.str_ok.len q1)
 obtain ⟨v2, rfl⟩ := one_list (Cod.str_ok.len q2)
 obtain ⟨v3, rfl⟩ := one_list (Cod.int_ok.len q3)
 obtain ⟨v4, rfl⟩ := one_list (Cod.strs_ok.len q4)
 obtain ⟨v5, rfl⟩ := one_list (Cod.strs_ok.len q5)
 show Calls _ _ #[.agg #[v1, v2, v3, v4, v5]] _ _
 go_enter Tryz.func71, Tryz.ntmps71
 go_upto_region 1 with (fail)
 generalize hx_ : World.alloc (World.alloc w _) _ = wo1
 have hP1 : OwnB w wo1 [(w.heap.size + 1, [.int .i64 0, .int .i64 0, .string ⟨#[]⟩, .slice none 0 0]), (w.heap.size, [v1, v2, v3, v4, v5])] := by rw [← hx_]; exact ((OwnB.refl w).new #[v1, v2, v3, v4, v5] _ (g := w.heap.size)).new #[.int .i64 0, .int .i64 0, .string ⟨#[]⟩, .slice none 0 0] _ (g := w.heap.size + 1)
 have hbn : Below w.heap.size w wo1 := by rw [← hx_]; exact ((Below.refl _ _).alloc (Nat.le_refl _) _).alloc (by simp) _
 have zwo1 : wo1.heap.size = w.heap.size + 2 := by rw [← hx_]; simp
 clear hx_
 have c0_0 := hP1.c 0 0
 have c0_1 := hP1.c 0 1
 have c0_2 := hP1.c 0 2
 have c0_3 := hP1.c 0 3
 have cf0 := hP1.fr 0
 have c1_0 := hP1.c 1 0
 have c1_1 := hP1.c 1 1
 have c1_2 := hP1.c 1 2
 have c1_3 := hP1.c 1 3
 have c1_4 := hP1.c 1 4
 have cf1 := hP1.fr 1
 clear hbn
 have hz : wo1.heap.size ≤ wo1.heap.size := Nat.le_refl _
 have hlt1 : w.heap.size + 1 < wo1.heap.size := hP1.lt 0
 clear zwo1
 have hO := hP1.drew
 have hz : wo1.heap.size ≤ wo1.drew.heap.size := Nat.le_refl _
 refine wp_region_held_drew (S := (fun w' => w'.cell? ⟨w.heap.size, 0, none⟩ = some (v1) ∧ w'.cell? ⟨w.heap.size, 1, none⟩ = some (v2) ∧ w'.cell? ⟨w.heap.size, 2, none⟩ = some (v3) ∧ w'.cell? ⟨w.heap.size, 3, none⟩ = some (v4) ∧ w'.cell? ⟨w.heap.size, 4, none⟩ = some (v5))) (by kernel_rfl) ?_ (fun hHeld => ?_)
 ·(try dsimp only)
  exact ⟨hO.c 1 0, hO.c 1 1, hO.c 1 2, hO.c 1 3, hO.c 1 4⟩
 generalize World.drew wo1 = vd at *
 refine tkY 0 (v := ?v78) rfl (.inl ⟨by rfl, ?hy78⟩) ?hr78
 case hy78 => (intro w hSw; (try dsimp only at hSw); go_simp; try with_reducible rfl)
 simp only [Act.put, Z1, Z2, Z4, Z5, Z6]
 refine tkY 1 (v := ?v79) rfl (.inl ⟨by rfl, ?hy79⟩) ?hr79
 case hy79 => (intro w hSw; (try dsimp only at hSw); go_simp; try with_reducible rfl)
 simp only [Act.put, Z1, Z2, Z3, Z4, Z5, Z6]
 refine tkY 3 (v := ?v80) rfl (.inl ⟨by rfl, ?hy80⟩) ?hr80
 case hy80 => (intro w hSw; (try dsimp only at hSw); go_simp; try with_reducible rfl)
 simp only [Act.put, Z1, Z2, Z3, Z4, Z5, Z6]
 refine tkY 4 (v := ?v81) rfl (.inl ⟨by rfl, ?hy81⟩) ?hr81
 case hy81 => (intro w hSw; (try dsimp only at hSw); go_simp; try with_reducible rfl)
 simp only [Act.put, Z1, Z2, Z3, Z4, Z5, Z6]
 refine tkY 6 (v := ?v82) rfl (.inl ⟨by rfl, ?hy82⟩) ?hr82
 case hy82 => (intro w hSw; (try dsimp only at hSw); go_simp; try with_reducible rfl)
 simp only [Act.put, Z1, Z2, Z3, Z4, Z5, Z6]
 refine tkY 7 (v := ?v83) rfl (.inl ⟨by rfl, ?hy83⟩) ?hr83
 case hy83 => (intro w hSw; (try dsimp only at hSw); go_simp; try with_reducible rfl)
 simp only [Act.put, Z1, Z2, Z3, Z4, Z5, Z6]
 refine tkY 9 (v := ?v84) rfl (.inl ⟨by rfl, ?hy84⟩) ?hr84
 case hy84 => (intro w hSw; (try dsimp only at hSw); go_simp; try with_reducible rfl)
 simp only [Act.put, Z1, Z2, Z3, Z4, Z5, Z6]
 refine tkY 10 (v := ?v85) rfl (.inl ⟨by rfl, ?hy85⟩) ?hr85
 case hy85 => (intro w hSw; (try dsimp only at hSw); go_simp; try with_reducible rfl)
 simp only [Act.put, Z1, Z2, Z3, Z4, Z5, Z6]
 refine tkY 12 (v := ?v86) rfl (.inl ⟨by rfl, ?hy86⟩) ?hr86
 case hy86 => (intro w hSw; (try dsimp only at hSw); go_simp; try with_reducible rfl)
 simp only [Act.put, Z1, Z2, Z3, Z4, Z5, Z6]
 refine tkY 13 (v := ?v87) rfl (.inl ⟨by rfl, ?hy87⟩) ?hr87
 case hy87 => (intro w hSw; (try dsimp only at hSw); go_simp; try with_reducible rfl)
 simp only [Act.put, Z1, Z2, Z3, Z4, Z5, Z6]
 refine wpAnyH_ready (rs := [2]) (by kernel_rfl) (by simp) ?_
 refine AllReadyH.cons rfl (fun K hK => ?_) AllReadyH.nil
 go_simp
 go_at_call 65
 refine (str_fc vd f1 v1 (Cod.str_ok.up q1 hO.below) s1).mono ?_
 rintro e z1 ⟨A1, c1, rfl, hF1, hbq⟩
 dsimp only
 replace hF1 := rf_lo hF1 hz
 replace hO := hO.kept hbq
 have hz_ := hz
 replace hz := Nat.le_trans hz hbq.size
 refine hK.out _ _ ?_ (fun hHeld => ?_)
 ·(try dsimp only)
  exact ⟨hO.c 1 0, hO.c 1 1, hO.c 1 2, hO.c 1 3, hO.c 1 4⟩
 clear hK K
 try simp only [Act.put, Z1, Z2, Z3, Z4, Z5, Z6]
 refine wpAnyH_ready (rs := [5]) (by kernel_rfl) (by simp) ?_
 refine AllReadyH.cons rfl (fun K hK => ?_) AllReadyH.nil
 go_simp
 go_at_call 65
 refine (str_fc z1 f2 v2 (Cod.str_ok.up q2 hO.below) s2).mono ?_
 rintro e z2 ⟨A2, c2, rfl, hF2, hbq⟩
 dsimp only
 replace hF2 := rf_lo hF2 hz
 replace hF1 := rf_up hF1 hbq
 replace hO := hO.kept hbq
 have hz_ := hz
 replace hz := Nat.le_trans hz hbq.size
 refine hK.out _ _ ?_ (fun hHeld => ?_)
 ·(try dsimp only)
  exact ⟨hO.c 1 0, hO.c 1 1, hO.c 1 2, hO.c 1 3, hO.c 1 4⟩
 clear hK K
 try simp only [Act.put, Z1, Z2, Z3, Z4, Z5, Z6]
 refine wpAnyH_ready (rs := [8]) (by kernel_rfl) (by simp) ?_
 refine AllReadyH.cons rfl (fun K hK => ?_) AllReadyH.nil
 go_simp
 go_at_call 64
 refine (num_fc z2 f3 v3 (Cod.int_ok.up q3 hO.below) s3).mono ?_
 rintro e z3 ⟨A3, c3, rfl, hF3, hbq⟩
 dsimp only
 replace hF3 := rf_lo hF3 hz
 replace hF1 := rf_up hF1 hbq
 replace hF2 := rf_up hF2 hbq
 replace hO := hO.kept hbq
 have hz_ := hz
 replace hz := Nat.le_trans hz hbq.size
 refine hK.out _ _ ?_ (fun hHeld => ?_)
 ·(try dsimp only)
  exact ⟨hO.c 1 0, hO.c 1 1, hO.c 1 2, hO.c 1 3, hO.c 1 4⟩
 clear hK K
 try simp only [Act.put, Z1, Z2, Z3, Z4, Z5, Z6]
 refine wpAnyH_ready (rs := [11]) (by kernel_rfl) (by simp) ?_
 refine AllReadyH.cons rfl (fun K hK => ?_) AllReadyH.nil
 go_simp
 go_at_call 115
 refine (strs_fc z3 f4 v4 (Cod.strs_ok.up q4 hO.below) s4).mono ?_
 rintro e z4 ⟨A4, c4, rfl, hF4, hbq⟩
 dsimp only
 replace hF4 := rf_lo hF4 hz
 replace hF1 := rf_up hF1 hbq
 replace hF2 := rf_up hF2 hbq
 replace hF3 := rf_up hF3 hbq
 replace hO := hO.kept hbq
 have hz_ := hz
 replace hz := Nat.le_trans hz hbq.size
 refine hK.out _ _ ?_ (fun hHeld => ?_)
 ·(try dsimp only)
  exact ⟨hO.c 1 0, hO.c 1 1, hO.c 1 2, hO.c 1 3, hO.c 1 4⟩
 clear hK K
 try simp only [Act.put, Z1, Z2, Z3, Z4, Z5, Z6]
 refine wpAnyH_ready (rs := [14]) (by kernel_rfl) (by simp) ?_
 refine AllReadyH.cons rfl (fun K hK => ?_) AllReadyH.nil
 go_simp
 go_at_call 115
 refine (strs_fc z4 f5 v5 (Cod.strs_ok.up q5 hO.below) s5).mono ?_
 rintro e z5 ⟨A5, c5, rfl, hF5, hbq⟩
 dsimp only
 replace hF5 := rf_lo hF5 hz
 replace hF1 := rf_up hF1 hbq
 replace hF2 := rf_up hF2 hbq
 replace hF3 := rf_up hF3 hbq
 replace hF4 := rf_up hF4 hbq
 replace hO := hO.kept hbq
 have hz_ := hz
 replace hz := Nat.le_trans hz hbq.size
 refine hK.out _ _ ?_ (fun hHeld => ?_)
 ·(try dsimp only)
  exact ⟨hO.c 1 0, hO.c 1 1, hO.c 1 2, hO.c 1 3, hO.c 1 4⟩
 clear hK K
 try simp only [Act.put, Z1, Z2, Z3, Z4, Z5, Z6]
 refine wpAnyH_ready (rs := [15]) (by kernel_rfl) (by simp) ?_
 refine AllReadyH.cons rfl (fun K hK => ?_) AllReadyH.nil
 go_simp
 generalize hx_ : World.alloc z5 _ = z6
 have hbq : Below z5.heap.size z5 z6 := by rw [← hx_]; exact (Below.refl _ _).alloc (Nat.le_refl _) _
 have hC : CellsAt z6 z5.heap.size (fC f1 A1 c1 ++ (fC f2 A2 c2 ++ (fC f3 A3 c3 ++ (fC f4 A4 c4 ++ (fC f5 A5 c5 ++ ([])))))) := by rw [← hx_]; exact CellsAt.new z5 _ _
 clear hx_
 replace hF1 := rf_up hF1 hbq
 replace hF2 := rf_up hF2 hbq
 replace hF3 := rf_up hF3 hbq
 replace hF4 := rf_up hF4 hbq
 replace hF5 := rf_up hF5 hbq
 replace hO := hO.kept hbq
 have hz_ := hz
 replace hz := Nat.le_trans hz hbq.size
 have hL := rl_cons hF1 (rl_cons hF2 (rl_cons hF3 (rl_cons hF4 (rl_cons hF5 (rl_nil)))))
 have hFR := seq_of hC hz_ hL (n := 5) rfl
 clear hC hL hF1 hF2 hF3 hF4 hF5
 refine hK.out _ _ ?_ (fun hHeld => ?_)
 ·(try dsimp only)
  exact ⟨hO.c 1 0, hO.c 1 1, hO.c 1 2, hO.c 1 3, hO.c 1 4⟩
 clear hK K
 try simp only [Act.put, Z1, Z2, Z3, Z4, Z5, Z6]
 refine wpAnyH_ready (rs := [16]) (by kernel_rfl) (by simp) ?_
 refine AllReadyH.cons rfl (fun K hK => ?_) AllReadyH.nil
 go_simp
 go_at_call 39
 refine (seq_any _ _ _ _).mono ?_
 rintro e z7 ⟨rfl, hbq⟩
 dsimp only
 replace hFR := rf_up hFR hbq
 replace hO := hO.kept hbq
 have hz_ := hz
 replace hz := Nat.le_trans hz hbq.size
 refine hK.out _ _ ?_ (fun hHeld => ?_)
 ·(try dsimp only)
  exact ⟨hO.c 1 0, hO.c 1 1, hO.c 1 2, hO.c 1 3, hO.c 1 4⟩
 clear hK K
 try simp only [Act.put, Z1, Z2, Z3, Z4, Z5, Z6]
 refine wpAnyH_ready (rs := [17]) (by kernel_rfl) (by simp) ?_
 refine AllReadyH.cons rfl (fun K hK => ?_) AllReadyH.nil
 have y0 := hO.c 0 0
 have y1 := hO.c 0 1
 have y2 := hO.c 0 2
 have y3 := hO.c 0 3
 have yf := hO.fr 0
 go_simp
 clear y0 y1 y2 y3 yf
 have hO9 := (((hO.store 0 rfl 0 (.int .i64 2)).store 0 rfl 1 (.int .i64 0)).store 0 rfl 2 (.string ⟨#[]⟩)).store 0 rfl 3 (.slice (some ⟨z5.heap.size, 0, none⟩) 5 5)
 have h9 := far4g z7 (w.heap.size + 1) (.int .i64 2) (.int .i64 0) (.string ⟨#[]⟩) (.slice (some ⟨z5.heap.size, 0, none⟩) 5 5)
 generalize World.setCell (World.setCell (World.setCell (World.setCell z7 _ _) _ _) _ _) _ _ = w9 at *
 refine hK.out _ _ ?_ (fun hHeld => ?_)
 ·(try dsimp only)
  exact ⟨hO9.c 1 0, hO9.c 1 1, hO9.c 1 2, hO9.c 1 3, hO9.c 1 4⟩
 clear hK K
 try simp only [Act.put, Z1, Z2, Z3, Z4, Z5, Z6]
 refine wpAnyH_done (by kernel_rfl) ?_ _
 clear hHeld
 have y0 := hO9.c 0 0
 have y1 := hO9.c 0 1
 have y2 := hO9.c 0 2
 have y3 := hO9.c 0 3
 replace hFR := rf_far (w := w) hFR hlt1 (Nat.le_of_lt (Nat.lt_of_succ_lt hlt1)) h9
 repeat' (first | go_skip | go_guarded | go_step)
 refine bodyPost_ret (v := .agg #[.int .i64 2, .int .i64 0, .string ⟨#[]⟩, .slice (some ⟨z5.heap.size, 0, none⟩) 5 5]) (by simp only [results, Tryz.results71]; go_simp; first | done | exact ⟨rfl, rfl, rfl⟩ | rfl) rfl ?_
 exact ⟨some ⟨z5.heap.size, 0, none⟩, 5, rfl, hFR, hO9.below⟩
theorem entry_fc : FormS 72 Cod.entry := by
 intro w f cs hr hs
 obtain ⟨fs, rfl, hr⟩ := hr
 obtain ⟨f1, r1, k1, d1, rfl, rfl, q1, hr⟩ := hr
 obtain ⟨f2, r2, k2, d2, rfl, rfl, q2, hr⟩ := hr
 obtain ⟨f3, r3, k3, d3, rfl, rfl, q3, hr⟩ := hr
 obtain ⟨f4, r4, k4, d4, rfl, rfl, q4, hr⟩ := hr
 obtain ⟨f5, r5, k5, d5, rfl, rfl, q5, hr⟩ := hr
 obtain ⟨f6, r6, k6, d6, rfl, rfl, q6, hr⟩ := hr
 obtain ⟨rfl, rfl⟩ := hr
 rw [fsz_fL] at hs
 have s1 : fsz f1 ≤ 1000000000 := by have := fsz_mem (l := [f1, f2, f3, f4, f5, f6]) (f := f1) (by simp); omega
 have s2 : fsz f2 ≤ 1000000000 := by have := fsz_mem (l := [f1, f2, f3, f4, f5, f6]) (f := f2) (by simp); omega
 have s3 : fsz f3 ≤ 1000000000 := by have := fsz_mem (l := [f1, f2, f3, f4, f5, f6]) (f := f3) (by simp); omega
 have s4 : fsz f4 ≤ 1000000000 := by have := fsz_mem (l := [f1, f2, f3, f4, f5, f6]) (f := f4) (by simp); omega
 have s5 : fsz f5 ≤ 1000000000 := by have := fsz_mem (l := [f1, f2, f3, f4, f5, f6]) (f := f5) (by simp); omega
 have s6 : fsz f6 ≤ 1000000000 := by have := fsz_mem (l := [f1, f2, f3, f4, f5, f6]) (f := f6) (by simp); omega
 obtain ⟨v2, rfl⟩ := one_list (Cod.str_ok.len q2)
 obtain ⟨n3, hn3, rfl, rfl⟩ := q3
 obtain ⟨v4, rfl⟩ := one_list (Cod.int_ok.len q4)
 obtain ⟨v5, rfl⟩ := one_list (Cod.int_ok.len q5)
 obtain ⟨v6, rfl⟩ := one_list (Cod.int_ok.len q6)
 obtain ⟨fs1, rfl, hr1⟩ := q1
 obtain ⟨f11, r11, k11, d11, rfl, rfl, q11, hr1⟩ := hr1
 obtain ⟨f12, r12, k12, d12, rfl, rfl, q12, hr1⟩ := hr1
 obtain ⟨f13, r13, k13, d13, rfl, rfl, q13, hr1⟩ := hr1
 obtain ⟨rfl, rfl⟩ := hr1
 rw [fsz_fL] at s1
 have s11 : fsz f11 ≤ 1000000000 := by have := fsz_mem (l := [f11, f12, f13]) (f := f11) (by simp); omega
 have s12 : fsz f12 ≤ 1000000000 := by have := fsz_mem (l := [f11, f12, f13]) (f := f12) (by simp); omega
 have s13 : fsz f13 ≤ 1000000000 := by have := fsz_mem (l := [f11, f12, f13]) (f := f13) (by simp); omega
 obtain ⟨v11, rfl⟩ := one_list (Cod.str_ok.len q11)
 obtain ⟨v12, rfl⟩ := one_list (Cod.int_ok.len q12)
 obtain ⟨v13, rfl⟩ := one_list (Cod.str_ok.len q13)
 show Calls _ _ #[.agg #[v11, v12, v13, v2, .int .u64 (n3 : Int), v4, v5, v6]] _ _
 go_enter Tryz.func72, Tryz.ntmps72
 go_upto_region 1 with (fail)
 generalize hx_ : World.alloc (World.alloc w _) _ = wo1
 have hP1 : OwnB w wo1 [(w.heap.size + 1, [.int .i64 0, .int .i64 0, .string ⟨#[]⟩, .slice none 0 0]), (w.heap.size, [v11, v12, v13, v2, .int .u64 (n3 : Int), v4, v5, v6])] := by rw [← hx_]; exact ((OwnB.refl w).new #[v11, v12, v13, v2, .int .u64 (n3 : Int), v4, v5, v6] _ (g := w.heap.size)).new #[.int .i64 0, .int .i64 0, .string ⟨#[]⟩, .slice none 0 0] _ (g := w.heap.size + 1)
 have hbn : Below w.heap.size w wo1 := by rw [← hx_]; exact ((Below.refl _ _).alloc (Nat.le_refl _) _).alloc (by simp) _
 have zwo1 : wo1.heap.size = w.heap.size + 2 := by rw [← hx_]; simp
 clear hx_
 have c0_0 := hP1.c 0 0
 have c0_1 := hP1.c 0 1
 have c0_2 := hP1.c 0 2
 have c0_3 := hP1.c 0 3
 have cf0 := hP1.fr 0
 have c1_0 := hP1.c 1 0
 have c1_1 := hP1.c 1 1
 have c1_2 := hP1.c 1 2
 have c1_3 := hP1.c 1 3
 have c1_4 := hP1.c 1 4
 have c1_5 := hP1.c 1 5
 have c1_6 := hP1.c 1 6
 have c1_7 := hP1.c 1 7
 have cf1 := hP1.fr 1
 clear hbn
 have hz : wo1.heap.size ≤ wo1.heap.size := Nat.le_refl _
 have hlt1 : w.heap.size + 1 < wo1.heap.size := hP1.lt 0
 clear zwo1
 have hO := hP1.drew
 have hz : wo1.heap.size ≤ wo1.drew.heap.size := Nat.le_refl _
 refine wp_region_held_drew (S := (fun w' => w'.cell? ⟨w.heap.size, 0, none⟩ = some (v11) ∧ w'.cell? ⟨w.heap.size, 1, none⟩ = some (v12) ∧ w'.cell? ⟨w.heap.size, 2, none⟩ = some (v13) ∧ w'.cell? ⟨w.heap.size, 3, none⟩ = some (v2) ∧ w'.cell? ⟨w.heap.size, 4, none⟩ = some (.int .u64 (n3 : Int)) ∧ w'.cell? ⟨w.heap.size, 5, none⟩ = some (v4) ∧ w'.cell? ⟨w.heap.size, 6, none⟩ = some (v5) ∧ w'.cell? ⟨w.heap.size, 7, none⟩ = some (v6))) (by kernel_rfl) ?_ (fun hHeld => ?_)
 ·(try dsimp only)
  exact ⟨hO.c 1 0, hO.c 1 1, hO.c 1 2, hO.c 1 3, hO.c 1 4, hO.c 1 5, hO.c 1 6, hO.c 1 7⟩
 generalize World.drew wo1 = vd at *
 refine tkY 0 (v := ?v88) rfl (.inl ⟨by rfl, ?hy88⟩) ?hr88
 case hy88 => (intro w hSw; (try dsimp only at hSw); go_simp; try with_reducible rfl)
 simp only [Act.put, Z1, Z2, Z4, Z5, Z6]
 refine tkY 1 (v := ?v89) rfl (.inl ⟨by rfl, ?hy89⟩) ?hr89
 case hy89 => (intro w hSw; (try dsimp only at hSw); go_simp; try with_reducible rfl)
 simp only [Act.put, Z1, Z2, Z3, Z4, Z5, Z6]
 refine tkY 2 (v := ?v90) rfl (.inl ⟨by rfl, ?hy90⟩) ?hr90
 case hy90 => (intro w hSw; (try dsimp only at hSw); go_simp; try with_reducible rfl)
 simp only [Act.put, Z1, Z2, Z3, Z4, Z5, Z6]
 refine tkY 4 (v := ?v91) rfl (.inl ⟨by rfl, ?hy91⟩) ?hr91
 case hy91 => (intro w hSw; (try dsimp only at hSw); go_simp; try with_reducible rfl)
 simp only [Act.put, Z1, Z2, Z3, Z4, Z5, Z6]
 refine tkY 5 (v := ?v92) rfl (.inl ⟨by rfl, ?hy92⟩) ?hr92
 case hy92 => (intro w hSw; (try dsimp only at hSw); go_simp; try with_reducible rfl)
 simp only [Act.put, Z1, Z2, Z3, Z4, Z5, Z6]
 refine tkY 6 (v := ?v93) rfl (.inl ⟨by rfl, ?hy93⟩) ?hr93
 case hy93 => (intro w hSw; (try dsimp only at hSw); go_simp; try with_reducible rfl)
 simp only [Act.put, Z1, Z2, Z3, Z4, Z5, Z6]
 refine tkY 8 (v := ?v94) rfl (.inl ⟨by rfl, ?hy94⟩) ?hr94
 case hy94 => (intro w hSw; (try dsimp only at hSw); go_simp; try with_reducible rfl)
 simp only [Act.put, Z1, Z2, Z3, Z4, Z5, Z6]
 refine tkY 9 (v := ?v95) rfl (.inl ⟨by rfl, ?hy95⟩) ?hr95
 case hy95 => (intro w hSw; (try dsimp only at hSw); go_simp; try with_reducible rfl)
 simp only [Act.put, Z1, Z2, Z3, Z4, Z5, Z6]
 refine tkY 10 (v := ?v96) rfl (.inl ⟨by rfl, ?hy96⟩) ?hr96
 case hy96 => (intro w hSw; (try dsimp only at hSw); go_simp; try with_reducible rfl)
 simp only [Act.put, Z1, Z2, Z3, Z4, Z5, Z6]
 refine tkY 14 (v := ?v97) rfl (.inl ⟨by rfl, ?hy97⟩) ?hr97
 case hy97 => (intro w hSw; (try dsimp only at hSw); go_simp; try with_reducible rfl)
 simp only [Act.put, Z1, Z2, Z3, Z4, Z5, Z6]
 refine tkY 15 (v := ?v98) rfl (.inl ⟨by rfl, ?hy98⟩) ?hr98
 case hy98 => (intro w hSw; (try dsimp only at hSw); go_simp; try with_reducible rfl)
 simp only [Act.put, Z1, Z2, Z3, Z4, Z5, Z6]
 refine tkY 17 (v := ?v99) rfl (.inl ⟨by rfl, ?hy99⟩) ?hr99
 case hy99 => (intro w hSw; (try dsimp only at hSw); go_simp; try with_reducible rfl)
 simp only [Act.put, Z1, Z2, Z3, Z4, Z5, Z6]
 refine tkY 18 (v := ?v100) rfl (.inl ⟨by rfl, ?hy100⟩) ?hr100
 case hy100 => (intro w hSw; (try dsimp only at hSw); go_simp; try with_reducible rfl)
 simp only [Act.put, Z1, Z2, Z3, Z4, Z5, Z6]
 refine tkY 19 (v := ?v101) rfl (.inl ⟨by rfl, ?hy101⟩) ?hr101
 case hy101 => (intro w hSw; (try dsimp only at hSw); go_simp; try with_reducible rfl)
 simp only [Act.put, Z1, Z2, Z3, Z4, Z5, Z6]
 refine tkY 21 (v := ?v102) rfl (.inl ⟨by rfl, ?hy102⟩) ?hr102
 case hy102 => (intro w hSw; (try dsimp only at hSw); go_simp; try with_reducible rfl)
 simp only [Act.put, Z1, Z2, Z3, Z4, Z5, Z6]
 refine tkY 22 (v := ?v103) rfl (.inl ⟨by rfl, ?hy103⟩) ?hr103
 case hy103 => (intro w hSw; (try dsimp only at hSw); go_simp; try with_reducible rfl)
 simp only [Act.put, Z1, Z2, Z3, Z4, Z5, Z6]
 refine tkY 24 (v := ?v104) rfl (.inl ⟨by rfl, ?hy104⟩) ?hr104
 case hy104 => (intro w hSw; (try dsimp only at hSw); go_simp; try with_reducible rfl)
 simp only [Act.put, Z1, Z2, Z3, Z4, Z5, Z6]
 refine tkY 25 (v := ?v105) rfl (.inl ⟨by rfl, ?hy105⟩) ?hr105
 case hy105 => (intro w hSw; (try dsimp only at hSw); go_simp; try with_reducible rfl)
 simp only [Act.put, Z1, Z2, Z3, Z4, Z5, Z6]
 refine tkY 27 (v := ?v106) rfl (.inl ⟨by rfl, ?hy106⟩) ?hr106
 case hy106 => (intro w hSw; (try dsimp only at hSw); go_simp; try with_reducible rfl)
 simp only [Act.put, Z1, Z2, Z3, Z4, Z5, Z6]
 refine tkY 28 (v := ?v107) rfl (.inl ⟨by rfl, ?hy107⟩) ?hr107
 case hy107 => (intro w hSw; (try dsimp only at hSw); go_simp; try with_reducible rfl)
 simp only [Act.put, Z1, Z2, Z3, Z4, Z5, Z6]
 refine wpAnyH_ready (rs := [3]) (by kernel_rfl) (by simp) ?_
 refine AllReadyH.cons rfl (fun K hK => ?_) AllReadyH.nil
 go_simp
 go_at_call 65
 refine (str_fc vd f11 v11 (Cod.str_ok.up q11 hO.below) s11).mono ?_
 rintro e z1 ⟨A11, c11, rfl, hF11, hbq⟩
 dsimp only
 replace hF11 := rf_lo hF11 hz
 replace hO := hO.kept hbq
 have hz_ := hz
 replace hz := Nat.le_trans hz hbq.size
 refine hK.out _ _ ?_ (fun hHeld => ?_)
 ·(try dsimp only)
  exact ⟨hO.c 1 0, hO.c 1 1, hO.c 1 2, hO.c 1 3, hO.c 1 4, hO.c 1 5, hO.c 1 6, hO.c 1 7⟩
 clear hK K
 try simp only [Act.put, Z1, Z2, Z3, Z4, Z5, Z6]
 refine wpAnyH_ready (rs := [7]) (by kernel_rfl) (by simp) ?_
 refine AllReadyH.cons rfl (fun K hK => ?_) AllReadyH.nil
 go_simp
 go_at_call 64
 refine (num_fc z1 f12 v12 (Cod.int_ok.up q12 hO.below) s12).mono ?_
 rintro e z2 ⟨A12, c12, rfl, hF12, hbq⟩
 dsimp only
 replace hF12 := rf_lo hF12 hz
 replace hF11 := rf_up hF11 hbq
 replace hO := hO.kept hbq
 have hz_ := hz
 replace hz := Nat.le_trans hz hbq.size
 refine hK.out _ _ ?_ (fun hHeld => ?_)
 ·(try dsimp only)
  exact ⟨hO.c 1 0, hO.c 1 1, hO.c 1 2, hO.c 1 3, hO.c 1 4, hO.c 1 5, hO.c 1 6, hO.c 1 7⟩
 clear hK K
 try simp only [Act.put, Z1, Z2, Z3, Z4, Z5, Z6]
 refine wpAnyH_ready (rs := [11]) (by kernel_rfl) (by simp) ?_
 refine AllReadyH.cons rfl (fun K hK => ?_) AllReadyH.nil
 go_simp
 go_at_call 65
 refine (str_fc z2 f13 v13 (Cod.str_ok.up q13 hO.below) s13).mono ?_
 rintro e z3 ⟨A13, c13, rfl, hF13, hbq⟩
 dsimp only
 replace hF13 := rf_lo hF13 hz
 replace hF11 := rf_up hF11 hbq
 replace hF12 := rf_up hF12 hbq
 replace hO := hO.kept hbq
 have hz_ := hz
 replace hz := Nat.le_trans hz hbq.size
 refine hK.out _ _ ?_ (fun hHeld => ?_)
 ·(try dsimp only)
  exact ⟨hO.c 1 0, hO.c 1 1, hO.c 1 2, hO.c 1 3, hO.c 1 4, hO.c 1 5, hO.c 1 6, hO.c 1 7⟩
 clear hK K
 try simp only [Act.put, Z1, Z2, Z3, Z4, Z5, Z6]
 refine wpAnyH_ready (rs := [12]) (by kernel_rfl) (by simp) ?_
 refine AllReadyH.cons rfl (fun K hK => ?_) AllReadyH.nil
 go_simp
 generalize hx_ : World.alloc z3 _ = z4
 have hbq : Below z3.heap.size z3 z4 := by rw [← hx_]; exact (Below.refl _ _).alloc (Nat.le_refl _) _
 have hC : CellsAt z4 z3.heap.size (fC f11 A11 c11 ++ (fC f12 A12 c12 ++ (fC f13 A13 c13 ++ ([])))) := by rw [← hx_]; exact CellsAt.new z3 _ _
 clear hx_
 replace hF11 := rf_up hF11 hbq
 replace hF12 := rf_up hF12 hbq
 replace hF13 := rf_up hF13 hbq
 replace hO := hO.kept hbq
 have hz_ := hz
 replace hz := Nat.le_trans hz hbq.size
 have hL := rl_cons hF11 (rl_cons hF12 (rl_cons hF13 (rl_nil)))
 have hFS := seq_of hC hz_ hL (n := 3) rfl
 clear hC hL hF11 hF12 hF13
 refine hK.out _ _ ?_ (fun hHeld => ?_)
 ·(try dsimp only)
  exact ⟨hO.c 1 0, hO.c 1 1, hO.c 1 2, hO.c 1 3, hO.c 1 4, hO.c 1 5, hO.c 1 6, hO.c 1 7⟩
 clear hK K
 try simp only [Act.put, Z1, Z2, Z3, Z4, Z5, Z6]
 refine wpAnyH_ready (rs := [13]) (by kernel_rfl) (by simp) ?_
 refine AllReadyH.cons rfl (fun K hK => ?_) AllReadyH.nil
 go_simp
 go_at_call 39
 refine (seq_any _ _ _ _).mono ?_
 rintro e z5 ⟨rfl, hbq⟩
 dsimp only
 replace hFS := rf_up hFS hbq
 replace hO := hO.kept hbq
 have hz_ := hz
 replace hz := Nat.le_trans hz hbq.size
 refine hK.out _ _ ?_ (fun hHeld => ?_)
 ·(try dsimp only)
  exact ⟨hO.c 1 0, hO.c 1 1, hO.c 1 2, hO.c 1 3, hO.c 1 4, hO.c 1 5, hO.c 1 6, hO.c 1 7⟩
 clear hK K
 try simp only [Act.put, Z1, Z2, Z3, Z4, Z5, Z6]
 refine wpAnyH_ready (rs := [16]) (by kernel_rfl) (by simp) ?_
 refine AllReadyH.cons rfl (fun K hK => ?_) AllReadyH.nil
 go_simp
 go_at_call 65
 refine (str_fc z5 f2 v2 (Cod.str_ok.up q2 hO.below) s2).mono ?_
 rintro e z6 ⟨A2, c2, rfl, hF2, hbq⟩
 dsimp only
 replace hF2 := rf_lo hF2 hz
 replace hFS := rf_up hFS hbq
 replace hO := hO.kept hbq
 have hz_ := hz
 replace hz := Nat.le_trans hz hbq.size
 refine hK.out _ _ ?_ (fun hHeld => ?_)
 ·(try dsimp only)
  exact ⟨hO.c 1 0, hO.c 1 1, hO.c 1 2, hO.c 1 3, hO.c 1 4, hO.c 1 5, hO.c 1 6, hO.c 1 7⟩
 clear hK K
 try simp only [Act.put, Z1, Z2, Z3, Z4, Z5, Z6]
 refine wpAnyH_ready (rs := [20]) (by kernel_rfl) (by simp) ?_
 refine AllReadyH.cons rfl (fun K hK => ?_) AllReadyH.nil
 go_simp
 go_at_call 64
 rw [IntWalk.i64_left]
 refine (num_any _ (wrap_int (n3 : Int)) z6).mono ?_
 rintro e z7 ⟨A3, c3, rfl, hF3, hbq⟩
 dsimp only
 replace hF3 := rf_lo hF3 hz
 replace hFS := rf_up hFS hbq
 replace hF2 := rf_up hF2 hbq
 replace hO := hO.kept hbq
 have hz_ := hz
 replace hz := Nat.le_trans hz hbq.size
 refine hK.out _ _ ?_ (fun hHeld => ?_)
 ·(try dsimp only)
  exact ⟨hO.c 1 0, hO.c 1 1, hO.c 1 2, hO.c 1 3, hO.c 1 4, hO.c 1 5, hO.c 1 6, hO.c 1 7⟩
 clear hK K
 try simp only [Act.put, Z1, Z2, Z3, Z4, Z5, Z6]
 refine wpAnyH_ready (rs := [23]) (by kernel_rfl) (by simp) ?_
 refine AllReadyH.cons rfl (fun K hK => ?_) AllReadyH.nil
 go_simp
 go_at_call 64
 refine (num_fc z7 f4 v4 (Cod.int_ok.up q4 hO.below) s4).mono ?_
 rintro e z8 ⟨A4, c4, rfl, hF4, hbq⟩
 dsimp only
 replace hF4 := rf_lo hF4 hz
 replace hFS := rf_up hFS hbq
 replace hF2 := rf_up hF2 hbq
 replace hF3 := rf_up hF3 hbq
 replace hO := hO.kept hbq
 have hz_ := hz
 replace hz := Nat.le_trans hz hbq.size
 refine hK.out _ _ ?_ (fun hHeld => ?_)
 ·(try dsimp only)
  exact ⟨hO.c 1 0, hO.c 1 1, hO.c 1 2, hO.c 1 3, hO.c 1 4, hO.c 1 5, hO.c 1 6, hO.c 1 7⟩
 clear hK K
 try simp only [Act.put, Z1, Z2, Z3, Z4, Z5, Z6]
 refine wpAnyH_ready (rs := [26]) (by kernel_rfl) (by simp) ?_
 refine AllReadyH.cons rfl (fun K hK => ?_) AllReadyH.nil
 go_simp
 go_at_call 64
 refine (num_fc z8 f5 v5 (Cod.int_ok.up q5 hO.below) s5).mono ?_
 rintro e z9 ⟨A5, c5, rfl, hF5, hbq⟩
 dsimp only
 replace hF5 := rf_lo hF5 hz
 replace hFS := rf_up hFS hbq
 replace hF2 := rf_up hF2 hbq
 replace hF3 := rf_up hF3 hbq
 replace hF4 := rf_up hF4 hbq
 replace hO := hO.kept hbq
 have hz_ := hz
 replace hz := Nat.le_trans hz hbq.size
 refine hK.out _ _ ?_ (fun hHeld => ?_)
 ·(try dsimp only)
  exact ⟨hO.c 1 0, hO.c 1 1, hO.c 1 2, hO.c 1 3, hO.c 1 4, hO.c 1 5, hO.c 1 6, hO.c 1 7⟩
 clear hK K
 try simp only [Act.put, Z1, Z2, Z3, Z4, Z5, Z6]
 refine wpAnyH_ready (rs := [29]) (by kernel_rfl) (by simp) ?_
 refine AllReadyH.cons rfl (fun K hK => ?_) AllReadyH.nil
 go_simp
 go_at_call 64
 refine (num_fc z9 f6 v6 (Cod.int_ok.up q6 hO.below) s6).mono ?_
 rintro e z10 ⟨A6, c6, rfl, hF6, hbq⟩
 dsimp only
 replace hF6 := rf_lo hF6 hz
 replace hFS := rf_up hFS hbq
 replace hF2 := rf_up hF2 hbq
 replace hF3 := rf_up hF3 hbq
 replace hF4 := rf_up hF4 hbq
 replace hF5 := rf_up hF5 hbq
 replace hO := hO.kept hbq
 have hz_ := hz
 replace hz := Nat.le_trans hz hbq.size
 refine hK.out _ _ ?_ (fun hHeld => ?_)
 ·(try dsimp only)
  exact ⟨hO.c 1 0, hO.c 1 1, hO.c 1 2, hO.c 1 3, hO.c 1 4, hO.c 1 5, hO.c 1 6, hO.c 1 7⟩
 clear hK K
 try simp only [Act.put, Z1, Z2, Z3, Z4, Z5, Z6]
 refine wpAnyH_ready (rs := [30]) (by kernel_rfl) (by simp) ?_
 refine AllReadyH.cons rfl (fun K hK => ?_) AllReadyH.nil
 go_simp
 generalize hx_ : World.alloc z10 _ = z11
 have hbq : Below z10.heap.size z10 z11 := by rw [← hx_]; exact (Below.refl _ _).alloc (Nat.le_refl _) _
 have hC : CellsAt z11 z10.heap.size ([.int .i64 2, .int .i64 0, .string ⟨#[]⟩, .slice (some ⟨z3.heap.size, 0, none⟩) 3 3] ++ (fC f2 A2 c2 ++ (fC (fI (wrap64 (n3 : Int))) A3 c3 ++ (fC f4 A4 c4 ++ (fC f5 A5 c5 ++ (fC f6 A6 c6 ++ ([]))))))) := by rw [← hx_]; exact CellsAt.new z10 _ _
 clear hx_
 replace hFS := rf_up hFS hbq
 replace hF2 := rf_up hF2 hbq
 replace hF3 := rf_up hF3 hbq
 replace hF4 := rf_up hF4 hbq
 replace hF5 := rf_up hF5 hbq
 replace hF6 := rf_up hF6 hbq
 replace hO := hO.kept hbq
 have hz_ := hz
 replace hz := Nat.le_trans hz hbq.size
 have hL := rl_cons hFS (rl_cons hF2 (rl_cons hF3 (rl_cons hF4 (rl_cons hF5 (rl_cons hF6 (rl_nil))))))
 have hFR := seq_of hC hz_ hL (n := 6) rfl
 clear hC hL hFS hF2 hF3 hF4 hF5 hF6
 refine hK.out _ _ ?_ (fun hHeld => ?_)
 ·(try dsimp only)
  exact ⟨hO.c 1 0, hO.c 1 1, hO.c 1 2, hO.c 1 3, hO.c 1 4, hO.c 1 5, hO.c 1 6, hO.c 1 7⟩
 clear hK K
 try simp only [Act.put, Z1, Z2, Z3, Z4, Z5, Z6]
 refine wpAnyH_ready (rs := [31]) (by kernel_rfl) (by simp) ?_
 refine AllReadyH.cons rfl (fun K hK => ?_) AllReadyH.nil
 go_simp
 go_at_call 39
 refine (seq_any _ _ _ _).mono ?_
 rintro e z12 ⟨rfl, hbq⟩
 dsimp only
 replace hFR := rf_up hFR hbq
 replace hO := hO.kept hbq
 have hz_ := hz
 replace hz := Nat.le_trans hz hbq.size
 refine hK.out _ _ ?_ (fun hHeld => ?_)
 ·(try dsimp only)
  exact ⟨hO.c 1 0, hO.c 1 1, hO.c 1 2, hO.c 1 3, hO.c 1 4, hO.c 1 5, hO.c 1 6, hO.c 1 7⟩
 clear hK K
 try simp only [Act.put, Z1, Z2, Z3, Z4, Z5, Z6]
 refine wpAnyH_ready (rs := [32]) (by kernel_rfl) (by simp) ?_
 refine AllReadyH.cons rfl (fun K hK => ?_) AllReadyH.nil
 have y0 := hO.c 0 0
 have y1 := hO.c 0 1
 have y2 := hO.c 0 2
 have y3 := hO.c 0 3
 have yf := hO.fr 0
 go_simp
 clear y0 y1 y2 y3 yf
 have hO9 := (((hO.store 0 rfl 0 (.int .i64 2)).store 0 rfl 1 (.int .i64 0)).store 0 rfl 2 (.string ⟨#[]⟩)).store 0 rfl 3 (.slice (some ⟨z10.heap.size, 0, none⟩) 6 6)
 have h9 := far4g z12 (w.heap.size + 1) (.int .i64 2) (.int .i64 0) (.string ⟨#[]⟩) (.slice (some ⟨z10.heap.size, 0, none⟩) 6 6)
 generalize World.setCell (World.setCell (World.setCell (World.setCell z12 _ _) _ _) _ _) _ _ = w9 at *
 refine hK.out _ _ ?_ (fun hHeld => ?_)
 ·(try dsimp only)
  exact ⟨hO9.c 1 0, hO9.c 1 1, hO9.c 1 2, hO9.c 1 3, hO9.c 1 4, hO9.c 1 5, hO9.c 1 6, hO9.c 1 7⟩
 clear hK K
 try simp only [Act.put, Z1, Z2, Z3, Z4, Z5, Z6]
 refine wpAnyH_done (by kernel_rfl) ?_ _
 clear hHeld
 have y0 := hO9.c 0 0
 have y1 := hO9.c 0 1
 have y2 := hO9.c 0 2
 have y3 := hO9.c 0 3
 replace hFR := rf_far (w := w) hFR hlt1 (Nat.le_of_lt (Nat.lt_of_succ_lt hlt1)) h9
 repeat' (first | go_skip | go_guarded | go_step)
 refine bodyPost_ret (v := .agg #[.int .i64 2, .int .i64 0, .string ⟨#[]⟩, .slice (some ⟨z10.heap.size, 0, none⟩) 6 6]) (by simp only [results, Tryz.results72]; go_simp; first | done | exact ⟨rfl, rfl, rfl⟩ | rfl) rfl ?_
 exact ⟨some ⟨z10.heap.size, 0, none⟩, 6, rfl, hFR, hO9.below⟩
end Go.Proofs.YtgdapkglofchjaaGreatDoor
