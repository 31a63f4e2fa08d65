/- Joined: JnG5 JnG6 JnG7 JnG8. -/
import Derived.Test.YtgdapkglofchjaaGreatDoorF8
set_option maxRecDepth 100000
set_option maxHeartbeats 4000000
set_option linter.unusedVariables false
namespace Go.Proofs.YtgdapkglofchjaaGreatDoor
open Go.RowKit
theorem outputs_fc : Form1 113 (Cod.list Cod.output) := by
 intro w f v hr hs
 obtain ⟨m, A, c, rfl, h, hR⟩ := hr
 injection h with h
 subst h
 rw [fsz_fL] at hs
 have hm := lsz_length m
 go_enter Tryz.func113, Tryz.ntmps113
 go_upto_region 1 with (fail)
 generalize hx_ : World.alloc w _ = wo1
 have hP1 : OwnB w wo1 [(w.heap.size, [.int .i64 0, .int .i64 0, .string ⟨#[]⟩, .slice none 0 0])] := by rw [← hx_]; exact (OwnB.refl w).new #[.int .i64 0, .int .i64 0, .string ⟨#[]⟩, .slice none 0 0] _ (g := w.heap.size)
 have hbn : Below w.heap.size w wo1 := by rw [← hx_]; exact (Below.refl _ _).alloc (Nat.le_refl _) _
 have zwo1 : wo1.heap.size = w.heap.size + 1 := by rw [← hx_]; simp
 clear hx_
 have c0_0 := hP1.c 0 0
 have c0_1 := hP1.c 0 1
 have c0_2 := hP1.c 0 2
 have c0_3 := hP1.c 0 3
 have cf0 := hP1.fr 0
 clear hbn
 clear zwo1
 have hb0 := hP1.below
 have hz0 : w.heap.size < wo1.heap.size := hP1.lt 0
 have hR0 := OwnR.nil (r := rFB wo1.heap.size) (sz := 4) wo1 fldT
 replace hR := Lib.hid hR
 repeat' (first | go_skip | go_guarded | go_step)
 go_loopw [3, 4] (fun u3 u4 wr => ∃ (i : Nat) (A' : Option Addr) (n' c' : Nat), i ≤ m.length ∧ u4 = .int .i64 (i : Int) ∧ u3 = .slice A' n' c' ∧ n' = (m.take i).length ∧ OwnR (rFB wo1.heap.size) 4 wo1 wr fldT (.slice A' n' c') (m.take i)) (fun _ u4 _ => m.length - (intOf u4).toNat)
 case atStart => exact ⟨0, none, 0, 0, Nat.zero_le _, rfl, rfl, rfl, hR0⟩
 case round =>
  clear hR0
  obtain ⟨i, A', n', c', hi, rfl, rfl, hn', hL⟩ := hrel
  replace hn' := Lib.hid hn'
  have hbr := hL.bel
  have hP2 : OwnB w wr [(w.heap.size, [.int .i64 0, .int .i64 0, .string ⟨#[]⟩, .slice none 0 0])] := hP1.kept hbr
  clear c0_0 c0_1 c0_2 c0_3 cf0 hP1
  have c0_0 := hP2.c 0 0
  have c0_1 := hP2.c 0 1
  have c0_2 := hP2.c 0 2
  have c0_3 := hP2.c 0 3
  have cf0 := hP2.fr 0
  by_cases hlt : i < m.length
  ·obtain ⟨x, hx⟩ : ∃ x, m[i]? = some x := ⟨_, List.getElem?_eq_getElem hlt⟩
   obtain ⟨b, o', k1, rfl, hb, hkl, hrx, hat⟩ := hR.out.at_ hx
   have hbw : Below w.heap.size w wr := hb0.trans (hbr.mono hb0.size)
   have hbW : b < wr.heap.size := Nat.lt_of_lt_of_le hb hbw.size
   have hb1 : b < wo1.heap.size := Nat.lt_trans hb hz0
   have hsx : fsz x ≤ 1000000000 := by have := fsz_mem (List.mem_of_getElem? hx); omega
   have i1 : (0 : Int) ≤ (i : Int) := by omega
   have i2 : (i : Int) < (m.length : Int) := by omega
   obtain ⟨fs, rfl, hr⟩ := hrx
   rw [fsz_fL] at hsx
   have hat' : wr.rangeAt b (o' + i * 3) k1 := fun j u hu => (hbw.cell (p := ⟨b, o' + i * 3 + j, none⟩) hb).trans (hat j u hu)
   clear hat
   obtain ⟨f1, r1, k1, d1, rfl, rfl, q1, hr⟩ := hr
   obtain ⟨f2, r2, k2, d2, rfl, rfl, q2, hr⟩ := hr
   obtain ⟨f3, r3, k3, d3, rfl, rfl, q3, hr⟩ := hr
   obtain ⟨rfl, rfl⟩ := hr
   obtain ⟨s1, s2, s3, -⟩ := szs (N := 1000000000) (l := [f1, f2, f3]) (by omega)
   obtain ⟨v1, rfl⟩ := one_list (Cod.str_ok.len q1)
   obtain ⟨n2, hn2, rfl, rfl⟩ := q2
   obtain ⟨v3, rfl⟩ := one_list (Cod.int_ok.len q3)
   have e1 : wr.cell? ⟨b, o' + i * 3, none⟩ = some (v1) := hat' 0 _ rfl
   have e2 : wr.cell? ⟨b, o' + i * 3 + 1, none⟩ = some (.int .u64 (n2 : Int)) := hat' 1 _ rfl
   have e3 : wr.cell? ⟨b, o' + i * 3 + 2, none⟩ = some (v3) := hat' 2 _ rfl
   clear hat'
   go_upto_region 5 with (fail)
   have hbc : Below wr.heap.size wr wr.drew := (Below.refl _ _).drew
   have hz := hbc.size
   refine wp_region_held_drew (S := (fun w' => w'.cell? ⟨b, o' + i * 3, none⟩ = some (v1) ∧ w'.cell? ⟨b, o' + i * 3 + 1, none⟩ = some (.int .u64 (n2 : Int)) ∧ w'.cell? ⟨b, o' + i * 3 + 2, none⟩ = some (v3))) (by kernel_rfl) ?_ (fun hHeld => ?_)
   ·(try dsimp only)
    exact ⟨CT hbc hbW e1, CT hbc hbW e2, CT hbc hbW e3⟩
   generalize World.drew wr = vd at *
   refine tkQ 0 ?_
   refine tkQ 1 ?_
   refine tkQ 2 ?_
   refine tkQ 3 ?_
   refine tkQ 4 ?_
   refine tkQ 5 ?_
   refine tkQ 7 ?_
   refine tkQ 8 ?_
   refine tkQ 9 ?_
   refine tkQ 10 ?_
   refine tkQ 11 ?_
   refine tkQ 12 ?_
   refine tkQ 14 ?_
   refine tkQ 15 ?_
   refine tkQ 16 ?_
   refine tkQ 17 ?_
   refine tkQ 18 ?_
   refine rdO 6 fun K hK => ?_
   go_simp
   go_at_call 65
   refine (str_fc vd f1 v1 (Cod.str_ok.up q1 (hbw.trans (hbc.mono hbw.size))) s1).mono ?_
   rintro e z1 ⟨A1, c1, rfl, hF1, hbq⟩
   dsimp only
   replace hF1 := rf_lo hF1 hz
   replace hbc := hbc.trans (hbq.mono hbc.size)
   have hz_ := hz
   replace hz := hbc.size
   refine hkO hK (⟨CT hbc hbW e1, CT hbc hbW e2, CT hbc hbW e3⟩) fun hHeld => ?_
   clear hK K
   refine rdO 13 fun K hK => ?_
   go_simp
   go_at_call 64
   rw [IntWalk.i64_left]
   refine (num_any _ (wrap_int (n2 : Int)) z1).mono ?_
   rintro e z2 ⟨A2, c2, rfl, hF2, hbq⟩
   dsimp only
   replace hF2 := rf_lo hF2 hz
   replace hF1 := rf_up hF1 hbq
   replace hbc := hbc.trans (hbq.mono hbc.size)
   have hz_ := hz
   replace hz := hbc.size
   refine hkO hK (⟨CT hbc hbW e1, CT hbc hbW e2, CT hbc hbW e3⟩) fun hHeld => ?_
   clear hK K
   refine rdO 19 fun K hK => ?_
   go_simp
   go_at_call 64
   refine (num_fc z2 f3 v3 (Cod.int_ok.up q3 (hbw.trans (hbc.mono hbw.size))) s3).mono ?_
   rintro e z3 ⟨A3, c3, rfl, hF3, hbq⟩
   dsimp only
   replace hF3 := rf_lo hF3 hz
   replace hF1 := rf_up hF1 hbq
   replace hF2 := rf_up hF2 hbq
   replace hbc := hbc.trans (hbq.mono hbc.size)
   have hz_ := hz
   replace hz := hbc.size
   refine hkO hK (⟨CT hbc hbW e1, CT hbc hbW e2, CT hbc hbW e3⟩) fun hHeld => ?_
   clear hK K
   refine rdO 20 fun K hK => ?_
   go_simp
   generalize hx_ : World.alloc z3 _ = z4
   have hbq : Below z3.heap.size z3 z4 := by rw [← hx_]; exact (Below.refl _ _).alloc (Nat.le_refl _) _
   have hC : CellsAt z4 z3.heap.size (fC f1 A1 c1 ++ (fC (fI (wrap64 (n2 : Int))) A2 c2 ++ (fC f3 A3 c3 ++ ([])))) := by rw [← hx_]; exact CellsAt.new z3 _ _
   clear hx_
   replace hF1 := rf_up hF1 hbq
   replace hF2 := rf_up hF2 hbq
   replace hF3 := rf_up hF3 hbq
   replace hbc := hbc.trans (hbq.mono hbc.size)
   have hz_ := hz
   replace hz := hbc.size
   have hL := rl_cons hF1 (rl_cons hF2 (rl_cons hF3 (rl_nil)))
   have hFR := seq_of hC hz_ hL (n := 3) rfl
   clear hC hL hF1 hF2 hF3
   refine hkO hK (⟨CT hbc hbW e1, CT hbc hbW e2, CT hbc hbW e3⟩) fun hHeld => ?_
   clear hK K
   refine rdO 21 fun K hK => ?_
   go_simp
   go_at_call 39
   refine (seq_any _ _ _ _).mono ?_
   rintro e z5 ⟨rfl, hbq⟩
   dsimp only
   replace hFR := rf_up hFR hbq
   replace hbc := hbc.trans (hbq.mono hbc.size)
   have hz_ := hz
   replace hz := hbc.size
   refine hkO hK (⟨CT hbc hbW e1, CT hbc hbW e2, CT hbc hbW e3⟩) fun hHeld => ?_
   clear hK K
   refine rdO 22 fun K hK => ?_
   go_simp
   generalize hx_ : World.alloc z5 _ = z6
   have hbq : Below z5.heap.size z5 z6 := by rw [← hx_]; exact (Below.refl _ _).alloc (Nat.le_refl _) _
   have hC : CellsAt z6 z5.heap.size ([.int .i64 2, .int .i64 0, .string ⟨#[]⟩, .slice (some ⟨z3.heap.size, 0, none⟩) 3 3]) := by rw [← hx_]; exact CellsAt.new z5 _ _
   clear hx_
   replace hFR := rf_up hFR hbq
   replace hbc := hbc.trans (hbq.mono hbc.size)
   have hz_ := hz
   replace hz := hbc.size
   have hX := box_rs hL hC hz_ hFR hbr.size
   replace hX := Lib.hid hX
   clear hC hFR
   refine hkO hK (⟨CT hbc hbW e1, CT hbc hbW e2, CT hbc hbW e3⟩) fun hHeld => ?_
   clear hK K
   refine rdO 23 fun K hK => ?_
   refine step_appRS (rFB_ok _) (rFB_one _) (hL.below (rFB_ok _) hbc) hX.out fld_und fld_info (by rw [List.length_take]; omega) ?_
   intro v5 z9 hL5 hg5
   clear hX hg5
   refine hkO hK (⟨(same_at hL.bel hL5.bel (p := ⟨b, _, none⟩) hb1).trans e1, (same_at hL.bel hL5.bel (p := ⟨b, _, none⟩) hb1).trans e2, (same_at hL.bel hL5.bel (p := ⟨b, _, none⟩) hb1).trans e3⟩) fun hHeld => ?_
   clear hK K
   refine tkQ 24 ?_
   refine wpAnyH_done (by kernel_rfl) ?_ _
   clear hHeld
   obtain ⟨A5, c5, rfl⟩ := hL5.form
   generalize hnn : (m.take i ++ [fL [f1, (fI (wrap64 (n2 : Int))), f3]]).length = n5 at *
   replace hnn := Lib.hid hnn
   have i3 : IntKind.i64.wrap ((i : Int) + 1) = (i : Int) + 1 := IntWalk.i64_in _ (by omega)
   repeat' (first | go_skip | go_guarded | go_step)
   go_roundw
   case rel =>
    have e5 : m.take (i + 1) = m.take i ++ [fL [f1, (fI (wrap64 (n2 : Int))), f3]] := by rw [List.take_add_one, hx]; rfl
    refine ⟨i + 1, A5, n5, c5, by omega, by congr 1, rfl, by rw [e5]; exact hnn.out.symm, by rw [e5]; exact hL5⟩
   case measure => simp [intOf]; omega
  ·obtain rfl : i = m.length := by omega
   have hn2 := hn'.out
   rw [List.take_length] at hL hn2
   subst hn2
   clear hn'
   repeat' (first | go_skip | go_guarded | go_step)
   refine (seq_any A' m.length c' wr).mono ?_
   rintro e w2 ⟨rfl, hb2⟩
   dsimp only
   have hF := ownR_fl (hL.below (rFB_ok _) hb2) (Nat.le_refl _)
   have zw2 := hb2.size
   have hP3 : OwnB w w2 [(w.heap.size, [.int .i64 0, .int .i64 0, .string ⟨#[]⟩, .slice none 0 0])] := hP2.kept hb2
   clear c0_0 c0_1 c0_2 c0_3 cf0 hP2
   have c0_0 := hP3.c 0 0
   have c0_1 := hP3.c 0 1
   have c0_2 := hP3.c 0 2
   have c0_3 := hP3.c 0 3
   have cf0 := hP3.fr 0
   clear zw2
   repeat' ((fail_if_success at_builtin); first | go_skip | go_guarded | go_step)
   have hO9 := (((hP3.store 0 rfl 0 (.int .i64 2)).store 0 rfl 1 (.int .i64 0)).store 0 rfl 2 (.string ⟨#[]⟩)).store 0 rfl 3 (.slice A' m.length c')
   have h9 := far4g w2 w.heap.size (.int .i64 2) (.int .i64 0) (.string ⟨#[]⟩) (.slice A' m.length c')
   generalize World.setCell (World.setCell (World.setCell (World.setCell w2 _ _) _ _) _ _) _ _ = w9 at *
   have y0 := hO9.c 0 0
   have y1 := hO9.c 0 1
   have y2 := hO9.c 0 2
   have y3 := hO9.c 0 3
   replace hF := rf_far (w := w) hF hz0 (Nat.le_of_lt hz0) h9
   refine bodyPost_ret (v := .agg #[.int .i64 2, .int .i64 0, .string ⟨#[]⟩, .slice A' m.length c']) (by simp only [results, Tryz.results113]; go_simp; first | done | exact ⟨rfl, rfl, rfl⟩ | rfl) rfl ?_
   have e9 := ofL_length m
   exact ⟨A', c', by show _ = Ending.returned (.agg #[.int .i64 2, .int .i64 0, .string ⟨#[]⟩, .slice A' (ofL m).length c']); rw [e9], by show rF _ _ _ [.int .i64 2, .int .i64 0, .string ⟨#[]⟩, .slice A' (ofL m).length c']; rw [e9]; exact hF, hO9.below⟩
theorem tests_fc : Form1 114 (Cod.list Cod.test) := by
 intro w f v hr hs
 obtain ⟨m, A, c, rfl, h, hR⟩ := hr
 injection h with h
 subst h
 rw [fsz_fL] at hs
 have hm := lsz_length m
 go_enter Tryz.func114, Tryz.ntmps114
 go_upto_region 1 with (fail)
 generalize hx_ : World.alloc w _ = wo1
 have hP1 : OwnB w wo1 [(w.heap.size, [.int .i64 0, .int .i64 0, .string ⟨#[]⟩, .slice none 0 0])] := by rw [← hx_]; exact (OwnB.refl w).new #[.int .i64 0, .int .i64 0, .string ⟨#[]⟩, .slice none 0 0] _ (g := w.heap.size)
 have hbn : Below w.heap.size w wo1 := by rw [← hx_]; exact (Below.refl _ _).alloc (Nat.le_refl _) _
 have zwo1 : wo1.heap.size = w.heap.size + 1 := by rw [← hx_]; simp
 clear hx_
 have c0_0 := hP1.c 0 0
 have c0_1 := hP1.c 0 1
 have c0_2 := hP1.c 0 2
 have c0_3 := hP1.c 0 3
 have cf0 := hP1.fr 0
 clear hbn
 clear zwo1
 have hb0 := hP1.below
 have hz0 : w.heap.size < wo1.heap.size := hP1.lt 0
 have hR0 := OwnR.nil (r := rFB wo1.heap.size) (sz := 4) wo1 fldT
 replace hR := Lib.hid hR
 repeat' (first | go_skip | go_guarded | go_step)
 go_loopw [3, 4] (fun u3 u4 wr => ∃ (i : Nat) (A' : Option Addr) (n' c' : Nat), i ≤ m.length ∧ u4 = .int .i64 (i : Int) ∧ u3 = .slice A' n' c' ∧ n' = (m.take i).length ∧ OwnR (rFB wo1.heap.size) 4 wo1 wr fldT (.slice A' n' c') (m.take i)) (fun _ u4 _ => m.length - (intOf u4).toNat)
 case atStart => exact ⟨0, none, 0, 0, Nat.zero_le _, rfl, rfl, rfl, hR0⟩
 case round =>
  clear hR0
  obtain ⟨i, A', n', c', hi, rfl, rfl, hn', hL⟩ := hrel
  replace hn' := Lib.hid hn'
  have hbr := hL.bel
  have hP2 : OwnB w wr [(w.heap.size, [.int .i64 0, .int .i64 0, .string ⟨#[]⟩, .slice none 0 0])] := hP1.kept hbr
  clear c0_0 c0_1 c0_2 c0_3 cf0 hP1
  have c0_0 := hP2.c 0 0
  have c0_1 := hP2.c 0 1
  have c0_2 := hP2.c 0 2
  have c0_3 := hP2.c 0 3
  have cf0 := hP2.fr 0
  by_cases hlt : i < m.length
  ·obtain ⟨x, hx⟩ : ∃ x, m[i]? = some x := ⟨_, List.getElem?_eq_getElem hlt⟩
   obtain ⟨b, o', k1, rfl, hb, hkl, hrx, hat⟩ := hR.out.at_ hx
   have hbw : Below w.heap.size w wr := hb0.trans (hbr.mono hb0.size)
   have hbW : b < wr.heap.size := Nat.lt_of_lt_of_le hb hbw.size
   have hb1 : b < wo1.heap.size := Nat.lt_trans hb hz0
   have hsx : fsz x ≤ 1000000000 := by have := fsz_mem (List.mem_of_getElem? hx); omega
   have i1 : (0 : Int) ≤ (i : Int) := by omega
   have i2 : (i : Int) < (m.length : Int) := by omega
   obtain ⟨fs, rfl, hr⟩ := hrx
   rw [fsz_fL] at hsx
   have hat' : wr.rangeAt b (o' + i * 3) k1 := fun j u hu => (hbw.cell (p := ⟨b, o' + i * 3 + j, none⟩) hb).trans (hat j u hu)
   clear hat
   obtain ⟨f1, r1, k1, d1, rfl, rfl, q1, hr⟩ := hr
   obtain ⟨f2, r2, k2, d2, rfl, rfl, q2, hr⟩ := hr
   obtain ⟨f3, r3, k3, d3, rfl, rfl, q3, hr⟩ := hr
   obtain ⟨rfl, rfl⟩ := hr
   obtain ⟨s1, s2, s3, -⟩ := szs (N := 1000000000) (l := [f1, f2, f3]) (by omega)
   obtain ⟨v1, rfl⟩ := one_list (Cod.str_ok.len q1)
   obtain ⟨v2, rfl⟩ := one_list (Cod.int_ok.len q2)
   obtain ⟨v3, rfl⟩ := one_list (Cod.int_ok.len q3)
   have e1 : wr.cell? ⟨b, o' + i * 3, none⟩ = some (v1) := hat' 0 _ rfl
   have e2 : wr.cell? ⟨b, o' + i * 3 + 1, none⟩ = some (v2) := hat' 1 _ rfl
   have e3 : wr.cell? ⟨b, o' + i * 3 + 2, none⟩ = some (v3) := hat' 2 _ rfl
   clear hat'
   go_upto_region 5 with (fail)
   have hbc : Below wr.heap.size wr wr.drew := (Below.refl _ _).drew
   have hz := hbc.size
   refine wp_region_held_drew (S := (fun w' => w'.cell? ⟨b, o' + i * 3, none⟩ = some (v1) ∧ w'.cell? ⟨b, o' + i * 3 + 1, none⟩ = some (v2) ∧ w'.cell? ⟨b, o' + i * 3 + 2, none⟩ = some (v3))) (by kernel_rfl) ?_ (fun hHeld => ?_)
   ·(try dsimp only)
    exact ⟨CT hbc hbW e1, CT hbc hbW e2, CT hbc hbW e3⟩
   generalize World.drew wr = vd at *
   refine tkQ 0 ?_
   refine tkQ 1 ?_
   refine tkQ 2 ?_
   refine tkQ 3 ?_
   refine tkQ 4 ?_
   refine tkQ 5 ?_
   refine tkQ 7 ?_
   refine tkQ 8 ?_
   refine tkQ 9 ?_
   refine tkQ 10 ?_
   refine tkQ 11 ?_
   refine tkQ 13 ?_
   refine tkQ 14 ?_
   refine tkQ 15 ?_
   refine tkQ 16 ?_
   refine tkQ 17 ?_
   refine rdO 6 fun K hK => ?_
   go_simp
   go_at_call 65
   refine (str_fc vd f1 v1 (Cod.str_ok.up q1 (hbw.trans (hbc.mono hbw.size))) s1).mono ?_
   rintro e z1 ⟨A1, c1, rfl, hF1, hbq⟩
   dsimp only
   replace hF1 := rf_lo hF1 hz
   replace hbc := hbc.trans (hbq.mono hbc.size)
   have hz_ := hz
   replace hz := hbc.size
   refine hkO hK (⟨CT hbc hbW e1, CT hbc hbW e2, CT hbc hbW e3⟩) fun hHeld => ?_
   clear hK K
   refine rdO 12 fun K hK => ?_
   go_simp
   go_at_call 64
   refine (num_fc z1 f2 v2 (Cod.int_ok.up q2 (hbw.trans (hbc.mono hbw.size))) s2).mono ?_
   rintro e z2 ⟨A2, c2, rfl, hF2, hbq⟩
   dsimp only
   replace hF2 := rf_lo hF2 hz
   replace hF1 := rf_up hF1 hbq
   replace hbc := hbc.trans (hbq.mono hbc.size)
   have hz_ := hz
   replace hz := hbc.size
   refine hkO hK (⟨CT hbc hbW e1, CT hbc hbW e2, CT hbc hbW e3⟩) fun hHeld => ?_
   clear hK K
   refine rdO 18 fun K hK => ?_
   go_simp
   go_at_call 64
   refine (num_fc z2 f3 v3 (Cod.int_ok.up q3 (hbw.trans (hbc.mono hbw.size))) s3).mono ?_
   rintro e z3 ⟨A3, c3, rfl, hF3, hbq⟩
   dsimp only
   replace hF3 := rf_lo hF3 hz
   replace hF1 := rf_up hF1 hbq
   replace hF2 := rf_up hF2 hbq
   replace hbc := hbc.trans (hbq.mono hbc.size)
   have hz_ := hz
   replace hz := hbc.size
   refine hkO hK (⟨CT hbc hbW e1, CT hbc hbW e2, CT hbc hbW e3⟩) fun hHeld => ?_
   clear hK K
   refine rdO 19 fun K hK => ?_
   go_simp
   generalize hx_ : World.alloc z3 _ = z4
   have hbq : Below z3.heap.size z3 z4 := by rw [← hx_]; exact (Below.refl _ _).alloc (Nat.le_refl _) _
   have hC : CellsAt z4 z3.heap.size (fC f1 A1 c1 ++ (fC f2 A2 c2 ++ (fC f3 A3 c3 ++ ([])))) := by rw [← hx_]; exact CellsAt.new z3 _ _
   clear hx_
   replace hF1 := rf_up hF1 hbq
   replace hF2 := rf_up hF2 hbq
   replace hF3 := rf_up hF3 hbq
   replace hbc := hbc.trans (hbq.mono hbc.size)
   have hz_ := hz
   replace hz := hbc.size
   have hL := rl_cons hF1 (rl_cons hF2 (rl_cons hF3 (rl_nil)))
   have hFR := seq_of hC hz_ hL (n := 3) rfl
   clear hC hL hF1 hF2 hF3
   refine hkO hK (⟨CT hbc hbW e1, CT hbc hbW e2, CT hbc hbW e3⟩) fun hHeld => ?_
   clear hK K
   refine rdO 20 fun K hK => ?_
   go_simp
   go_at_call 39
   refine (seq_any _ _ _ _).mono ?_
   rintro e z5 ⟨rfl, hbq⟩
   dsimp only
   replace hFR := rf_up hFR hbq
   replace hbc := hbc.trans (hbq.mono hbc.size)
   have hz_ := hz
   replace hz := hbc.size
   refine hkO hK (⟨CT hbc hbW e1, CT hbc hbW e2, CT hbc hbW e3⟩) fun hHeld => ?_
   clear hK K
   refine rdO 21 fun K hK => ?_
   go_simp
   generalize hx_ : World.alloc z5 _ = z6
   have hbq : Below z5.heap.size z5 z6 := by rw [← hx_]; exact (Below.refl _ _).alloc (Nat.le_refl _) _
   have hC : CellsAt z6 z5.heap.size ([.int .i64 2, .int .i64 0, .string ⟨#[]⟩, .slice (some ⟨z3.heap.size, 0, none⟩) 3 3]) := by rw [← hx_]; exact CellsAt.new z5 _ _
   clear hx_
   replace hFR := rf_up hFR hbq
   replace hbc := hbc.trans (hbq.mono hbc.size)
   have hz_ := hz
   replace hz := hbc.size
   have hX := box_rs hL hC hz_ hFR hbr.size
   replace hX := Lib.hid hX
   clear hC hFR
   refine hkO hK (⟨CT hbc hbW e1, CT hbc hbW e2, CT hbc hbW e3⟩) fun hHeld => ?_
   clear hK K
   refine rdO 22 fun K hK => ?_
   refine step_appRS (rFB_ok _) (rFB_one _) (hL.below (rFB_ok _) hbc) hX.out fld_und fld_info (by rw [List.length_take]; omega) ?_
   intro v5 z9 hL5 hg5
   clear hX hg5
   refine hkO hK (⟨(same_at hL.bel hL5.bel (p := ⟨b, _, none⟩) hb1).trans e1, (same_at hL.bel hL5.bel (p := ⟨b, _, none⟩) hb1).trans e2, (same_at hL.bel hL5.bel (p := ⟨b, _, none⟩) hb1).trans e3⟩) fun hHeld => ?_
   clear hK K
   refine tkQ 23 ?_
   refine wpAnyH_done (by kernel_rfl) ?_ _
   clear hHeld
   obtain ⟨A5, c5, rfl⟩ := hL5.form
   generalize hnn : (m.take i ++ [fL [f1, f2, f3]]).length = n5 at *
   replace hnn := Lib.hid hnn
   have i3 : IntKind.i64.wrap ((i : Int) + 1) = (i : Int) + 1 := IntWalk.i64_in _ (by omega)
   repeat' (first | go_skip | go_guarded | go_step)
   go_roundw
   case rel =>
    have e5 : m.take (i + 1) = m.take i ++ [fL [f1, f2, f3]] := by rw [List.take_add_one, hx]; rfl
    refine ⟨i + 1, A5, n5, c5, by omega, by congr 1, rfl, by rw [e5]; exact hnn.out.symm, by rw [e5]; exact hL5⟩
   case measure => simp [intOf]; omega
  ·obtain rfl : i = m.length := by omega
   have hn2 := hn'.out
   rw [List.take_length] at hL hn2
   subst hn2
   clear hn'
   repeat' (first | go_skip | go_guarded | go_step)
   refine (seq_any A' m.length c' wr).mono ?_
   rintro e w2 ⟨rfl, hb2⟩
   dsimp only
   have hF := ownR_fl (hL.below (rFB_ok _) hb2) (Nat.le_refl _)
   have zw2 := hb2.size
   have hP3 : OwnB w w2 [(w.heap.size, [.int .i64 0, .int .i64 0, .string ⟨#[]⟩, .slice none 0 0])] := hP2.kept hb2
   clear c0_0 c0_1 c0_2 c0_3 cf0 hP2
   have c0_0 := hP3.c 0 0
   have c0_1 := hP3.c 0 1
   have c0_2 := hP3.c 0 2
   have c0_3 := hP3.c 0 3
   have cf0 := hP3.fr 0
   clear zw2
   repeat' ((fail_if_success at_builtin); first | go_skip | go_guarded | go_step)
   have hO9 := (((hP3.store 0 rfl 0 (.int .i64 2)).store 0 rfl 1 (.int .i64 0)).store 0 rfl 2 (.string ⟨#[]⟩)).store 0 rfl 3 (.slice A' m.length c')
   have h9 := far4g w2 w.heap.size (.int .i64 2) (.int .i64 0) (.string ⟨#[]⟩) (.slice A' m.length c')
   generalize World.setCell (World.setCell (World.setCell (World.setCell w2 _ _) _ _) _ _) _ _ = w9 at *
   have y0 := hO9.c 0 0
   have y1 := hO9.c 0 1
   have y2 := hO9.c 0 2
   have y3 := hO9.c 0 3
   replace hF := rf_far (w := w) hF hz0 (Nat.le_of_lt hz0) h9
   refine bodyPost_ret (v := .agg #[.int .i64 2, .int .i64 0, .string ⟨#[]⟩, .slice A' m.length c']) (by simp only [results, Tryz.results114]; go_simp; first | done | exact ⟨rfl, rfl, rfl⟩ | rfl) rfl ?_
   have e9 := ofL_length m
   exact ⟨A', c', by show _ = Ending.returned (.agg #[.int .i64 2, .int .i64 0, .string ⟨#[]⟩, .slice A' (ofL m).length c']); rw [e9], by show rF _ _ _ [.int .i64 2, .int .i64 0, .string ⟨#[]⟩, .slice A' (ofL m).length c']; rw [e9]; exact hF, hO9.below⟩
theorem result_fc : FormS 69 Cod.result := by
 intro w f cs hr hs
 obtain ⟨fs, rfl, hr⟩ := hr
 obtain ⟨f1, r1, k1, d1, rfl, rfl, q1, hr⟩ := hr
 obtain ⟨f2, r2, k2, d2, rfl, rfl, q2, hr⟩ := hr
 obtain ⟨f3, r3, k3, d3, rfl, rfl, q3, hr⟩ := hr
 obtain ⟨f4, r4, k4, d4, rfl, rfl, q4, hr⟩ := hr
 obtain ⟨f5, r5, k5, d5, rfl, rfl, q5, hr⟩ := hr
 obtain ⟨f6, r6, k6, d6, rfl, rfl, q6, hr⟩ := hr
 obtain ⟨rfl, rfl⟩ := hr
 rw [fsz_fL] at hs
 obtain ⟨s1, s2, s3, s4, s5, s6, -⟩ := szs (N := 1000000000) (l := [f1, f2, f3, f4, f5, f6]) (by omega)
 obtain ⟨v1, rfl⟩ := one_list (Cod.int_ok.len q1)
 obtain ⟨v2, rfl⟩ := one_list (Cod.int_ok.len q2)
 obtain ⟨v3, rfl⟩ := one_list ((Cod.list_ok Cod.output_ok).len q3)
 obtain ⟨v4, rfl⟩ := one_list ((Cod.list_ok Cod.output_ok).len q4)
 obtain ⟨v5, rfl⟩ := one_list ((Cod.list_ok Cod.test_ok).len q5)
 obtain ⟨v6, rfl⟩ := one_list (Cod.str_ok.len q6)
 show Calls _ _ #[.agg #[v1, v2, v3, v4, v5, v6]] _ _
 go_enter Tryz.func69, Tryz.ntmps69
 go_upto_region 1 with (fail)
 generalize hx_ : World.alloc (World.alloc w _) _ = wo1
 have hP1 : OwnB w wo1 [(w.heap.size + 1, [.int .i64 0, .int .i64 0, .string ⟨#[]⟩, .slice none 0 0]), (w.heap.size, [v1, v2, v3, v4, v5, v6])] := by rw [← hx_]; exact ((OwnB.refl w).new #[v1, v2, v3, v4, v5, v6] _ (g := w.heap.size)).new #[.int .i64 0, .int .i64 0, .string ⟨#[]⟩, .slice none 0 0] _ (g := w.heap.size + 1)
 have hbn : Below w.heap.size w wo1 := by rw [← hx_]; exact ((Below.refl _ _).alloc (Nat.le_refl _) _).alloc (by simp) _
 have zwo1 : wo1.heap.size = w.heap.size + 2 := by rw [← hx_]; simp
 clear hx_
 have c0_0 := hP1.c 0 0
 have c0_1 := hP1.c 0 1
 have c0_2 := hP1.c 0 2
 have c0_3 := hP1.c 0 3
 have cf0 := hP1.fr 0
 have c1_0 := hP1.c 1 0
 have c1_1 := hP1.c 1 1
 have c1_2 := hP1.c 1 2
 have c1_3 := hP1.c 1 3
 have c1_4 := hP1.c 1 4
 have c1_5 := hP1.c 1 5
 have cf1 := hP1.fr 1
 clear hbn
 have hz : wo1.heap.size ≤ wo1.heap.size := Nat.le_refl _
 have hlt1 : w.heap.size + 1 < wo1.heap.size := hP1.lt 0
 clear zwo1
 have hO := hP1.drew
 have hz : wo1.heap.size ≤ wo1.drew.heap.size := Nat.le_refl _
 refine wp_region_held_drew (S := (fun w' => w'.cell? ⟨w.heap.size, 0, none⟩ = some (v1) ∧ w'.cell? ⟨w.heap.size, 1, none⟩ = some (v2) ∧ w'.cell? ⟨w.heap.size, 2, none⟩ = some (v3) ∧ w'.cell? ⟨w.heap.size, 3, none⟩ = some (v4) ∧ w'.cell? ⟨w.heap.size, 4, none⟩ = some (v5) ∧ w'.cell? ⟨w.heap.size, 5, none⟩ = some (v6))) (by kernel_rfl) ?_ (fun hHeld => ?_)
 ·(try dsimp only)
  exact ⟨hO.c 1 0, hO.c 1 1, hO.c 1 2, hO.c 1 3, hO.c 1 4, hO.c 1 5⟩
 generalize World.drew wo1 = vd at *
 refine tkQ 0 ?_
 refine tkQ 1 ?_
 refine tkQ 3 ?_
 refine tkQ 4 ?_
 refine tkQ 6 ?_
 refine tkQ 7 ?_
 refine tkQ 9 ?_
 refine tkQ 10 ?_
 refine tkQ 12 ?_
 refine tkQ 13 ?_
 refine tkQ 15 ?_
 refine tkQ 16 ?_
 refine rdO 2 fun K hK => ?_
 go_simp
 go_at_call 64
 refine (num_fc vd f1 v1 (Cod.int_ok.up q1 hO.below) s1).mono ?_
 rintro e z1 ⟨A1, c1, rfl, hF1, hbq⟩
 dsimp only
 replace hF1 := rf_lo hF1 hz
 replace hO := hO.kept hbq
 have hz_ := hz
 replace hz := Nat.le_trans hz hbq.size
 refine hkO hK ⟨hO.c 1 0, hO.c 1 1, hO.c 1 2, hO.c 1 3, hO.c 1 4, hO.c 1 5⟩ fun hHeld => ?_
 clear hK K
 refine rdO 5 fun K hK => ?_
 go_simp
 go_at_call 64
 refine (num_fc z1 f2 v2 (Cod.int_ok.up q2 hO.below) s2).mono ?_
 rintro e z2 ⟨A2, c2, rfl, hF2, hbq⟩
 dsimp only
 replace hF2 := rf_lo hF2 hz
 replace hF1 := rf_up hF1 hbq
 replace hO := hO.kept hbq
 have hz_ := hz
 replace hz := Nat.le_trans hz hbq.size
 refine hkO hK ⟨hO.c 1 0, hO.c 1 1, hO.c 1 2, hO.c 1 3, hO.c 1 4, hO.c 1 5⟩ fun hHeld => ?_
 clear hK K
 refine rdO 8 fun K hK => ?_
 go_simp
 go_at_call 113
 refine (outputs_fc z2 f3 v3 ((Cod.list_ok Cod.output_ok).up q3 hO.below) s3).mono ?_
 rintro e z3 ⟨A3, c3, rfl, hF3, hbq⟩
 dsimp only
 replace hF3 := rf_lo hF3 hz
 replace hF1 := rf_up hF1 hbq
 replace hF2 := rf_up hF2 hbq
 replace hO := hO.kept hbq
 have hz_ := hz
 replace hz := Nat.le_trans hz hbq.size
 refine hkO hK ⟨hO.c 1 0, hO.c 1 1, hO.c 1 2, hO.c 1 3, hO.c 1 4, hO.c 1 5⟩ fun hHeld => ?_
 clear hK K
 refine rdO 11 fun K hK => ?_
 go_simp
 go_at_call 113
 refine (outputs_fc z3 f4 v4 ((Cod.list_ok Cod.output_ok).up q4 hO.below) s4).mono ?_
 rintro e z4 ⟨A4, c4, rfl, hF4, hbq⟩
 dsimp only
 replace hF4 := rf_lo hF4 hz
 replace hF1 := rf_up hF1 hbq
 replace hF2 := rf_up hF2 hbq
 replace hF3 := rf_up hF3 hbq
 replace hO := hO.kept hbq
 have hz_ := hz
 replace hz := Nat.le_trans hz hbq.size
 refine hkO hK ⟨hO.c 1 0, hO.c 1 1, hO.c 1 2, hO.c 1 3, hO.c 1 4, hO.c 1 5⟩ fun hHeld => ?_
 clear hK K
 refine rdO 14 fun K hK => ?_
 go_simp
 go_at_call 114
 refine (tests_fc z4 f5 v5 ((Cod.list_ok Cod.test_ok).up q5 hO.below) s5).mono ?_
 rintro e z5 ⟨A5, c5, rfl, hF5, hbq⟩
 dsimp only
 replace hF5 := rf_lo hF5 hz
 replace hF1 := rf_up hF1 hbq
 replace hF2 := rf_up hF2 hbq
 replace hF3 := rf_up hF3 hbq
 replace hF4 := rf_up hF4 hbq
 replace hO := hO.kept hbq
 have hz_ := hz
 replace hz := Nat.le_trans hz hbq.size
 refine hkO hK ⟨hO.c 1 0, hO.c 1 1, hO.c 1 2, hO.c 1 3, hO.c 1 4, hO.c 1 5⟩ fun hHeld => ?_
 clear hK K
 refine rdO 17 fun K hK => ?_
 go_simp
 go_at_call 65
 refine (str_fc z5 f6 v6 (Cod.str_ok.up q6 hO.below) s6).mono ?_
 rintro e z6 ⟨A6, c6, rfl, hF6, hbq⟩
 dsimp only
 replace hF6 := rf_lo hF6 hz
 replace hF1 := rf_up hF1 hbq
 replace hF2 := rf_up hF2 hbq
 replace hF3 := rf_up hF3 hbq
 replace hF4 := rf_up hF4 hbq
 replace hF5 := rf_up hF5 hbq
 replace hO := hO.kept hbq
 have hz_ := hz
 replace hz := Nat.le_trans hz hbq.size
 refine hkO hK ⟨hO.c 1 0, hO.c 1 1, hO.c 1 2, hO.c 1 3, hO.c 1 4, hO.c 1 5⟩ fun hHeld => ?_
 clear hK K
 refine rdO 18 fun K hK => ?_
 go_simp
 generalize hx_ : World.alloc z6 _ = z7
 have hbq : Below z6.heap.size z6 z7 := by rw [← hx_]; exact (Below.refl _ _).alloc (Nat.le_refl _) _
 have hC : CellsAt z7 z6.heap.size (fC f1 A1 c1 ++ (fC f2 A2 c2 ++ (fC f3 A3 c3 ++ (fC f4 A4 c4 ++ (fC f5 A5 c5 ++ (fC f6 A6 c6 ++ ([]))))))) := by rw [← hx_]; exact CellsAt.new z6 _ _
 clear hx_
 replace hF1 := rf_up hF1 hbq
 replace hF2 := rf_up hF2 hbq
 replace hF3 := rf_up hF3 hbq
 replace hF4 := rf_up hF4 hbq
 replace hF5 := rf_up hF5 hbq
 replace hF6 := rf_up hF6 hbq
 replace hO := hO.kept hbq
 have hz_ := hz
 replace hz := Nat.le_trans hz hbq.size
 have hL := rl_cons hF1 (rl_cons hF2 (rl_cons hF3 (rl_cons hF4 (rl_cons hF5 (rl_cons hF6 (rl_nil))))))
 have hFR := seq_of hC hz_ hL (n := 6) rfl
 clear hC hL hF1 hF2 hF3 hF4 hF5 hF6
 refine hkO hK ⟨hO.c 1 0, hO.c 1 1, hO.c 1 2, hO.c 1 3, hO.c 1 4, hO.c 1 5⟩ fun hHeld => ?_
 clear hK K
 refine rdO 19 fun K hK => ?_
 go_simp
 go_at_call 39
 refine (seq_any _ _ _ _).mono ?_
 rintro e z8 ⟨rfl, hbq⟩
 dsimp only
 replace hFR := rf_up hFR hbq
 replace hO := hO.kept hbq
 have hz_ := hz
 replace hz := Nat.le_trans hz hbq.size
 refine hkO hK ⟨hO.c 1 0, hO.c 1 1, hO.c 1 2, hO.c 1 3, hO.c 1 4, hO.c 1 5⟩ fun hHeld => ?_
 clear hK K
 refine rdO 20 fun K hK => ?_
 have y0 := hO.c 0 0
 have y1 := hO.c 0 1
 have y2 := hO.c 0 2
 have y3 := hO.c 0 3
 have yf := hO.fr 0
 go_simp
 clear y0 y1 y2 y3 yf
 have hO9 := (((hO.store 0 rfl 0 (.int .i64 2)).store 0 rfl 1 (.int .i64 0)).store 0 rfl 2 (.string ⟨#[]⟩)).store 0 rfl 3 (.slice (some ⟨z6.heap.size, 0, none⟩) 6 6)
 have h9 := far4g z8 (w.heap.size + 1) (.int .i64 2) (.int .i64 0) (.string ⟨#[]⟩) (.slice (some ⟨z6.heap.size, 0, none⟩) 6 6)
 generalize World.setCell (World.setCell (World.setCell (World.setCell z8 _ _) _ _) _ _) _ _ = w9 at *
 refine hkO hK ⟨hO9.c 1 0, hO9.c 1 1, hO9.c 1 2, hO9.c 1 3, hO9.c 1 4, hO9.c 1 5⟩ fun hHeld => ?_
 clear hK K
 refine wpAnyH_done (by kernel_rfl) ?_ _
 clear hHeld
 have y0 := hO9.c 0 0
 have y1 := hO9.c 0 1
 have y2 := hO9.c 0 2
 have y3 := hO9.c 0 3
 replace hFR := rf_far (w := w) hFR hlt1 (Nat.le_of_lt (Nat.lt_of_succ_lt hlt1)) h9
 repeat' (first | go_skip | go_guarded | go_step)
 refine bodyPost_ret (v := .agg #[.int .i64 2, .int .i64 0, .string ⟨#[]⟩, .slice (some ⟨z6.heap.size, 0, none⟩) 6 6]) (by simp only [results, Tryz.results69]; go_simp; first | done | exact ⟨rfl, rfl, rfl⟩ | rfl) rfl ?_
 exact ⟨some ⟨z6.heap.size, 0, none⟩, 6, rfl, hFR, hO9.below⟩
theorem machine_fc : FormS 70 Cod.machine := by
 intro w f cs hr hs
 obtain ⟨fs, rfl, hr⟩ := hr
 obtain ⟨f1, r1, k1, d1, rfl, rfl, q1, hr⟩ := hr
 obtain ⟨f2, r2, k2, d2, rfl, rfl, q2, hr⟩ := hr
 obtain ⟨f3, r3, k3, d3, rfl, rfl, q3, hr⟩ := hr
 obtain ⟨f4, r4, k4, d4, rfl, rfl, q4, hr⟩ := hr
 obtain ⟨f5, r5, k5, d5, rfl, rfl, q5, hr⟩ := hr
 obtain ⟨f6, r6, k6, d6, rfl, rfl, q6, hr⟩ := hr
 obtain ⟨f7, r7, k7, d7, rfl, rfl, q7, hr⟩ := hr
 obtain ⟨f8, r8, k8, d8, rfl, rfl, q8, hr⟩ := hr
 obtain ⟨f9, r9, k9, d9, rfl, rfl, q9, hr⟩ := hr
 obtain ⟨rfl, rfl⟩ := hr
 rw [fsz_fL] at hs
 obtain ⟨s1, s2, s3, s4, s5, s6, s7, s8, s9, -⟩ := szs (N := 1000000000) (l := [f1, f2, f3, f4, f5, f6, f7, f8, f9]) (by omega)
 obtain ⟨v1, rfl⟩ := one_list (Cod.str_ok.len q1)
 obtain ⟨v2, rfl⟩ := one_list (Cod.strs_ok.len q2)
 obtain ⟨v3, rfl⟩ := one_list (Cod.int_ok.len q3)
 obtain ⟨v4, rfl⟩ := one_list (Cod.int_ok.len q4)
 obtain ⟨v5, rfl⟩ := one_list (Cod.flag_ok.len q5)
 obtain ⟨v6, rfl⟩ := one_list (Cod.int_ok.len q6)
 obtain ⟨v7, rfl⟩ := one_list (Cod.int_ok.len q7)
 obtain ⟨v8, rfl⟩ := one_list (Cod.int_ok.len q8)
 obtain ⟨v9, rfl⟩ := one_list (Cod.ints_ok.len q9)
 show Calls _ _ #[.agg #[v1, v2, v3, v4, v5, v6, v7, v8, v9]] _ _
 go_enter Tryz.func70, Tryz.ntmps70
 go_upto_region 1 with (fail)
 generalize hx_ : World.alloc (World.alloc w _) _ = wo1
 have hP1 : OwnB w wo1 [(w.heap.size + 1, [.int .i64 0, .int .i64 0, .string ⟨#[]⟩, .slice none 0 0]), (w.heap.size, [v1, v2, v3, v4, v5, v6, v7, v8, v9])] := by rw [← hx_]; exact ((OwnB.refl w).new #[v1, v2, v3, v4, v5, v6, v7, v8, v9] _ (g := w.heap.size)).new #[.int .i64 0, .int .i64 0, .string ⟨#[]⟩, .slice none 0 0] _ (g := w.heap.size + 1)
 have hbn : Below w.heap.size w wo1 := by rw [← hx_]; exact ((Below.refl _ _).alloc (Nat.le_refl _) _).alloc (by simp) _
 have zwo1 : wo1.heap.size = w.heap.size + 2 := by rw [← hx_]; simp
 clear hx_
 have c0_0 := hP1.c 0 0
 have c0_1 := hP1.c 0 1
 have c0_2 := hP1.c 0 2
 have c0_3 := hP1.c 0 3
 have cf0 := hP1.fr 0
 have c1_0 := hP1.c 1 0
 have c1_1 := hP1.c 1 1
 have c1_2 := hP1.c 1 2
 have c1_3 := hP1.c 1 3
 have c1_4 := hP1.c 1 4
 have c1_5 := hP1.c 1 5
 have c1_6 := hP1.c 1 6
 have c1_7 := hP1.c 1 7
 have c1_8 := hP1.c 1 8
 have cf1 := hP1.fr 1
 clear hbn
 have hz : wo1.heap.size ≤ wo1.heap.size := Nat.le_refl _
 have hlt1 : w.heap.size + 1 < wo1.heap.size := hP1.lt 0
 clear zwo1
 have hO := hP1.drew
 have hz : wo1.heap.size ≤ wo1.drew.heap.size := Nat.le_refl _
 refine wp_region_held_drew (S := (fun w' => w'.cell? ⟨w.heap.size, 0, none⟩ = some (v1) ∧ w'.cell? ⟨w.heap.size, 1, none⟩ = some (v2) ∧ w'.cell? ⟨w.heap.size, 2, none⟩ = some (v3) ∧ w'.cell? ⟨w.heap.size, 3, none⟩ = some (v4) ∧ w'.cell? ⟨w.heap.size, 4, none⟩ = some (v5) ∧ w'.cell? ⟨w.heap.size, 5, none⟩ = some (v6) ∧ w'.cell? ⟨w.heap.size, 6, none⟩ = some (v7) ∧ w'.cell? ⟨w.heap.size, 7, none⟩ = some (v8) ∧ w'.cell? ⟨w.heap.size, 8, none⟩ = some (v9))) (by kernel_rfl) ?_ (fun hHeld => ?_)
 ·(try dsimp only)
  exact ⟨hO.c 1 0, hO.c 1 1, hO.c 1 2, hO.c 1 3, hO.c 1 4, hO.c 1 5, hO.c 1 6, hO.c 1 7, hO.c 1 8⟩
 generalize World.drew wo1 = vd at *
 refine tkQ 0 ?_
 refine tkQ 1 ?_
 refine tkQ 3 ?_
 refine tkQ 4 ?_
 refine tkQ 6 ?_
 refine tkQ 7 ?_
 refine tkQ 9 ?_
 refine tkQ 10 ?_
 refine tkQ 12 ?_
 refine tkQ 13 ?_
 refine tkQ 15 ?_
 refine tkQ 16 ?_
 refine tkQ 18 ?_
 refine tkQ 19 ?_
 refine tkQ 21 ?_
 refine tkQ 22 ?_
 refine tkQ 24 ?_
 refine tkQ 25 ?_
 refine rdO 2 fun K hK => ?_
 go_simp
 go_at_call 65
 refine (str_fc vd f1 v1 (Cod.str_ok.up q1 hO.below) s1).mono ?_
 rintro e z1 ⟨A1, c1, rfl, hF1, hbq⟩
 dsimp only
 replace hF1 := rf_lo hF1 hz
 replace hO := hO.kept hbq
 have hz_ := hz
 replace hz := Nat.le_trans hz hbq.size
 refine hkO hK ⟨hO.c 1 0, hO.c 1 1, hO.c 1 2, hO.c 1 3, hO.c 1 4, hO.c 1 5, hO.c 1 6, hO.c 1 7, hO.c 1 8⟩ fun hHeld => ?_
 clear hK K
 refine rdO 5 fun K hK => ?_
 go_simp
 go_at_call 115
 refine (strs_fc z1 f2 v2 (Cod.strs_ok.up q2 hO.below) s2).mono ?_
 rintro e z2 ⟨A2, c2, rfl, hF2, hbq⟩
 dsimp only
 replace hF2 := rf_lo hF2 hz
 replace hF1 := rf_up hF1 hbq
 replace hO := hO.kept hbq
 have hz_ := hz
 replace hz := Nat.le_trans hz hbq.size
 refine hkO hK ⟨hO.c 1 0, hO.c 1 1, hO.c 1 2, hO.c 1 3, hO.c 1 4, hO.c 1 5, hO.c 1 6, hO.c 1 7, hO.c 1 8⟩ fun hHeld => ?_
 clear hK K
 refine rdO 8 fun K hK => ?_
 go_simp
 go_at_call 64
 refine (num_fc z2 f3 v3 (Cod.int_ok.up q3 hO.below) s3).mono ?_
 rintro e z3 ⟨A3, c3, rfl, hF3, hbq⟩
 dsimp only
 replace hF3 := rf_lo hF3 hz
 replace hF1 := rf_up hF1 hbq
 replace hF2 := rf_up hF2 hbq
 replace hO := hO.kept hbq
 have hz_ := hz
 replace hz := Nat.le_trans hz hbq.size
 refine hkO hK ⟨hO.c 1 0, hO.c 1 1, hO.c 1 2, hO.c 1 3, hO.c 1 4, hO.c 1 5, hO.c 1 6, hO.c 1 7, hO.c 1 8⟩ fun hHeld => ?_
 clear hK K
 refine rdO 11 fun K hK => ?_
 go_simp
 go_at_call 64
 refine (num_fc z3 f4 v4 (Cod.int_ok.up q4 hO.below) s4).mono ?_
 rintro e z4 ⟨A4, c4, rfl, hF4, hbq⟩
 dsimp only
 replace hF4 := rf_lo hF4 hz
 replace hF1 := rf_up hF1 hbq
 replace hF2 := rf_up hF2 hbq
 replace hF3 := rf_up hF3 hbq
 replace hO := hO.kept hbq
 have hz_ := hz
 replace hz := Nat.le_trans hz hbq.size
 refine hkO hK ⟨hO.c 1 0, hO.c 1 1, hO.c 1 2, hO.c 1 3, hO.c 1 4, hO.c 1 5, hO.c 1 6, hO.c 1 7, hO.c 1 8⟩ fun hHeld => ?_
 clear hK K
 refine rdO 14 fun K hK => ?_
 go_simp
 go_at_call 111
 refine (flag_fc z4 f5 v5 (Cod.flag_ok.up q5 hO.below) s5).mono ?_
 rintro e z5 ⟨A5, c5, rfl, hF5, hbq⟩
 dsimp only
 replace hF5 := rf_lo hF5 hz
 replace hF1 := rf_up hF1 hbq
 replace hF2 := rf_up hF2 hbq
 replace hF3 := rf_up hF3 hbq
 replace hF4 := rf_up hF4 hbq
 replace hO := hO.kept hbq
 have hz_ := hz
 replace hz := Nat.le_trans hz hbq.size
 refine hkO hK ⟨hO.c 1 0, hO.c 1 1, hO.c 1 2, hO.c 1 3, hO.c 1 4, hO.c 1 5, hO.c 1 6, hO.c 1 7, hO.c 1 8⟩ fun hHeld => ?_
 clear hK K
 refine rdO 17 fun K hK => ?_
 go_simp
 go_at_call 64
 refine (num_fc z5 f6 v6 (Cod.int_ok.up q6 hO.below) s6).mono ?_
 rintro e z6 ⟨A6, c6, rfl, hF6, hbq⟩
 dsimp only
 replace hF6 := rf_lo hF6 hz
 replace hF1 := rf_up hF1 hbq
 replace hF2 := rf_up hF2 hbq
 replace hF3 := rf_up hF3 hbq
 replace hF4 := rf_up hF4 hbq
 replace hF5 := rf_up hF5 hbq
 replace hO := hO.kept hbq
 have hz_ := hz
 replace hz := Nat.le_trans hz hbq.size
 refine hkO hK ⟨hO.c 1 0, hO.c 1 1, hO.c 1 2, hO.c 1 3, hO.c 1 4, hO.c 1 5, hO.c 1 6, hO.c 1 7, hO.c 1 8⟩ fun hHeld => ?_
 clear hK K
 refine rdO 20 fun K hK => ?_
 go_simp
 go_at_call 64
 refine (num_fc z6 f7 v7 (Cod.int_ok.up q7 hO.below) s7).mono ?_
 rintro e z7 ⟨A7, c7, rfl, hF7, hbq⟩
 dsimp only
 replace hF7 := rf_lo hF7 hz
 replace hF1 := rf_up hF1 hbq
 replace hF2 := rf_up hF2 hbq
 replace hF3 := rf_up hF3 hbq
 replace hF4 := rf_up hF4 hbq
 replace hF5 := rf_up hF5 hbq
 replace hF6 := rf_up hF6 hbq
 replace hO := hO.kept hbq
 have hz_ := hz
 replace hz := Nat.le_trans hz hbq.size
 refine hkO hK ⟨hO.c 1 0, hO.c 1 1, hO.c 1 2, hO.c 1 3, hO.c 1 4, hO.c 1 5, hO.c 1 6, hO.c 1 7, hO.c 1 8⟩ fun hHeld => ?_
 clear hK K
 refine rdO 23 fun K hK => ?_
 go_simp
 go_at_call 64
 refine (num_fc z7 f8 v8 (Cod.int_ok.up q8 hO.below) s8).mono ?_
 rintro e z8 ⟨A8, c8, rfl, hF8, hbq⟩
 dsimp only
 replace hF8 := rf_lo hF8 hz
 replace hF1 := rf_up hF1 hbq
 replace hF2 := rf_up hF2 hbq
 replace hF3 := rf_up hF3 hbq
 replace hF4 := rf_up hF4 hbq
 replace hF5 := rf_up hF5 hbq
 replace hF6 := rf_up hF6 hbq
 replace hF7 := rf_up hF7 hbq
 replace hO := hO.kept hbq
 have hz_ := hz
 replace hz := Nat.le_trans hz hbq.size
 refine hkO hK ⟨hO.c 1 0, hO.c 1 1, hO.c 1 2, hO.c 1 3, hO.c 1 4, hO.c 1 5, hO.c 1 6, hO.c 1 7, hO.c 1 8⟩ fun hHeld => ?_
 clear hK K
 refine rdO 26 fun K hK => ?_
 go_simp
 go_at_call 116
 refine (ints_fc z8 f9 v9 (Cod.ints_ok.up q9 hO.below) s9).mono ?_
 rintro e z9 ⟨A9, c9, rfl, hF9, hbq⟩
 dsimp only
 replace hF9 := rf_lo hF9 hz
 replace hF1 := rf_up hF1 hbq
 replace hF2 := rf_up hF2 hbq
 replace hF3 := rf_up hF3 hbq
 replace hF4 := rf_up hF4 hbq
 replace hF5 := rf_up hF5 hbq
 replace hF6 := rf_up hF6 hbq
 replace hF7 := rf_up hF7 hbq
 replace hF8 := rf_up hF8 hbq
 replace hO := hO.kept hbq
 have hz_ := hz
 replace hz := Nat.le_trans hz hbq.size
 refine hkO hK ⟨hO.c 1 0, hO.c 1 1, hO.c 1 2, hO.c 1 3, hO.c 1 4, hO.c 1 5, hO.c 1 6, hO.c 1 7, hO.c 1 8⟩ fun hHeld => ?_
 clear hK K
 refine rdO 27 fun K hK => ?_
 go_simp
 generalize hx_ : World.alloc z9 _ = z10
 have hbq : Below z9.heap.size z9 z10 := by rw [← hx_]; exact (Below.refl _ _).alloc (Nat.le_refl _) _
 have hC : CellsAt z10 z9.heap.size (fC f1 A1 c1 ++ (fC f2 A2 c2 ++ (fC f3 A3 c3 ++ (fC f4 A4 c4 ++ (fC f5 A5 c5 ++ (fC f6 A6 c6 ++ (fC f7 A7 c7 ++ (fC f8 A8 c8 ++ (fC f9 A9 c9 ++ ([])))))))))) := by rw [← hx_]; exact CellsAt.new z9 _ _
 clear hx_
 replace hF1 := rf_up hF1 hbq
 replace hF2 := rf_up hF2 hbq
 replace hF3 := rf_up hF3 hbq
 replace hF4 := rf_up hF4 hbq
 replace hF5 := rf_up hF5 hbq
 replace hF6 := rf_up hF6 hbq
 replace hF7 := rf_up hF7 hbq
 replace hF8 := rf_up hF8 hbq
 replace hF9 := rf_up hF9 hbq
 replace hO := hO.kept hbq
 have hz_ := hz
 replace hz := Nat.le_trans hz hbq.size
 have hL := rl_cons hF1 (rl_cons hF2 (rl_cons hF3 (rl_cons hF4 (rl_cons hF5 (rl_cons hF6 (rl_cons hF7 (rl_cons hF8 (rl_cons hF9 (rl_nil)))))))))
 have hFR := seq_of hC hz_ hL (n := 9) rfl
 clear hC hL hF1 hF2 hF3 hF4 hF5 hF6 hF7 hF8 hF9
 refine hkO hK ⟨hO.c 1 0, hO.c 1 1, hO.c 1 2, hO.c 1 3, hO.c 1 4, hO.c 1 5, hO.c 1 6, hO.c 1 7, hO.c 1 8⟩ fun hHeld => ?_
 clear hK K
 refine rdO 28 fun K hK => ?_
 go_simp
 go_at_call 39
 refine (seq_any _ _ _ _).mono ?_
 rintro e z11 ⟨rfl, hbq⟩
 dsimp only
 replace hFR := rf_up hFR hbq
 replace hO := hO.kept hbq
 have hz_ := hz
 replace hz := Nat.le_trans hz hbq.size
 refine hkO hK ⟨hO.c 1 0, hO.c 1 1, hO.c 1 2, hO.c 1 3, hO.c 1 4, hO.c 1 5, hO.c 1 6, hO.c 1 7, hO.c 1 8⟩ fun hHeld => ?_
 clear hK K
 refine rdO 29 fun K hK => ?_
 have y0 := hO.c 0 0
 have y1 := hO.c 0 1
 have y2 := hO.c 0 2
 have y3 := hO.c 0 3
 have yf := hO.fr 0
 go_simp
 clear y0 y1 y2 y3 yf
 have hO9 := (((hO.store 0 rfl 0 (.int .i64 2)).store 0 rfl 1 (.int .i64 0)).store 0 rfl 2 (.string ⟨#[]⟩)).store 0 rfl 3 (.slice (some ⟨z9.heap.size, 0, none⟩) 9 9)
 have h9 := far4g z11 (w.heap.size + 1) (.int .i64 2) (.int .i64 0) (.string ⟨#[]⟩) (.slice (some ⟨z9.heap.size, 0, none⟩) 9 9)
 generalize World.setCell (World.setCell (World.setCell (World.setCell z11 _ _) _ _) _ _) _ _ = w9 at *
 refine hkO hK ⟨hO9.c 1 0, hO9.c 1 1, hO9.c 1 2, hO9.c 1 3, hO9.c 1 4, hO9.c 1 5, hO9.c 1 6, hO9.c 1 7, hO9.c 1 8⟩ fun hHeld => ?_
 clear hK K
 refine wpAnyH_done (by kernel_rfl) ?_ _
 clear hHeld
 have y0 := hO9.c 0 0
 have y1 := hO9.c 0 1
 have y2 := hO9.c 0 2
 have y3 := hO9.c 0 3
 replace hFR := rf_far (w := w) hFR hlt1 (Nat.le_of_lt (Nat.lt_of_succ_lt hlt1)) h9
 repeat' (first | go_skip | go_guarded | go_step)
 refine bodyPost_ret (v := .agg #[.int .i64 2, .int .i64 0, .string ⟨#[]⟩, .slice (some ⟨z9.heap.size, 0, none⟩) 9 9]) (by simp only [results, Tryz.results70]; go_simp; first | done | exact ⟨rfl, rfl, rfl⟩ | rfl) rfl ?_
 exact ⟨some ⟨z9.heap.size, 0, none⟩, 9, rfl, hFR, hO9.below⟩
theorem secret_fc : FormS 71 Cod.secret := by
 intro w f cs hr hs
 obtain ⟨fs, rfl, hr⟩ := hr
 obtain ⟨f1, r1, k1, d1, rfl, rfl, q1, hr⟩ := hr
 obtain ⟨f2, r2, k2, d2, rfl, rfl, q2, hr⟩ := hr
 obtain ⟨f3, r3, k3, d3, rfl, rfl, q3, hr⟩ := hr
 obtain ⟨f4, r4, k4, d4, rfl, rfl, q4, hr⟩ := hr
 obtain ⟨f5, r5, k5, d5, rfl, rfl, q5, hr⟩ := hr
 obtain ⟨rfl, rfl⟩ := hr
 rw [fsz_fL] at hs
 obtain ⟨s1, s2, s3, s4, s5, -⟩ := szs (N := 1000000000) (l := [f1, f2, f3, f4, f5]) (by omega)
 obtain ⟨v1, rfl⟩ := one_list (Cod.str_ok.len q1)
 obtain ⟨v2, rfl⟩ := one_list (Cod.str_ok.len q2)
 obtain ⟨v3, rfl⟩ := one_list (Cod.int_ok.len q3)
 obtain ⟨v4, rfl⟩ := one_list (Cod.strs_ok.len q4)
 obtain ⟨v5, rfl⟩ := one_list (Cod.strs_ok.len q5)
 show Calls _ _ #[.agg #[v1, v2, v3, v4, v5]] _ _
 go_enter Tryz.func71, Tryz.ntmps71
 go_upto_region 1 with (fail)
 generalize hx_ : World.alloc (World.alloc w _) _ = wo1
 have hP1 : OwnB w wo1 [(w.heap.size + 1, [.int .i64 0, .int .i64 0, .string ⟨#[]⟩, .slice none 0 0]), (w.heap.size, [v1, v2, v3, v4, v5])] := by rw [← hx_]; exact ((OwnB.refl w).new #[v1, v2, v3, v4, v5] _ (g := w.heap.size)).new #[.int .i64 0, .int .i64 0, .string ⟨#[]⟩, .slice none 0 0] _ (g := w.heap.size + 1)
 have hbn : Below w.heap.size w wo1 := by rw [← hx_]; exact ((Below.refl _ _).alloc (Nat.le_refl _) _).alloc (by simp) _
 have zwo1 : wo1.heap.size = w.heap.size + 2 := by rw [← hx_]; simp
 clear hx_
 have c0_0 := hP1.c 0 0
 have c0_1 := hP1.c 0 1
 have c0_2 := hP1.c 0 2
 have c0_3 := hP1.c 0 3
 have cf0 := hP1.fr 0
 have c1_0 := hP1.c 1 0
 have c1_1 := hP1.c 1 1
 have c1_2 := hP1.c 1 2
 have c1_3 := hP1.c 1 3
 have c1_4 := hP1.c 1 4
 have cf1 := hP1.fr 1
 clear hbn
 have hz : wo1.heap.size ≤ wo1.heap.size := Nat.le_refl _
 have hlt1 : w.heap.size + 1 < wo1.heap.size := hP1.lt 0
 clear zwo1
 have hO := hP1.drew
 have hz : wo1.heap.size ≤ wo1.drew.heap.size := Nat.le_refl _
 refine wp_region_held_drew (S := (fun w' => w'.cell? ⟨w.heap.size, 0, none⟩ = some (v1) ∧ w'.cell? ⟨w.heap.size, 1, none⟩ = some (v2) ∧ w'.cell? ⟨w.heap.size, 2, none⟩ = some (v3) ∧ w'.cell? ⟨w.heap.size, 3, none⟩ = some (v4) ∧ w'.cell? ⟨w.heap.size, 4, none⟩ = some (v5))) (by kernel_rfl) ?_ (fun hHeld => ?_)
 ·(try dsimp only)
  exact ⟨hO.c 1 0, hO.c 1 1, hO.c 1 2, hO.c 1 3, hO.c 1 4⟩
 generalize World.drew wo1 = vd at *
 refine tkQ 0 ?_
 refine tkQ 1 ?_
 refine tkQ 3 ?_
 refine tkQ 4 ?_
 refine tkQ 6 ?_
 refine tkQ 7 ?_
 refine tkQ 9 ?_
 refine tkQ 10 ?_
 refine tkQ 12 ?_
 refine tkQ 13 ?_
 refine rdO 2 fun K hK => ?_
 go_simp
 go_at_call 65
 refine (str_fc vd f1 v1 (Cod.str_ok.up q1 hO.below) s1).mono ?_
 rintro e z1 ⟨A1, c1, rfl, hF1, hbq⟩
 dsimp only
 replace hF1 := rf_lo hF1 hz
 replace hO := hO.kept hbq
 have hz_ := hz
 replace hz := Nat.le_trans hz hbq.size
 refine hkO hK ⟨hO.c 1 0, hO.c 1 1, hO.c 1 2, hO.c 1 3, hO.c 1 4⟩ fun hHeld => ?_
 clear hK K
 refine rdO 5 fun K hK => ?_
 go_simp
 go_at_call 65
 refine (str_fc z1 f2 v2 (Cod.str_ok.up q2 hO.below) s2).mono ?_
 rintro e z2 ⟨A2, c2, rfl, hF2, hbq⟩
 dsimp only
 replace hF2 := rf_lo hF2 hz
 replace hF1 := rf_up hF1 hbq
 replace hO := hO.kept hbq
 have hz_ := hz
 replace hz := Nat.le_trans hz hbq.size
 refine hkO hK ⟨hO.c 1 0, hO.c 1 1, hO.c 1 2, hO.c 1 3, hO.c 1 4⟩ fun hHeld => ?_
 clear hK K
 refine rdO 8 fun K hK => ?_
 go_simp
 go_at_call 64
 refine (num_fc z2 f3 v3 (Cod.int_ok.up q3 hO.below) s3).mono ?_
 rintro e z3 ⟨A3, c3, rfl, hF3, hbq⟩
 dsimp only
 replace hF3 := rf_lo hF3 hz
 replace hF1 := rf_up hF1 hbq
 replace hF2 := rf_up hF2 hbq
 replace hO := hO.kept hbq
 have hz_ := hz
 replace hz := Nat.le_trans hz hbq.size
 refine hkO hK ⟨hO.c 1 0, hO.c 1 1, hO.c 1 2, hO.c 1 3, hO.c 1 4⟩ fun hHeld => ?_
 clear hK K
 refine rdO 11 fun K hK => ?_
 go_simp
 go_at_call 115
 refine (strs_fc z3 f4 v4 (Cod.strs_ok.up q4 hO.below) s4).mono ?_
 rintro e z4 ⟨A4, c4, rfl, hF4, hbq⟩
 dsimp only
 replace hF4 := rf_lo hF4 hz
 replace hF1 := rf_up hF1 hbq
 replace hF2 := rf_up hF2 hbq
 replace hF3 := rf_up hF3 hbq
 replace hO := hO.kept hbq
 have hz_ := hz
 replace hz := Nat.le_trans hz hbq.size
 refine hkO hK ⟨hO.c 1 0, hO.c 1 1, hO.c 1 2, hO.c 1 3, hO.c 1 4⟩ fun hHeld => ?_
 clear hK K
 refine rdO 14 fun K hK => ?_
 go_simp
 go_at_call 115
 refine (strs_fc z4 f5 v5 (Cod.strs_ok.up q5 hO.below) s5).mono ?_
 rintro e z5 ⟨A5, c5, rfl, hF5, hbq⟩
 dsimp only
 replace hF5 := rf_lo hF5 hz
 replace hF1 := rf_up hF1 hbq
 replace hF2 := rf_up hF2 hbq
 replace hF3 := rf_up hF3 hbq
 replace hF4 := rf_up hF4 hbq
 replace hO := hO.kept hbq
 have hz_ := hz
 replace hz := Nat.le_trans hz hbq.size
 refine hkO hK ⟨hO.c 1 0, hO.c 1 1, hO.c 1 2, hO.c 1 3, hO.c 1 4⟩ fun hHeld => ?_
 clear hK K
 refine rdO 15 fun K hK => ?_
 go_simp
 generalize hx_ : World.alloc z5 _ = z6
 have hbq : Below z5.heap.size z5 z6 := by rw [← hx_]; exact (Below.refl _ _).alloc (Nat.le_refl _) _
 have hC : CellsAt z6 z5.heap.size (fC f1 A1 c1 ++ (fC f2 A2 c2 ++ (fC f3 A3 c3 ++ (fC f4 A4 c4 ++ (fC f5 A5 c5 ++ ([])))))) := by rw [← hx_]; exact CellsAt.new z5 _ _
 clear hx_
 replace hF1 := rf_up hF1 hbq
 replace hF2 := rf_up hF2 hbq
 replace hF3 := rf_up hF3 hbq
 replace hF4 := rf_up hF4 hbq
 replace hF5 := rf_up hF5 hbq
 replace hO := hO.kept hbq
 have hz_ := hz
 replace hz := Nat.le_trans hz hbq.size
 have hL := rl_cons hF1 (rl_cons hF2 (rl_cons hF3 (rl_cons hF4 (rl_cons hF5 (rl_nil)))))
 have hFR := seq_of hC hz_ hL (n := 5) rfl
 clear hC hL hF1 hF2 hF3 hF4 hF5
 refine hkO hK ⟨hO.c 1 0, hO.c 1 1, hO.c 1 2, hO.c 1 3, hO.c 1 4⟩ fun hHeld => ?_
 clear hK K
 refine rdO 16 fun K hK => ?_
 go_simp
 go_at_call 39
 refine (seq_any _ _ _ _).mono ?_
 rintro e z7 ⟨rfl, hbq⟩
 dsimp only
 replace hFR := rf_up hFR hbq
 replace hO := hO.kept hbq
 have hz_ := hz
 replace hz := Nat.le_trans hz hbq.size
 refine hkO hK ⟨hO.c 1 0, hO.c 1 1, hO.c 1 2, hO.c 1 3, hO.c 1 4⟩ fun hHeld => ?_
 clear hK K
 refine rdO 17 fun K hK => ?_
 have y0 := hO.c 0 0
 have y1 := hO.c 0 1
 have y2 := hO.c 0 2
 have y3 := hO.c 0 3
 have yf := hO.fr 0
 go_simp
 clear y0 y1 y2 y3 yf
 have hO9 := (((hO.store 0 rfl 0 (.int .i64 2)).store 0 rfl 1 (.int .i64 0)).store 0 rfl 2 (.string ⟨#[]⟩)).store 0 rfl 3 (.slice (some ⟨z5.heap.size, 0, none⟩) 5 5)
 have h9 := far4g z7 (w.heap.size + 1) (.int .i64 2) (.int .i64 0) (.string ⟨#[]⟩) (.slice (some ⟨z5.heap.size, 0, none⟩) 5 5)
 generalize World.setCell (World.setCell (World.setCell (World.setCell z7 _ _) _ _) _ _) _ _ = w9 at *
 refine hkO hK ⟨hO9.c 1 0, hO9.c 1 1, hO9.c 1 2, hO9.c 1 3, hO9.c 1 4⟩ fun hHeld => ?_
 clear hK K
 refine wpAnyH_done (by kernel_rfl) ?_ _
 clear hHeld
 have y0 := hO9.c 0 0
 have y1 := hO9.c 0 1
 have y2 := hO9.c 0 2
 have y3 := hO9.c 0 3
 replace hFR := rf_far (w := w) hFR hlt1 (Nat.le_of_lt (Nat.lt_of_succ_lt hlt1)) h9
 repeat' (first | go_skip | go_guarded | go_step)
 refine bodyPost_ret (v := .agg #[.int .i64 2, .int .i64 0, .string ⟨#[]⟩, .slice (some ⟨z5.heap.size, 0, none⟩) 5 5]) (by simp only [results, Tryz.results71]; go_simp; first | done | exact ⟨rfl, rfl, rfl⟩ | rfl) rfl ?_
 exact ⟨some ⟨z5.heap.size, 0, none⟩, 5, rfl, hFR, hO9.below⟩
theorem entry_fc : FormS 72 Cod.entry := by
 intro w f cs hr hs
 obtain ⟨fs, rfl, hr⟩ := hr
 obtain ⟨f1, r1, k1, d1, rfl, rfl, q1, hr⟩ := hr
 obtain ⟨f2, r2, k2, d2, rfl, rfl, q2, hr⟩ := hr
 obtain ⟨f3, r3, k3, d3, rfl, rfl, q3, hr⟩ := hr
 obtain ⟨f4, r4, k4, d4, rfl, rfl, q4, hr⟩ := hr
 obtain ⟨f5, r5, k5, d5, rfl, rfl, q5, hr⟩ := hr
 obtain ⟨f6, r6, k6, d6, rfl, rfl, q6, hr⟩ := hr
 obtain ⟨rfl, rfl⟩ := hr
 rw [fsz_fL] at hs
 obtain ⟨s1, s2, s3, s4, s5, s6, -⟩ := szs (N := 1000000000) (l := [f1, f2, f3, f4, f5, f6]) (by omega)
 obtain ⟨v2, rfl⟩ := one_list (Cod.str_ok.len q2)
 obtain ⟨n3, hn3, rfl, rfl⟩ := q3
 obtain ⟨v4, rfl⟩ := one_list (Cod.int_ok.len q4)
 obtain ⟨v5, rfl⟩ := one_list (Cod.int_ok.len q5)
 obtain ⟨v6, rfl⟩ := one_list (Cod.int_ok.len q6)
 obtain ⟨fs1, rfl, hr1⟩ := q1
 obtain ⟨f11, r11, k11, d11, rfl, rfl, q11, hr1⟩ := hr1
 obtain ⟨f12, r12, k12, d12, rfl, rfl, q12, hr1⟩ := hr1
 obtain ⟨f13, r13, k13, d13, rfl, rfl, q13, hr1⟩ := hr1
 obtain ⟨rfl, rfl⟩ := hr1
 rw [fsz_fL] at s1
 obtain ⟨s11, s12, s13, -⟩ := szs (N := 1000000000) (l := [f11, f12, f13]) (by omega)
 obtain ⟨v11, rfl⟩ := one_list (Cod.str_ok.len q11)
 obtain ⟨v12, rfl⟩ := one_list (Cod.int_ok.len q12)
 obtain ⟨v13, rfl⟩ := one_list (Cod.str_ok.len q13)
 show Calls _ _ #[.agg #[v11, v12, v13, v2, .int .u64 (n3 : Int), v4, v5, v6]] _ _
 go_enter Tryz.func72, Tryz.ntmps72
 go_upto_region 1 with (fail)
 generalize hx_ : World.alloc (World.alloc w _) _ = wo1
 have hP1 : OwnB w wo1 [(w.heap.size + 1, [.int .i64 0, .int .i64 0, .string ⟨#[]⟩, .slice none 0 0]), (w.heap.size, [v11, v12, v13, v2, .int .u64 (n3 : Int), v4, v5, v6])] := by rw [← hx_]; exact ((OwnB.refl w).new #[v11, v12, v13, v2, .int .u64 (n3 : Int), v4, v5, v6] _ (g := w.heap.size)).new #[.int .i64 0, .int .i64 0, .string ⟨#[]⟩, .slice none 0 0] _ (g := w.heap.size + 1)
 have hbn : Below w.heap.size w wo1 := by rw [← hx_]; exact ((Below.refl _ _).alloc (Nat.le_refl _) _).alloc (by simp) _
 have zwo1 : wo1.heap.size = w.heap.size + 2 := by rw [← hx_]; simp
 clear hx_
 have c0_0 := hP1.c 0 0
 have c0_1 := hP1.c 0 1
 have c0_2 := hP1.c 0 2
 have c0_3 := hP1.c 0 3
 have cf0 := hP1.fr 0
 have c1_0 := hP1.c 1 0
 have c1_1 := hP1.c 1 1
 have c1_2 := hP1.c 1 2
 have c1_3 := hP1.c 1 3
 have c1_4 := hP1.c 1 4
 have c1_5 := hP1.c 1 5
 have c1_6 := hP1.c 1 6
 have c1_7 := hP1.c 1 7
 have cf1 := hP1.fr 1
 clear hbn
 have hz : wo1.heap.size ≤ wo1.heap.size := Nat.le_refl _
 have hlt1 : w.heap.size + 1 < wo1.heap.size := hP1.lt 0
 clear zwo1
 have hO := hP1.drew
 have hz : wo1.heap.size ≤ wo1.drew.heap.size := Nat.le_refl _
 refine wp_region_held_drew (S := (fun w' => w'.cell? ⟨w.heap.size, 0, none⟩ = some (v11) ∧ w'.cell? ⟨w.heap.size, 1, none⟩ = some (v12) ∧ w'.cell? ⟨w.heap.size, 2, none⟩ = some (v13) ∧ w'.cell? ⟨w.heap.size, 3, none⟩ = some (v2) ∧ w'.cell? ⟨w.heap.size, 4, none⟩ = some (.int .u64 (n3 : Int)) ∧ w'.cell? ⟨w.heap.size, 5, none⟩ = some (v4) ∧ w'.cell? ⟨w.heap.size, 6, none⟩ = some (v5) ∧ w'.cell? ⟨w.heap.size, 7, none⟩ = some (v6))) (by kernel_rfl) ?_ (fun hHeld => ?_)
 ·(try dsimp only)
  exact ⟨hO.c 1 0, hO.c 1 1, hO.c 1 2, hO.c 1 3, hO.c 1 4, hO.c 1 5, hO.c 1 6, hO.c 1 7⟩
 generalize World.drew wo1 = vd at *
 refine tkQ 0 ?_
 refine tkQ 1 ?_
 refine tkQ 2 ?_
 refine tkQ 4 ?_
 refine tkQ 5 ?_
 refine tkQ 6 ?_
 refine tkQ 8 ?_
 refine tkQ 9 ?_
 refine tkQ 10 ?_
 refine tkQ 14 ?_
 refine tkQ 15 ?_
 refine tkQ 17 ?_
 refine tkQ 18 ?_
 refine tkQ 19 ?_
 refine tkQ 21 ?_
 refine tkQ 22 ?_
 refine tkQ 24 ?_
 refine tkQ 25 ?_
 refine tkQ 27 ?_
 refine tkQ 28 ?_
 refine rdO 3 fun K hK => ?_
 go_simp
 go_at_call 65
 refine (str_fc vd f11 v11 (Cod.str_ok.up q11 hO.below) s11).mono ?_
 rintro e z1 ⟨A11, c11, rfl, hF11, hbq⟩
 dsimp only
 replace hF11 := rf_lo hF11 hz
 replace hO := hO.kept hbq
 have hz_ := hz
 replace hz := Nat.le_trans hz hbq.size
 refine hkO hK ⟨hO.c 1 0, hO.c 1 1, hO.c 1 2, hO.c 1 3, hO.c 1 4, hO.c 1 5, hO.c 1 6, hO.c 1 7⟩ fun hHeld => ?_
 clear hK K
 refine rdO 7 fun K hK => ?_
 go_simp
 go_at_call 64
 refine (num_fc z1 f12 v12 (Cod.int_ok.up q12 hO.below) s12).mono ?_
 rintro e z2 ⟨A12, c12, rfl, hF12, hbq⟩
 dsimp only
 replace hF12 := rf_lo hF12 hz
 replace hF11 := rf_up hF11 hbq
 replace hO := hO.kept hbq
 have hz_ := hz
 replace hz := Nat.le_trans hz hbq.size
 refine hkO hK ⟨hO.c 1 0, hO.c 1 1, hO.c 1 2, hO.c 1 3, hO.c 1 4, hO.c 1 5, hO.c 1 6, hO.c 1 7⟩ fun hHeld => ?_
 clear hK K
 refine rdO 11 fun K hK => ?_
 go_simp
 go_at_call 65
 refine (str_fc z2 f13 v13 (Cod.str_ok.up q13 hO.below) s13).mono ?_
 rintro e z3 ⟨A13, c13, rfl, hF13, hbq⟩
 dsimp only
 replace hF13 := rf_lo hF13 hz
 replace hF11 := rf_up hF11 hbq
 replace hF12 := rf_up hF12 hbq
 replace hO := hO.kept hbq
 have hz_ := hz
 replace hz := Nat.le_trans hz hbq.size
 refine hkO hK ⟨hO.c 1 0, hO.c 1 1, hO.c 1 2, hO.c 1 3, hO.c 1 4, hO.c 1 5, hO.c 1 6, hO.c 1 7⟩ fun hHeld => ?_
 clear hK K
 refine rdO 12 fun K hK => ?_
 go_simp
 generalize hx_ : World.alloc z3 _ = z4
 have hbq : Below z3.heap.size z3 z4 := by rw [← hx_]; exact (Below.refl _ _).alloc (Nat.le_refl _) _
 have hC : CellsAt z4 z3.heap.size (fC f11 A11 c11 ++ (fC f12 A12 c12 ++ (fC f13 A13 c13 ++ ([])))) := by rw [← hx_]; exact CellsAt.new z3 _ _
 clear hx_
 replace hF11 := rf_up hF11 hbq
 replace hF12 := rf_up hF12 hbq
 replace hF13 := rf_up hF13 hbq
 replace hO := hO.kept hbq
 have hz_ := hz
 replace hz := Nat.le_trans hz hbq.size
 have hL := rl_cons hF11 (rl_cons hF12 (rl_cons hF13 (rl_nil)))
 have hFS := seq_of hC hz_ hL (n := 3) rfl
 clear hC hL hF11 hF12 hF13
 refine hkO hK ⟨hO.c 1 0, hO.c 1 1, hO.c 1 2, hO.c 1 3, hO.c 1 4, hO.c 1 5, hO.c 1 6, hO.c 1 7⟩ fun hHeld => ?_
 clear hK K
 refine rdO 13 fun K hK => ?_
 go_simp
 go_at_call 39
 refine (seq_any _ _ _ _).mono ?_
 rintro e z5 ⟨rfl, hbq⟩
 dsimp only
 replace hFS := rf_up hFS hbq
 replace hO := hO.kept hbq
 have hz_ := hz
 replace hz := Nat.le_trans hz hbq.size
 refine hkO hK ⟨hO.c 1 0, hO.c 1 1, hO.c 1 2, hO.c 1 3, hO.c 1 4, hO.c 1 5, hO.c 1 6, hO.c 1 7⟩ fun hHeld => ?_
 clear hK K
 refine rdO 16 fun K hK => ?_
 go_simp
 go_at_call 65
 refine (str_fc z5 f2 v2 (Cod.str_ok.up q2 hO.below) s2).mono ?_
 rintro e z6 ⟨A2, c2, rfl, hF2, hbq⟩
 dsimp only
 replace hF2 := rf_lo hF2 hz
 replace hFS := rf_up hFS hbq
 replace hO := hO.kept hbq
 have hz_ := hz
 replace hz := Nat.le_trans hz hbq.size
 refine hkO hK ⟨hO.c 1 0, hO.c 1 1, hO.c 1 2, hO.c 1 3, hO.c 1 4, hO.c 1 5, hO.c 1 6, hO.c 1 7⟩ fun hHeld => ?_
 clear hK K
 refine rdO 20 fun K hK => ?_
 go_simp
 go_at_call 64
 rw [IntWalk.i64_left]
 refine (num_any _ (wrap_int (n3 : Int)) z6).mono ?_
 rintro e z7 ⟨A3, c3, rfl, hF3, hbq⟩
 dsimp only
 replace hF3 := rf_lo hF3 hz
 replace hFS := rf_up hFS hbq
 replace hF2 := rf_up hF2 hbq
 replace hO := hO.kept hbq
 have hz_ := hz
 replace hz := Nat.le_trans hz hbq.size
 refine hkO hK ⟨hO.c 1 0, hO.c 1 1, hO.c 1 2, hO.c 1 3, hO.c 1 4, hO.c 1 5, hO.c 1 6, hO.c 1 7⟩ fun hHeld => ?_
 clear hK K
 refine rdO 23 fun K hK => ?_
 go_simp
 go_at_call 64
 refine (num_fc z7 f4 v4 (Cod.int_ok.up q4 hO.below) s4).mono ?_
 rintro e z8 ⟨A4, c4, rfl, hF4, hbq⟩
 dsimp only
 replace hF4 := rf_lo hF4 hz
 replace hFS := rf_up hFS hbq
 replace hF2 := rf_up hF2 hbq
 replace hF3 := rf_up hF3 hbq
 replace hO := hO.kept hbq
 have hz_ := hz
 replace hz := Nat.le_trans hz hbq.size
 refine hkO hK ⟨hO.c 1 0, hO.c 1 1, hO.c 1 2, hO.c 1 3, hO.c 1 4, hO.c 1 5, hO.c 1 6, hO.c 1 7⟩ fun hHeld => ?_
 clear hK K
 refine rdO 26 fun K hK => ?_
 go_simp
 go_at_call 64
 refine (num_fc z8 f5 v5 (Cod.int_ok.up q5 hO.below) s5).mono ?_
 rintro e z9 ⟨A5, c5, rfl, hF5, hbq⟩
 dsimp only
 replace hF5 := rf_lo hF5 hz
 replace hFS := rf_up hFS hbq
 replace hF2 := rf_up hF2 hbq
 replace hF3 := rf_up hF3 hbq
 replace hF4 := rf_up hF4 hbq
 replace hO := hO.kept hbq
 have hz_ := hz
 replace hz := Nat.le_trans hz hbq.size
 refine hkO hK ⟨hO.c 1 0, hO.c 1 1, hO.c 1 2, hO.c 1 3, hO.c 1 4, hO.c 1 5, hO.c 1 6, hO.c 1 7⟩ fun hHeld => ?_
 clear hK K
 refine rdO 29 fun K hK => ?_
 go_simp
 go_at_call 64
 refine (num_fc z9 f6 v6 (Cod.int_ok.up q6 hO.below) s6).mono ?_
 rintro e z10 ⟨A6, c6, rfl, hF6, hbq⟩
 dsimp only
 replace hF6 := rf_lo hF6 hz
 replace hFS := rf_up hFS hbq
 replace hF2 := rf_up hF2 hbq
 replace hF3 := rf_up hF3 hbq
 replace hF4 := rf_up hF4 hbq
 replace hF5 := rf_up hF5 hbq
 replace hO := hO.kept hbq
 have hz_ := hz
 replace hz := Nat.le_trans hz hbq.size
 refine hkO hK ⟨hO.c 1 0, hO.c 1 1, hO.c 1 2, hO.c 1 3, hO.c 1 4, hO.c 1 5, hO.c 1 6, hO.c 1 7⟩ fun hHeld => ?_
 clear hK K
 refine rdO 30 fun K hK => ?_
 go_simp
 generalize hx_ : World.alloc z10 _ = z11
 have hbq : Below z10.heap.size z10 z11 := by rw [← hx_]; exact (Below.refl _ _).alloc (Nat.le_refl _) _
 have hC : CellsAt z11 z10.heap.size ([.int .i64 2, .int .i64 0, .string ⟨#[]⟩, .slice (some ⟨z3.heap.size, 0, none⟩) 3 3] ++ (fC f2 A2 c2 ++ (fC (fI (wrap64 (n3 : Int))) A3 c3 ++ (fC f4 A4 c4 ++ (fC f5 A5 c5 ++ (fC f6 A6 c6 ++ ([]))))))) := by rw [← hx_]; exact CellsAt.new z10 _ _
 clear hx_
 replace hFS := rf_up hFS hbq
 replace hF2 := rf_up hF2 hbq
 replace hF3 := rf_up hF3 hbq
 replace hF4 := rf_up hF4 hbq
 replace hF5 := rf_up hF5 hbq
 replace hF6 := rf_up hF6 hbq
 replace hO := hO.kept hbq
 have hz_ := hz
 replace hz := Nat.le_trans hz hbq.size
 have hL := rl_cons hFS (rl_cons hF2 (rl_cons hF3 (rl_cons hF4 (rl_cons hF5 (rl_cons hF6 (rl_nil))))))
 have hFR := seq_of hC hz_ hL (n := 6) rfl
 clear hC hL hFS hF2 hF3 hF4 hF5 hF6
 refine hkO hK ⟨hO.c 1 0, hO.c 1 1, hO.c 1 2, hO.c 1 3, hO.c 1 4, hO.c 1 5, hO.c 1 6, hO.c 1 7⟩ fun hHeld => ?_
 clear hK K
 refine rdO 31 fun K hK => ?_
 go_simp
 go_at_call 39
 refine (seq_any _ _ _ _).mono ?_
 rintro e z12 ⟨rfl, hbq⟩
 dsimp only
 replace hFR := rf_up hFR hbq
 replace hO := hO.kept hbq
 have hz_ := hz
 replace hz := Nat.le_trans hz hbq.size
 refine hkO hK ⟨hO.c 1 0, hO.c 1 1, hO.c 1 2, hO.c 1 3, hO.c 1 4, hO.c 1 5, hO.c 1 6, hO.c 1 7⟩ fun hHeld => ?_
 clear hK K
 refine rdO 32 fun K hK => ?_
 have y0 := hO.c 0 0
 have y1 := hO.c 0 1
 have y2 := hO.c 0 2
 have y3 := hO.c 0 3
 have yf := hO.fr 0
 go_simp
 clear y0 y1 y2 y3 yf
 have hO9 := (((hO.store 0 rfl 0 (.int .i64 2)).store 0 rfl 1 (.int .i64 0)).store 0 rfl 2 (.string ⟨#[]⟩)).store 0 rfl 3 (.slice (some ⟨z10.heap.size, 0, none⟩) 6 6)
 have h9 := far4g z12 (w.heap.size + 1) (.int .i64 2) (.int .i64 0) (.string ⟨#[]⟩) (.slice (some ⟨z10.heap.size, 0, none⟩) 6 6)
 generalize World.setCell (World.setCell (World.setCell (World.setCell z12 _ _) _ _) _ _) _ _ = w9 at *
 refine hkO hK ⟨hO9.c 1 0, hO9.c 1 1, hO9.c 1 2, hO9.c 1 3, hO9.c 1 4, hO9.c 1 5, hO9.c 1 6, hO9.c 1 7⟩ fun hHeld => ?_
 clear hK K
 refine wpAnyH_done (by kernel_rfl) ?_ _
 clear hHeld
 have y0 := hO9.c 0 0
 have y1 := hO9.c 0 1
 have y2 := hO9.c 0 2
 have y3 := hO9.c 0 3
 replace hFR := rf_far (w := w) hFR hlt1 (Nat.le_of_lt (Nat.lt_of_succ_lt hlt1)) h9
 repeat' (first | go_skip | go_guarded | go_step)
 refine bodyPost_ret (v := .agg #[.int .i64 2, .int .i64 0, .string ⟨#[]⟩, .slice (some ⟨z10.heap.size, 0, none⟩) 6 6]) (by simp only [results, Tryz.results72]; go_simp; first | done | exact ⟨rfl, rfl, rfl⟩ | rfl) rfl ?_
 exact ⟨some ⟨z10.heap.size, 0, none⟩, 6, rfl, hFR, hO9.below⟩
end Go.Proofs.YtgdapkglofchjaaGreatDoor
