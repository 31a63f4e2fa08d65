/- Joined: JnG9 JnGa JnG5. -/
import Derived.Test.YtgdapkglofchjaaGreatDoorE22
set_option maxRecDepth 100000
set_option maxHeartbeats 4000000
set_option linter.unusedVariables false
namespace Go.Proofs.YtgdapkglofchjaaGreatDoor
open Go.RowKit
theorem value_fn (n : Nat) (ih : FormS 112 (Cod.val n)) : FormS 112 (Cod.val (n + 1)) := by
 intro w f cs hr hs
 obtain ⟨fs, rfl, hr⟩ := hr
 obtain ⟨f1, r1, k1, d1, rfl, rfl, q1, hr⟩ := hr
 obtain ⟨f2, r2, k2, d2, rfl, rfl, q2, hr⟩ := hr
 obtain ⟨f3, r3, k3, d3, rfl, rfl, q3, hr⟩ := hr
 obtain ⟨f4, r4, k4, d4, rfl, rfl, q4, hr⟩ := hr
 obtain ⟨f5, r5, k5, d5, rfl, rfl, q5, hr⟩ := hr
 obtain ⟨f6, r6, k6, d6, rfl, rfl, q6, hr⟩ := hr
 obtain ⟨rfl, rfl⟩ := hr
 rw [fsz_fL] at hs
 have s1 : fsz f1 ≤ 1000000000 := by have := fsz_mem (l := [f1, f2, f3, f4, f5, f6]) (f := f1) (by simp); omega
 have s2 : fsz f2 ≤ 1000000000 := by have := fsz_mem (l := [f1, f2, f3, f4, f5, f6]) (f := f2) (by simp); omega
 have s3 : fsz f3 ≤ 1000000000 := by have := fsz_mem (l := [f1, f2, f3, f4, f5, f6]) (f := f3) (by simp); omega
 have s4 : fsz f4 ≤ 1000000000 := by have := fsz_mem (l := [f1, f2, f3, f4, f5, f6]) (f := f4) (by simp); omega
 have s5 : fsz f5 ≤ 1000000000 := by have := fsz_mem (l := [f1, f2, f3, f4, f5, f6]) (f := f5) (by simp); omega
 have s6 : fsz f6 ≤ 1000000000 := by have := fsz_mem (l := [f1, f2, f3, f4, f5, f6]) (f := f6) (by simp); omega
 obtain ⟨v1, rfl⟩ := one_list (Cod.int_ok.len q1)
 obtain ⟨v2, rfl⟩ := one_list (Cod.flag_ok.len q2)
 obtain ⟨v3, rfl⟩ := one_list (Cod.int_ok.len q3)
 obtain ⟨v4, rfl⟩ := one_list (Cod.str_ok.len q4)
 obtain ⟨v6, rfl⟩ := one_list (Cod.strs_ok.len q6)
 obtain ⟨m, A, c, rfl, rfl, hR⟩ := q5
 rw [fsz_fL] at s5
 have hm := lsz_length m
 show Calls _ _ #[.agg #[v1, v2, v3, v4, .slice A m.length c, v6]] _ _
 go_enter Tryz.func112, Tryz.ntmps112
 go_upto_region 1 with (fail)
 generalize hx_ : World.alloc (World.alloc w _) _ = wo1
 have hP1 : OwnB w wo1 [(w.heap.size + 1, [.int .i64 0, .int .i64 0, .string ⟨#[]⟩, .slice none 0 0]), (w.heap.size, [v1, v2, v3, v4, .slice A m.length c, v6])] := by rw [← hx_]; exact ((OwnB.refl w).new #[v1, v2, v3, v4, .slice A m.length c, v6] _ (g := w.heap.size)).new #[.int .i64 0, .int .i64 0, .string ⟨#[]⟩, .slice none 0 0] _ (g := w.heap.size + 1)
 have hbn : Below w.heap.size w wo1 := by rw [← hx_]; exact ((Below.refl _ _).alloc (Nat.le_refl _) _).alloc (by simp) _
 have zwo1 : wo1.heap.size = w.heap.size + 2 := by rw [← hx_]; simp
 clear hx_
 have c0_0 := hP1.c 0 0
 have c0_1 := hP1.c 0 1
 have c0_2 := hP1.c 0 2
 have c0_3 := hP1.c 0 3
 have cf0 := hP1.fr 0
 have c1_0 := hP1.c 1 0
 have c1_1 := hP1.c 1 1
 have c1_2 := hP1.c 1 2
 have c1_3 := hP1.c 1 3
 have c1_4 := hP1.c 1 4
 have c1_5 := hP1.c 1 5
 have cf1 := hP1.fr 1
 clear hbn
 clear zwo1
 have hb0 := hP1.below
 have hz0 : w.heap.size < wo1.heap.size := hP1.lt 1
 have hlt1 : w.heap.size + 1 < wo1.heap.size := hP1.lt 0
 have hR0 := OwnR.nil (r := rFB wo1.heap.size) (sz := 4) wo1 fldT
 replace hR := Lib.hid hR
 repeat' (first | go_skip | go_guarded | go_step)
 go_loopw [3, 4] (fun u3 u4 wr => ∃ (i : Nat) (A' : Option Addr) (n' c' : Nat), i ≤ m.length ∧ u4 = .int .i64 (i : Int) ∧ u3 = .slice A' n' c' ∧ n' = (m.take i).length ∧ OwnR (rFB wo1.heap.size) 4 wo1 wr fldT (.slice A' n' c') (m.take i)) (fun _ u4 _ => m.length - (intOf u4).toNat)
 case atStart => exact ⟨0, none, 0, 0, Nat.zero_le _, rfl, rfl, rfl, hR0⟩
 case round =>
  clear hR0
  obtain ⟨i, A', n', c', hi, rfl, rfl, hn', hL⟩ := hrel
  replace hn' := Lib.hid hn'
  have hbr := hL.bel
  have hP2 : OwnB w wr [(w.heap.size + 1, [.int .i64 0, .int .i64 0, .string ⟨#[]⟩, .slice none 0 0]), (w.heap.size, [v1, v2, v3, v4, .slice A m.length c, v6])] := hP1.kept hbr
  clear c0_0 c0_1 c0_2 c0_3 cf0 c1_0 c1_1 c1_2 c1_3 c1_4 c1_5 cf1 hP1
  have c0_0 := hP2.c 0 0
  have c0_1 := hP2.c 0 1
  have c0_2 := hP2.c 0 2
  have c0_3 := hP2.c 0 3
  have cf0 := hP2.fr 0
  have c1_0 := hP2.c 1 0
  have c1_1 := hP2.c 1 1
  have c1_2 := hP2.c 1 2
  have c1_3 := hP2.c 1 3
  have c1_4 := hP2.c 1 4
  have c1_5 := hP2.c 1 5
  have cf1 := hP2.fr 1
  by_cases hlt : i < m.length
  ·obtain ⟨x, hx⟩ : ∃ x, m[i]? = some x := ⟨_, List.getElem?_eq_getElem hlt⟩
   obtain ⟨b, o', k1, rfl, hb, hkl, hrx, hat⟩ := hR.out.at_ hx
   rw [Cod.val_sz] at hat hkl
   have hbw : Below w.heap.size w wr := hb0.trans (hbr.mono hb0.size)
   have hsx : fsz x ≤ 1000000000 := by have := fsz_mem (List.mem_of_getElem? hx); omega
   have i1 : (0 : Int) ≤ (i : Int) := by omega
   have i2 : (i : Int) < (m.length : Int) := by omega
   have hat' : wr.rangeAt b (o' + i * 6) k1 := fun j u hu => (hbw.cell (p := ⟨b, o' + i * 6 + j, none⟩) hb).trans (hat j u hu)
   have hki : (Tryz.prog.info? 75).map (·.size) = some k1.length := by rw [hkl]; kernel_rfl
   clear hat
   repeat' (first | (refine wpList_load_mid rfl 75 _ rfl b (o' + i * 6) rfl k1 _ hat' Tryz.underlying75 rfl hki ?_) | go_skip | go_guarded | go_step)
   refine (ih wr x k1 ((Cod.val_ok n).up hrx hbw) hsx).mono ?_
   rintro e w2 ⟨A2, c2, rfl, hF, hb2⟩
   dsimp only
   have hx2 := rFB_of hL hF hbr.size
   clear hF hat'
   have i3 : IntKind.i64.wrap ((i : Int) + 1) = (i : Int) + 1 := IntWalk.i64_in _ (by omega)
   replace hx2 := Lib.hid hx2
   repeat' ((fail_if_success at_builtin); first | go_skip | go_guarded | go_step)
   refine wp_appR1 (rFB_ok _) hL hb2 hx2.out fld_und fld_info (by rw [List.length_take]; omega) ?_
   intro v5_ w5 hL5
   clear hL hx2
   obtain ⟨A5, c5, rfl⟩ := hL5.form
   generalize hnn : (m.take i ++ [x]).length = n5 at *
   replace hnn := Lib.hid hnn
   repeat' (first | go_skip | go_guarded | go_step)
   go_roundw
   case rel =>
    have e5 : m.take (i + 1) = m.take i ++ [x] := by rw [List.take_add_one, hx]; rfl
    refine ⟨i + 1, A5, n5, c5, by omega, by congr 1, rfl, by rw [e5]; exact hnn.out.symm, by rw [e5]; exact hL5⟩
   case measure => simp [intOf]; omega
  ·obtain rfl : i = m.length := by omega
   have hn2 := hn'.out
   rw [List.take_length] at hL hn2
   subst hn2
   clear hn'
   go_upto_region 6 with (fail)
   have hO := hP2.drew
   have hz : wo1.heap.size ≤ wr.drew.heap.size := hbr.size
   have hF5 := ownR_fl (w := wo1) (hL.below (rFB_ok _) (Below.refl _ _).drew) (Nat.le_refl _)
   clear hL
   refine wp_region_held_drew (S := (fun w' => w'.cell? ⟨w.heap.size, 0, none⟩ = some (v1) ∧ w'.cell? ⟨w.heap.size, 1, none⟩ = some (v2) ∧ w'.cell? ⟨w.heap.size, 2, none⟩ = some (v3) ∧ w'.cell? ⟨w.heap.size, 3, none⟩ = some (v4) ∧ w'.cell? ⟨w.heap.size, 5, none⟩ = some (v6))) (by kernel_rfl) ?_ (fun hHeld => ?_)
   ·(try dsimp only)
    exact ⟨hO.c 1 0, hO.c 1 1, hO.c 1 2, hO.c 1 3, hO.c 1 5⟩
   generalize World.drew wr = vd at *
   refine tkY 0 (v := ?v1) rfl (.inl ⟨by rfl, ?hy1⟩) ?hr1
   case hy1 => (intro w hSw; (try dsimp only at hSw); go_simp; try with_reducible rfl)
   simp only [Act.put, Z1, Z2, Z4, Z5, Z6]
   refine tkY 1 (v := ?v2) rfl (.inl ⟨by rfl, ?hy2⟩) ?hr2
   case hy2 => (intro w hSw; (try dsimp only at hSw); go_simp; try with_reducible rfl)
   simp only [Act.put, Z1, Z2, Z3, Z4, Z5, Z6]
   refine tkY 3 (v := ?v3) rfl (.inl ⟨by rfl, ?hy3⟩) ?hr3
   case hy3 => (intro w hSw; (try dsimp only at hSw); go_simp; try with_reducible rfl)
   simp only [Act.put, Z1, Z2, Z3, Z4, Z5, Z6]
   refine tkY 4 (v := ?v4) rfl (.inl ⟨by rfl, ?hy4⟩) ?hr4
   case hy4 => (intro w hSw; (try dsimp only at hSw); go_simp; try with_reducible rfl)
   simp only [Act.put, Z1, Z2, Z3, Z4, Z5, Z6]
   refine tkY 6 (v := ?v5) rfl (.inl ⟨by rfl, ?hy5⟩) ?hr5
   case hy5 => (intro w hSw; (try dsimp only at hSw); go_simp; try with_reducible rfl)
   simp only [Act.put, Z1, Z2, Z3, Z4, Z5, Z6]
   refine tkY 7 (v := ?v6) rfl (.inl ⟨by rfl, ?hy6⟩) ?hr6
   case hy6 => (intro w hSw; (try dsimp only at hSw); go_simp; try with_reducible rfl)
   simp only [Act.put, Z1, Z2, Z3, Z4, Z5, Z6]
   refine tkY 9 (v := ?v7) rfl (.inl ⟨by rfl, ?hy7⟩) ?hr7
   case hy7 => (intro w hSw; (try dsimp only at hSw); go_simp; try with_reducible rfl)
   simp only [Act.put, Z1, Z2, Z3, Z4, Z5, Z6]
   refine tkY 10 (v := ?v8) rfl (.inl ⟨by rfl, ?hy8⟩) ?hr8
   case hy8 => (intro w hSw; (try dsimp only at hSw); go_simp; try with_reducible rfl)
   simp only [Act.put, Z1, Z2, Z3, Z4, Z5, Z6]
   refine tkY 12 (v := ?v9) rfl (.inl ⟨by rfl, ?hy9⟩) ?hr9
   case hy9 => (intro w hSw; (try dsimp only at hSw); go_simp; try with_reducible rfl)
   simp only [Act.put, Z1, Z2, Z3, Z4, Z5, Z6]
   refine tkY 14 (v := ?v10) rfl (.inl ⟨by rfl, ?hy10⟩) ?hr10
   case hy10 => (intro w hSw; (try dsimp only at hSw); go_simp; try with_reducible rfl)
   simp only [Act.put, Z1, Z2, Z3, Z4, Z5, Z6]
   refine tkY 15 (v := ?v11) rfl (.inl ⟨by rfl, ?hy11⟩) ?hr11
   case hy11 => (intro w hSw; (try dsimp only at hSw); go_simp; try with_reducible rfl)
   simp only [Act.put, Z1, Z2, Z3, Z4, Z5, Z6]
   refine wpAnyH_ready (rs := [2]) (by kernel_rfl) (by simp) ?_
   refine AllReadyH.cons rfl (fun K hK => ?_) AllReadyH.nil
   go_simp
   go_at_call 64
   refine (num_fc vd f1 v1 (Cod.int_ok.up q1 hO.below) s1).mono ?_
   rintro e z1 ⟨A1, c1, rfl, hF1, hbq⟩
   dsimp only
   replace hF1 := rf_lo hF1 hz
   replace hF5 := rf_up hF5 hbq
   replace hO := hO.kept hbq
   have hz_ := hz
   replace hz := Nat.le_trans hz hbq.size
   refine hK.out _ _ ?_ (fun hHeld => ?_)
   ·(try dsimp only)
    exact ⟨hO.c 1 0, hO.c 1 1, hO.c 1 2, hO.c 1 3, hO.c 1 5⟩
   clear hK K
   try simp only [Act.put, Z1, Z2, Z3, Z4, Z5, Z6]
   refine wpAnyH_ready (rs := [5]) (by kernel_rfl) (by simp) ?_
   refine AllReadyH.cons rfl (fun K hK => ?_) AllReadyH.nil
   go_simp
   go_at_call 111
   refine (flag_fc z1 f2 v2 (Cod.flag_ok.up q2 hO.below) s2).mono ?_
   rintro e z2 ⟨A2, c2, rfl, hF2, hbq⟩
   dsimp only
   replace hF2 := rf_lo hF2 hz
   replace hF5 := rf_up hF5 hbq
   replace hF1 := rf_up hF1 hbq
   replace hO := hO.kept hbq
   have hz_ := hz
   replace hz := Nat.le_trans hz hbq.size
   refine hK.out _ _ ?_ (fun hHeld => ?_)
   ·(try dsimp only)
    exact ⟨hO.c 1 0, hO.c 1 1, hO.c 1 2, hO.c 1 3, hO.c 1 5⟩
   clear hK K
   try simp only [Act.put, Z1, Z2, Z3, Z4, Z5, Z6]
   refine wpAnyH_ready (rs := [8]) (by kernel_rfl) (by simp) ?_
   refine AllReadyH.cons rfl (fun K hK => ?_) AllReadyH.nil
   go_simp
   go_at_call 64
   refine (num_fc z2 f3 v3 (Cod.int_ok.up q3 hO.below) s3).mono ?_
   rintro e z3 ⟨A3, c3, rfl, hF3, hbq⟩
   dsimp only
   replace hF3 := rf_lo hF3 hz
   replace hF5 := rf_up hF5 hbq
   replace hF1 := rf_up hF1 hbq
   replace hF2 := rf_up hF2 hbq
   replace hO := hO.kept hbq
   have hz_ := hz
   replace hz := Nat.le_trans hz hbq.size
   refine hK.out _ _ ?_ (fun hHeld => ?_)
   ·(try dsimp only)
    exact ⟨hO.c 1 0, hO.c 1 1, hO.c 1 2, hO.c 1 3, hO.c 1 5⟩
   clear hK K
   try simp only [Act.put, Z1, Z2, Z3, Z4, Z5, Z6]
   refine wpAnyH_ready (rs := [11]) (by kernel_rfl) (by simp) ?_
   refine AllReadyH.cons rfl (fun K hK => ?_) AllReadyH.nil
   go_simp
   go_at_call 65
   refine (str_fc z3 f4 v4 (Cod.str_ok.up q4 hO.below) s4).mono ?_
   rintro e z4 ⟨A4, c4, rfl, hF4, hbq⟩
   dsimp only
   replace hF4 := rf_lo hF4 hz
   replace hF5 := rf_up hF5 hbq
   replace hF1 := rf_up hF1 hbq
   replace hF2 := rf_up hF2 hbq
   replace hF3 := rf_up hF3 hbq
   replace hO := hO.kept hbq
   have hz_ := hz
   replace hz := Nat.le_trans hz hbq.size
   refine hK.out _ _ ?_ (fun hHeld => ?_)
   ·(try dsimp only)
    exact ⟨hO.c 1 0, hO.c 1 1, hO.c 1 2, hO.c 1 3, hO.c 1 5⟩
   clear hK K
   try simp only [Act.put, Z1, Z2, Z3, Z4, Z5, Z6]
   refine wpAnyH_ready (rs := [13]) (by kernel_rfl) (by simp) ?_
   refine AllReadyH.cons rfl (fun K hK => ?_) AllReadyH.nil
   go_simp
   go_at_call 39
   refine (seq_any _ _ _ _).mono ?_
   rintro e z5 ⟨rfl, hbq⟩
   dsimp only
   replace hF5 := rf_up hF5 hbq
   replace hF1 := rf_up hF1 hbq
   replace hF2 := rf_up hF2 hbq
   replace hF3 := rf_up hF3 hbq
   replace hF4 := rf_up hF4 hbq
   replace hO := hO.kept hbq
   have hz_ := hz
   replace hz := Nat.le_trans hz hbq.size
   refine hK.out _ _ ?_ (fun hHeld => ?_)
   ·(try dsimp only)
    exact ⟨hO.c 1 0, hO.c 1 1, hO.c 1 2, hO.c 1 3, hO.c 1 5⟩
   clear hK K
   try simp only [Act.put, Z1, Z2, Z3, Z4, Z5, Z6]
   refine wpAnyH_ready (rs := [16]) (by kernel_rfl) (by simp) ?_
   refine AllReadyH.cons rfl (fun K hK => ?_) AllReadyH.nil
   go_simp
   go_at_call 115
   refine (strs_fc z5 f6 v6 (Cod.strs_ok.up q6 hO.below) s6).mono ?_
   rintro e z6 ⟨A6, c6, rfl, hF6, hbq⟩
   dsimp only
   replace hF6 := rf_lo hF6 hz
   replace hF1 := rf_up hF1 hbq
   replace hF2 := rf_up hF2 hbq
   replace hF3 := rf_up hF3 hbq
   replace hF4 := rf_up hF4 hbq
   replace hF5 := rf_up hF5 hbq
   replace hO := hO.kept hbq
   have hz_ := hz
   replace hz := Nat.le_trans hz hbq.size
   refine hK.out _ _ ?_ (fun hHeld => ?_)
   ·(try dsimp only)
    exact ⟨hO.c 1 0, hO.c 1 1, hO.c 1 2, hO.c 1 3, hO.c 1 5⟩
   clear hK K
   try simp only [Act.put, Z1, Z2, Z3, Z4, Z5, Z6]
   refine wpAnyH_ready (rs := [17]) (by kernel_rfl) (by simp) ?_
   refine AllReadyH.cons rfl (fun K hK => ?_) AllReadyH.nil
   go_simp
   generalize hx_ : World.alloc z6 _ = z7
   have hbq : Below z6.heap.size z6 z7 := by rw [← hx_]; exact (Below.refl _ _).alloc (Nat.le_refl _) _
   have hC : CellsAt z7 z6.heap.size (fC f1 A1 c1 ++ (fC f2 A2 c2 ++ (fC f3 A3 c3 ++ (fC f4 A4 c4 ++ ([.int .i64 2, .int .i64 0, .string ⟨#[]⟩, .slice A' m.length c'] ++ (fC f6 A6 c6 ++ ([]))))))) := by rw [← hx_]; exact CellsAt.new z6 _ _
   clear hx_
   replace hF1 := rf_up hF1 hbq
   replace hF2 := rf_up hF2 hbq
   replace hF3 := rf_up hF3 hbq
   replace hF4 := rf_up hF4 hbq
   replace hF5 := rf_up hF5 hbq
   replace hF6 := rf_up hF6 hbq
   replace hO := hO.kept hbq
   have hz_ := hz
   replace hz := Nat.le_trans hz hbq.size
   have hL := rl_cons hF1 (rl_cons hF2 (rl_cons hF3 (rl_cons hF4 (rl_cons hF5 (rl_cons hF6 (rl_nil))))))
   have hFR := seq_of hC hz_ hL (n := 6) rfl
   clear hC hL hF1 hF2 hF3 hF4 hF5 hF6
   refine hK.out _ _ ?_ (fun hHeld => ?_)
   ·(try dsimp only)
    exact ⟨hO.c 1 0, hO.c 1 1, hO.c 1 2, hO.c 1 3, hO.c 1 5⟩
   clear hK K
   try simp only [Act.put, Z1, Z2, Z3, Z4, Z5, Z6]
   refine wpAnyH_ready (rs := [18]) (by kernel_rfl) (by simp) ?_
   refine AllReadyH.cons rfl (fun K hK => ?_) AllReadyH.nil
   go_simp
   go_at_call 39
   refine (seq_any _ _ _ _).mono ?_
   rintro e z8 ⟨rfl, hbq⟩
   dsimp only
   replace hFR := rf_up hFR hbq
   replace hO := hO.kept hbq
   have hz_ := hz
   replace hz := Nat.le_trans hz hbq.size
   refine hK.out _ _ ?_ (fun hHeld => ?_)
   ·(try dsimp only)
    exact ⟨hO.c 1 0, hO.c 1 1, hO.c 1 2, hO.c 1 3, hO.c 1 5⟩
   clear hK K
   try simp only [Act.put, Z1, Z2, Z3, Z4, Z5, Z6]
   refine wpAnyH_ready (rs := [19]) (by kernel_rfl) (by simp) ?_
   refine AllReadyH.cons rfl (fun K hK => ?_) AllReadyH.nil
   have y0 := hO.c 0 0
   have y1 := hO.c 0 1
   have y2 := hO.c 0 2
   have y3 := hO.c 0 3
   have yf := hO.fr 0
   go_simp
   clear y0 y1 y2 y3 yf
   have hO9 := (((hO.store 0 rfl 0 (.int .i64 2)).store 0 rfl 1 (.int .i64 0)).store 0 rfl 2 (.string ⟨#[]⟩)).store 0 rfl 3 (.slice (some ⟨z6.heap.size, 0, none⟩) 6 6)
   have h9 := far4g z8 (w.heap.size + 1) (.int .i64 2) (.int .i64 0) (.string ⟨#[]⟩) (.slice (some ⟨z6.heap.size, 0, none⟩) 6 6)
   generalize World.setCell (World.setCell (World.setCell (World.setCell z8 _ _) _ _) _ _) _ _ = w9 at *
   refine hK.out _ _ ?_ (fun hHeld => ?_)
   ·(try dsimp only)
    exact ⟨hO9.c 1 0, hO9.c 1 1, hO9.c 1 2, hO9.c 1 3, hO9.c 1 5⟩
   clear hK K
   try simp only [Act.put, Z1, Z2, Z3, Z4, Z5, Z6]
   refine wpAnyH_done (by kernel_rfl) ?_ _
   clear hHeld
   have y0 := hO9.c 0 0
   have y1 := hO9.c 0 1
   have y2 := hO9.c 0 2
   have y3 := hO9.c 0 3
   replace hFR := rf_far (w := w) hFR hlt1 (Nat.le_of_lt (Nat.lt_of_succ_lt hlt1)) h9
   repeat' (first | go_skip | go_guarded | go_step)
   refine bodyPost_ret (v := .agg #[.int .i64 2, .int .i64 0, .string ⟨#[]⟩, .slice (some ⟨z6.heap.size, 0, none⟩) 6 6]) (by simp only [results, Tryz.results112]; go_simp; first | done | exact ⟨rfl, rfl, rfl⟩ | rfl) rfl ?_
   exact ⟨some ⟨z6.heap.size, 0, none⟩, 6, rfl, hFR, hO9.below⟩
theorem value_fall : ∀ n, FormS 112 (Cod.val n)
 | 0 => fun _ _ _ hr => hr.elim
 | n + 1 => value_fn n (value_fall n)
theorem value_fc : FormS 112 Cod.value := fun w f cs hr hs => by
 obtain ⟨n, hr⟩ := hr
 exact value_fall n w f cs hr hs
theorem vars_fc : Form1 67 (Cod.list Cod.vari) := by
 intro w f v hr hs
 obtain ⟨m, A, c, rfl, h, hR⟩ := hr
 injection h with h
 subst h
 rw [fsz_fL] at hs
 have hm := lsz_length m
 go_enter Tryz.func67, Tryz.ntmps67
 go_upto_region 1 with (fail)
 generalize hx_ : World.alloc w _ = wo1
 have hP1 : OwnB w wo1 [(w.heap.size, [.int .i64 0, .int .i64 0, .string ⟨#[]⟩, .slice none 0 0])] := by rw [← hx_]; exact (OwnB.refl w).new #[.int .i64 0, .int .i64 0, .string ⟨#[]⟩, .slice none 0 0] _ (g := w.heap.size)
 have hbn : Below w.heap.size w wo1 := by rw [← hx_]; exact (Below.refl _ _).alloc (Nat.le_refl _) _
 have zwo1 : wo1.heap.size = w.heap.size + 1 := by rw [← hx_]; simp
 clear hx_
 have c0_0 := hP1.c 0 0
 have c0_1 := hP1.c 0 1
 have c0_2 := hP1.c 0 2
 have c0_3 := hP1.c 0 3
 have cf0 := hP1.fr 0
 clear hbn
 clear zwo1
 have hb0 := hP1.below
 have hz0 : w.heap.size < wo1.heap.size := hP1.lt 0
 have hR0 := OwnR.nil (r := rFB wo1.heap.size) (sz := 4) wo1 fldT
 replace hR := Lib.hid hR
 repeat' (first | go_skip | go_guarded | go_step)
 go_loopw [3, 4] (fun u3 u4 wr => ∃ (i : Nat) (A' : Option Addr) (n' c' : Nat), i ≤ m.length ∧ u4 = .int .i64 (i : Int) ∧ u3 = .slice A' n' c' ∧ n' = (m.take i).length ∧ OwnR (rFB wo1.heap.size) 4 wo1 wr fldT (.slice A' n' c') (m.take i)) (fun _ u4 _ => m.length - (intOf u4).toNat)
 case atStart => exact ⟨0, none, 0, 0, Nat.zero_le _, rfl, rfl, rfl, hR0⟩
 case round =>
  clear hR0
  obtain ⟨i, A', n', c', hi, rfl, rfl, hn', hL⟩ := hrel
  replace hn' := Lib.hid hn'
  have hbr := hL.bel
  have hP2 : OwnB w wr [(w.heap.size, [.int .i64 0, .int .i64 0, .string ⟨#[]⟩, .slice none 0 0])] := hP1.kept hbr
  clear c0_0 c0_1 c0_2 c0_3 cf0 hP1
  have c0_0 := hP2.c 0 0
  have c0_1 := hP2.c 0 1
  have c0_2 := hP2.c 0 2
  have c0_3 := hP2.c 0 3
  have cf0 := hP2.fr 0
  by_cases hlt : i < m.length
  ·obtain ⟨x, hx⟩ : ∃ x, m[i]? = some x := ⟨_, List.getElem?_eq_getElem hlt⟩
   obtain ⟨b, o', k1, rfl, hb, hkl, hrx, hat⟩ := hR.out.at_ hx
   have hbw : Below w.heap.size w wr := hb0.trans (hbr.mono hb0.size)
   have hbW : b < wr.heap.size := Nat.lt_of_lt_of_le hb hbw.size
   have hb1 : b < wo1.heap.size := Nat.lt_trans hb hz0
   have hsx : fsz x ≤ 1000000000 := by have := fsz_mem (List.mem_of_getElem? hx); omega
   have i1 : (0 : Int) ≤ (i : Int) := by omega
   have i2 : (i : Int) < (m.length : Int) := by omega
   obtain ⟨fs, rfl, hr⟩ := hrx
   rw [fsz_fL] at hsx
   have hat' : wr.rangeAt b (o' + i * 7) k1 := fun j u hu => (hbw.cell (p := ⟨b, o' + i * 7 + j, none⟩) hb).trans (hat j u hu)
   clear hat
   obtain ⟨f1, r1, k1, d1, rfl, rfl, q1, hr⟩ := hr
   obtain ⟨f2, r2, k2, d2, rfl, rfl, q2, hr⟩ := hr
   obtain ⟨rfl, rfl⟩ := hr
   have s1 : fsz f1 ≤ 1000000000 := by have := fsz_mem (l := [f1, f2]) (f := f1) (by simp); omega
   have s2 : fsz f2 ≤ 1000000000 := by have := fsz_mem (l := [f1, f2]) (f := f2) (by simp); omega
   obtain ⟨v1, rfl⟩ := one_list (Cod.str_ok.len q1)
   have e1 : wr.cell? ⟨b, o' + i * 7, none⟩ = some (v1) := hat' 0 _ rfl
   have a2 : wr.rangeAt b (o' + i * 7 + 1) k2 := (At.right (w := wr) (b := b) (o := o' + i * 7) (c1 := [v1]) hat' (by rfl)).left
   clear hat'
   go_upto_region 5 with (fail)
   have hbc : Below wr.heap.size wr wr.drew := (Below.refl _ _).drew
   have hz := hbc.size
   refine wp_region_held_drew (S := (fun w' => w'.cell? ⟨b, o' + i * 7, none⟩ = some (v1) ∧ w'.rangeAt b (o' + i * 7 + 1) k2)) (by kernel_rfl) ?_ (fun hHeld => ?_)
   ·(try dsimp only)
    exact ⟨CT hbc hbW e1, at_up a2 hbc hbW⟩
   generalize World.drew wr = vd at *
   refine tkY 0 (v := ?v12) rfl (.inl ⟨by rfl, ?hy12⟩) ?hr12
   case hy12 => (intro w hSw; (try dsimp only at hSw); go_simp; try with_reducible rfl)
   simp only [Act.put, Z1, Z2, Z4, Z5, Z6]
   refine tkY 1 (v := ?v13) rfl (.inl ⟨by rfl, ?hy13⟩) ?hr13
   case hy13 => (intro w hSw; (try dsimp only at hSw); go_simp; try with_reducible rfl)
   simp only [Act.put, Z1, Z2, Z3, Z4, Z5, Z6]
   refine tkY 2 (v := ?v14) rfl (.inl ⟨by rfl, ?hy14⟩) ?hr14
   case hy14 => (intro w hSw; (try dsimp only at hSw); go_simp; try with_reducible rfl)
   simp only [Act.put, Z1, Z2, Z3, Z4, Z5, Z6]
   refine tkY 3 (v := ?v15) rfl (.inl ⟨by rfl, ?hy15⟩) ?hr15
   case hy15 => (intro w hSw; (try dsimp only at hSw); go_simp; try with_reducible rfl)
   simp only [Act.put, Z1, Z2, Z3, Z4, Z5, Z6]
   refine tkY 4 (v := ?v16) rfl (.inl ⟨by rfl, ?hy16⟩) ?hr16
   case hy16 => (intro w hSw; (try dsimp only at hSw); go_simp; try with_reducible rfl)
   simp only [Act.put, Z1, Z2, Z3, Z4, Z5, Z6]
   refine tkY 5 (v := ?v17) rfl (.inl ⟨by rfl, ?hy17⟩) ?hr17
   case hy17 => (intro w hSw; (try dsimp only at hSw); go_simp; try with_reducible rfl)
   simp only [Act.put, Z1, Z2, Z3, Z4, Z5, Z6]
   refine tkY 7 (v := ?v18) rfl (.inl ⟨by rfl, ?hy18⟩) ?hr18
   case hy18 => (intro w hSw; (try dsimp only at hSw); go_simp; try with_reducible rfl)
   simp only [Act.put, Z1, Z2, Z3, Z4, Z5, Z6]
   refine tkY 8 (v := ?v19) rfl (.inl ⟨by rfl, ?hy19⟩) ?hr19
   case hy19 => (intro w hSw; (try dsimp only at hSw); go_simp; try with_reducible rfl)
   simp only [Act.put, Z1, Z2, Z3, Z4, Z5, Z6]
   refine tkY 9 (v := ?v20) rfl (.inl ⟨by rfl, ?hy20⟩) ?hr20
   case hy20 => (intro w hSw; (try dsimp only at hSw); go_simp; try with_reducible rfl)
   simp only [Act.put, Z1, Z2, Z3, Z4, Z5, Z6]
   refine tkY 10 (v := ?v21) rfl (.inl ⟨by rfl, ?hy21⟩) ?hr21
   case hy21 => (intro w hSw; (try dsimp only at hSw); go_simp; try with_reducible rfl)
   simp only [Act.put, Z1, Z2, Z3, Z4, Z5, Z6]
   refine tkY 11 (v := .agg k2.toArray) rfl (yieldsIf_load_mid (by rfl) 75 _ rfl b (o' + i * 7 + 1) rfl k2 _ (fun v h => h.2) Tryz.underlying75 rfl (by rw [Cod.value_ok.len q2]; kernel_rfl)) ?hr22
   simp only [Act.put, Z1, Z2, Z3, Z4, Z5, Z6]
   refine wpAnyH_ready (rs := [6]) (by kernel_rfl) (by simp) ?_
   refine AllReadyH.cons rfl (fun K hK => ?_) AllReadyH.nil
   go_simp
   go_at_call 65
   refine (str_fc vd f1 v1 (Cod.str_ok.up q1 (hbw.trans (hbc.mono hbw.size))) s1).mono ?_
   rintro e z1 ⟨A1, c1, rfl, hF1, hbq⟩
   dsimp only
   replace hF1 := rf_lo hF1 hz
   replace hbc := hbc.trans (hbq.mono hbc.size)
   have hz_ := hz
   replace hz := hbc.size
   refine hK.out _ _ ?_ (fun hHeld => ?_)
   ·(try dsimp only)
    exact ⟨CT hbc hbW e1, at_up a2 hbc hbW⟩
   clear hK K
   try simp only [Act.put, Z1, Z2, Z3, Z4, Z5, Z6]
   refine wpAnyH_ready (rs := [12]) (by kernel_rfl) (by simp) ?_
   refine AllReadyH.cons rfl (fun K hK => ?_) AllReadyH.nil
   go_simp
   go_at_call 112
   refine (value_fc z1 f2 k2 (Cod.value_ok.up q2 (hbw.trans (hbc.mono hbw.size))) s2).mono ?_
   rintro e z2 ⟨A2, c2, rfl, hF2, hbq⟩
   dsimp only
   replace hF2 := rf_lo hF2 hz
   replace hF1 := rf_up hF1 hbq
   replace hbc := hbc.trans (hbq.mono hbc.size)
   have hz_ := hz
   replace hz := hbc.size
   refine hK.out _ _ ?_ (fun hHeld => ?_)
   ·(try dsimp only)
    exact ⟨CT hbc hbW e1, at_up a2 hbc hbW⟩
   clear hK K
   try simp only [Act.put, Z1, Z2, Z3, Z4, Z5, Z6]
   refine wpAnyH_ready (rs := [13]) (by kernel_rfl) (by simp) ?_
   refine AllReadyH.cons rfl (fun K hK => ?_) AllReadyH.nil
   go_simp
   generalize hx_ : World.alloc z2 _ = z3
   have hbq : Below z2.heap.size z2 z3 := by rw [← hx_]; exact (Below.refl _ _).alloc (Nat.le_refl _) _
   have hC : CellsAt z3 z2.heap.size (fC f1 A1 c1 ++ (fC f2 A2 c2 ++ ([]))) := by rw [← hx_]; exact CellsAt.new z2 _ _
   clear hx_
   replace hF1 := rf_up hF1 hbq
   replace hF2 := rf_up hF2 hbq
   replace hbc := hbc.trans (hbq.mono hbc.size)
   have hz_ := hz
   replace hz := hbc.size
   have hL := rl_cons hF1 (rl_cons hF2 (rl_nil))
   have hFR := seq_of hC hz_ hL (n := 2) rfl
   clear hC hL hF1 hF2
   refine hK.out _ _ ?_ (fun hHeld => ?_)
   ·(try dsimp only)
    exact ⟨CT hbc hbW e1, at_up a2 hbc hbW⟩
   clear hK K
   try simp only [Act.put, Z1, Z2, Z3, Z4, Z5, Z6]
   refine wpAnyH_ready (rs := [14]) (by kernel_rfl) (by simp) ?_
   refine AllReadyH.cons rfl (fun K hK => ?_) AllReadyH.nil
   go_simp
   go_at_call 39
   refine (seq_any _ _ _ _).mono ?_
   rintro e z4 ⟨rfl, hbq⟩
   dsimp only
   replace hFR := rf_up hFR hbq
   replace hbc := hbc.trans (hbq.mono hbc.size)
   have hz_ := hz
   replace hz := hbc.size
   refine hK.out _ _ ?_ (fun hHeld => ?_)
   ·(try dsimp only)
    exact ⟨CT hbc hbW e1, at_up a2 hbc hbW⟩
   clear hK K
   try simp only [Act.put, Z1, Z2, Z3, Z4, Z5, Z6]
   refine wpAnyH_ready (rs := [15]) (by kernel_rfl) (by simp) ?_
   refine AllReadyH.cons rfl (fun K hK => ?_) AllReadyH.nil
   go_simp
   generalize hx_ : World.alloc z4 _ = z5
   have hbq : Below z4.heap.size z4 z5 := by rw [← hx_]; exact (Below.refl _ _).alloc (Nat.le_refl _) _
   have hC : CellsAt z5 z4.heap.size ([.int .i64 2, .int .i64 0, .string ⟨#[]⟩, .slice (some ⟨z2.heap.size, 0, none⟩) 2 2]) := by rw [← hx_]; exact CellsAt.new z4 _ _
   clear hx_
   replace hFR := rf_up hFR hbq
   replace hbc := hbc.trans (hbq.mono hbc.size)
   have hz_ := hz
   replace hz := hbc.size
   have hX := box_rs hL hC hz_ hFR hbr.size
   replace hX := Lib.hid hX
   clear hC hFR
   refine hK.out _ _ ?_ (fun hHeld => ?_)
   ·(try dsimp only)
    exact ⟨CT hbc hbW e1, at_up a2 hbc hbW⟩
   clear hK K
   try simp only [Act.put, Z1, Z2, Z3, Z4, Z5, Z6]
   refine wpAnyH_ready (rs := [16]) (by kernel_rfl) (by simp) ?_
   refine AllReadyH.cons rfl (fun K hK => ?_) AllReadyH.nil
   refine step_appRS (rFB_ok _) (rFB_one _) (hL.below (rFB_ok _) hbc) hX.out fld_und fld_info (by rw [List.length_take]; omega) ?_
   intro v5 z9 hL5 hg5
   clear hX hg5
   refine hK.out _ _ ?_ (fun hHeld => ?_)
   ·(try dsimp only)
    exact ⟨(same_at hL.bel hL5.bel (p := ⟨b, _, none⟩) hb1).trans e1, fun j v hj => (same_at hL.bel hL5.bel (p := ⟨b, _, none⟩) hb1).trans (a2 j v hj)⟩
   clear hK K
   try simp only [Act.put, Z1, Z2, Z3, Z4, Z5, Z6]
   refine tkY 17 (v := ?v23) rfl (.inl ⟨by rfl, ?hy23⟩) ?hr23
   case hy23 => (intro w hSw; (try dsimp only at hSw); go_simp; try with_reducible rfl)
   simp only [Act.put, Z1, Z2, Z3, Z4, Z5, Z6]
   refine wpAnyH_done (by kernel_rfl) ?_ _
   clear hHeld
   obtain ⟨A5, c5, rfl⟩ := hL5.form
   generalize hnn : (m.take i ++ [fL [f1, f2]]).length = n5 at *
   replace hnn := Lib.hid hnn
   have i3 : IntKind.i64.wrap ((i : Int) + 1) = (i : Int) + 1 := IntWalk.i64_in _ (by omega)
   repeat' (first | go_skip | go_guarded | go_step)
   go_roundw
   case rel =>
    have e5 : m.take (i + 1) = m.take i ++ [fL [f1, f2]] := by rw [List.take_add_one, hx]; rfl
    refine ⟨i + 1, A5, n5, c5, by omega, by congr 1, rfl, by rw [e5]; exact hnn.out.symm, by rw [e5]; exact hL5⟩
   case measure => simp [intOf]; omega
  ·obtain rfl : i = m.length := by omega
   have hn2 := hn'.out
   rw [List.take_length] at hL hn2
   subst hn2
   clear hn'
   repeat' (first | go_skip | go_guarded | go_step)
   refine (seq_any A' m.length c' wr).mono ?_
   rintro e w2 ⟨rfl, hb2⟩
   dsimp only
   have hF := ownR_fl (hL.below (rFB_ok _) hb2) (Nat.le_refl _)
   have zw2 := hb2.size
   have hP3 : OwnB w w2 [(w.heap.size, [.int .i64 0, .int .i64 0, .string ⟨#[]⟩, .slice none 0 0])] := hP2.kept hb2
   clear c0_0 c0_1 c0_2 c0_3 cf0 hP2
   have c0_0 := hP3.c 0 0
   have c0_1 := hP3.c 0 1
   have c0_2 := hP3.c 0 2
   have c0_3 := hP3.c 0 3
   have cf0 := hP3.fr 0
   clear zw2
   repeat' ((fail_if_success at_builtin); first | go_skip | go_guarded | go_step)
   have hO9 := (((hP3.store 0 rfl 0 (.int .i64 2)).store 0 rfl 1 (.int .i64 0)).store 0 rfl 2 (.string ⟨#[]⟩)).store 0 rfl 3 (.slice A' m.length c')
   have h9 := far4g w2 w.heap.size (.int .i64 2) (.int .i64 0) (.string ⟨#[]⟩) (.slice A' m.length c')
   generalize World.setCell (World.setCell (World.setCell (World.setCell w2 _ _) _ _) _ _) _ _ = w9 at *
   have y0 := hO9.c 0 0
   have y1 := hO9.c 0 1
   have y2 := hO9.c 0 2
   have y3 := hO9.c 0 3
   replace hF := rf_far (w := w) hF hz0 (Nat.le_of_lt hz0) h9
   refine bodyPost_ret (v := .agg #[.int .i64 2, .int .i64 0, .string ⟨#[]⟩, .slice A' m.length c']) (by simp only [results, Tryz.results67]; go_simp; first | done | exact ⟨rfl, rfl, rfl⟩ | rfl) rfl ?_
   have e9 := ofL_length m
   exact ⟨A', c', by show _ = Ending.returned (.agg #[.int .i64 2, .int .i64 0, .string ⟨#[]⟩, .slice A' (ofL m).length c']); rw [e9], by show rF _ _ _ [.int .i64 2, .int .i64 0, .string ⟨#[]⟩, .slice A' (ofL m).length c']; rw [e9]; exact hF, hO9.below⟩
theorem outputs_fc : Form1 113 (Cod.list Cod.output) := by
 intro w f v hr hs
 obtain ⟨m, A, c, rfl, h, hR⟩ := hr
 injection h with h
 subst h
 rw [fsz_fL] at hs
 have hm := lsz_length m
 go_enter Tryz.func113, Tryz.ntmps113
 go_upto_region 1 with (fail)
 generalize hx_ : World.alloc w _ = wo1
 have hP1 : OwnB w wo1 [(w.heap.size, [.int .i64 0, .int .i64 0, .string ⟨#[]⟩, .slice none 0 0])] := by rw [← hx_]; exact (OwnB.refl w).new #[.int .i64 0, .int .i64 0, .string ⟨#[]⟩, .slice none 0 0] _ (g := w.heap.size)
 have hbn : Below w.heap.size w wo1 := by rw [← hx_]; exact (Below.refl _ _).alloc (Nat.le_refl _) _
 have zwo1 : wo1.heap.size = w.heap.size + 1 := by rw [← hx_]; simp
 clear hx_
 have c0_0 := hP1.c 0 0
 have c0_1 := hP1.c 0 1
 have c0_2 := hP1.c 0 2
 have c0_3 := hP1.c 0 3
 have cf0 := hP1.fr 0
 clear hbn
 clear zwo1
 have hb0 := hP1.below
 have hz0 : w.heap.size < wo1.heap.size := hP1.lt 0
 have hR0 := OwnR.nil (r := rFB wo1.heap.size) (sz := 4) wo1 fldT
 replace hR := Lib.hid hR
 repeat' (first | go_skip | go_guarded | go_step)
 go_loopw [3, 4] (fun u3 u4 wr => ∃ (i : Nat) (A' : Option Addr) (n' c' : Nat), i ≤ m.length ∧ u4 = .int .i64 (i : Int) ∧ u3 = .slice A' n' c' ∧ n' = (m.take i).length ∧ OwnR (rFB wo1.heap.size) 4 wo1 wr fldT (.slice A' n' c') (m.take i)) (fun _ u4 _ => m.length - (intOf u4).toNat)
 case atStart => exact ⟨0, none, 0, 0, Nat.zero_le _, rfl, rfl, rfl, hR0⟩
 case round =>
  clear hR0
  obtain ⟨i, A', n', c', hi, rfl, rfl, hn', hL⟩ := hrel
  replace hn' := Lib.hid hn'
  have hbr := hL.bel
  have hP2 : OwnB w wr [(w.heap.size, [.int .i64 0, .int .i64 0, .string ⟨#[]⟩, .slice none 0 0])] := hP1.kept hbr
  clear c0_0 c0_1 c0_2 c0_3 cf0 hP1
  have c0_0 := hP2.c 0 0
  have c0_1 := hP2.c 0 1
  have c0_2 := hP2.c 0 2
  have c0_3 := hP2.c 0 3
  have cf0 := hP2.fr 0
  by_cases hlt : i < m.length
  ·obtain ⟨x, hx⟩ : ∃ x, m[i]? = some x := ⟨_, List.getElem?_eq_getElem hlt⟩
   obtain ⟨b, o', k1, rfl, hb, hkl, hrx, hat⟩ := hR.out.at_ hx
   have hbw : Below w.heap.size w wr := hb0.trans (hbr.mono hb0.size)
   have hbW : b < wr.heap.size := Nat.lt_of_lt_of_le hb hbw.size
   have hb1 : b < wo1.heap.size := Nat.lt_trans hb hz0
   have hsx : fsz x ≤ 1000000000 := by have := fsz_mem (List.mem_of_getElem? hx); omega
   have i1 : (0 : Int) ≤ (i : Int) := by omega
   have i2 : (i : Int) < (m.length : Int) := by omega
   obtain ⟨fs, rfl, hr⟩ := hrx
   rw [fsz_fL] at hsx
   have hat' : wr.rangeAt b (o' + i * 3) k1 := fun j u hu => (hbw.cell (p := ⟨b, o' + i * 3 + j, none⟩) hb).trans (hat j u hu)
   clear hat
   obtain ⟨f1, r1, k1, d1, rfl, rfl, q1, hr⟩ := hr
   obtain ⟨f2, r2, k2, d2, rfl, rfl, q2, hr⟩ := hr
   obtain ⟨f3, r3, k3, d3, rfl, rfl, q3, hr⟩ := hr
   obtain ⟨rfl, rfl⟩ := hr
   have s1 : fsz f1 ≤ 1000000000 := by have := fsz_mem (l := [f1, f2, f3]) (f := f1) (by simp); omega
   have s2 : fsz f2 ≤ 1000000000 := by have := fsz_mem (l := [f1, f2, f3]) (f := f2) (by simp); omega
   have s3 : fsz f3 ≤ 1000000000 := by have := fsz_mem (l := [f1, f2, f3]) (f := f3) (by simp); omega
   obtain ⟨v1, rfl⟩ := one_list (Cod.str_ok.len q1)
   obtain ⟨n2, hn2, rfl, rfl⟩ := q2
   obtain ⟨v3, rfl⟩ := one_list (Cod.int_ok.len q3)
   have e1 : wr.cell? ⟨b, o' + i * 3, none⟩ = some (v1) := hat' 0 _ rfl
   have e2 : wr.cell? ⟨b, o' + i * 3 + 1, none⟩ = some (.int .u64 (n2 : Int)) := hat' 1 _ rfl
   have e3 : wr.cell? ⟨b, o' + i * 3 + 2, none⟩ = some (v3) := hat' 2 _ rfl
   clear hat'
   go_upto_region 5 with (fail)
   have hbc : Below wr.heap.size wr wr.drew := (Below.refl _ _).drew
   have hz := hbc.size
   refine wp_region_held_drew (S := (fun w' => w'.cell? ⟨b, o' + i * 3, none⟩ = some (v1) ∧ w'.cell? ⟨b, o' + i * 3 + 1, none⟩ = some (.int .u64 (n2 : Int)) ∧ w'.cell? ⟨b, o' + i * 3 + 2, none⟩ = some (v3))) (by kernel_rfl) ?_ (fun hHeld => ?_)
   ·(try dsimp only)
    exact ⟨CT hbc hbW e1, CT hbc hbW e2, CT hbc hbW e3⟩
   generalize World.drew wr = vd at *
   refine tkY 0 (v := ?v13) rfl (.inl ⟨by rfl, ?hy13⟩) ?hr13
   case hy13 => (intro w hSw; (try dsimp only at hSw); go_simp; try with_reducible rfl)
   simp only [Act.put, Z1, Z2, Z4, Z5, Z6]
   refine tkY 1 (v := ?v14) rfl (.inl ⟨by rfl, ?hy14⟩) ?hr14
   case hy14 => (intro w hSw; (try dsimp only at hSw); go_simp; try with_reducible rfl)
   simp only [Act.put, Z1, Z2, Z3, Z4, Z5, Z6]
   refine tkY 2 (v := ?v15) rfl (.inl ⟨by rfl, ?hy15⟩) ?hr15
   case hy15 => (intro w hSw; (try dsimp only at hSw); go_simp; try with_reducible rfl)
   simp only [Act.put, Z1, Z2, Z3, Z4, Z5, Z6]
   refine tkY 3 (v := ?v16) rfl (.inl ⟨by rfl, ?hy16⟩) ?hr16
   case hy16 => (intro w hSw; (try dsimp only at hSw); go_simp; try with_reducible rfl)
   simp only [Act.put, Z1, Z2, Z3, Z4, Z5, Z6]
   refine tkY 4 (v := ?v17) rfl (.inl ⟨by rfl, ?hy17⟩) ?hr17
   case hy17 => (intro w hSw; (try dsimp only at hSw); go_simp; try with_reducible rfl)
   simp only [Act.put, Z1, Z2, Z3, Z4, Z5, Z6]
   refine tkY 5 (v := ?v18) rfl (.inl ⟨by rfl, ?hy18⟩) ?hr18
   case hy18 => (intro w hSw; (try dsimp only at hSw); go_simp; try with_reducible rfl)
   simp only [Act.put, Z1, Z2, Z3, Z4, Z5, Z6]
   refine tkY 7 (v := ?v19) rfl (.inl ⟨by rfl, ?hy19⟩) ?hr19
   case hy19 => (intro w hSw; (try dsimp only at hSw); go_simp; try with_reducible rfl)
   simp only [Act.put, Z1, Z2, Z3, Z4, Z5, Z6]
   refine tkY 8 (v := ?v20) rfl (.inl ⟨by rfl, ?hy20⟩) ?hr20
   case hy20 => (intro w hSw; (try dsimp only at hSw); go_simp; try with_reducible rfl)
   simp only [Act.put, Z1, Z2, Z3, Z4, Z5, Z6]
   refine tkY 9 (v := ?v21) rfl (.inl ⟨by rfl, ?hy21⟩) ?hr21
   case hy21 => (intro w hSw; (try dsimp only at hSw); go_simp; try with_reducible rfl)
   simp only [Act.put, Z1, Z2, Z3, Z4, Z5, Z6]
   refine tkY 10 (v := ?v22) rfl (.inl ⟨by rfl, ?hy22⟩) ?hr22
   case hy22 => (intro w hSw; (try dsimp only at hSw); go_simp; try with_reducible rfl)
   simp only [Act.put, Z1, Z2, Z3, Z4, Z5, Z6]
   refine tkY 11 (v := ?v23) rfl (.inl ⟨by rfl, ?hy23⟩) ?hr23
   case hy23 => (intro w hSw; (try dsimp only at hSw); go_simp; try with_reducible rfl)
   simp only [Act.put, Z1, Z2, Z3, Z4, Z5, Z6]
   refine tkY 12 (v := ?v24) rfl (.inl ⟨by rfl, ?hy24⟩) ?hr24
   case hy24 => (intro w hSw; (try dsimp only at hSw); go_simp; try with_reducible rfl)
   simp only [Act.put, Z1, Z2, Z3, Z4, Z5, Z6]
   refine tkY 14 (v := ?v25) rfl (.inl ⟨by rfl, ?hy25⟩) ?hr25
   case hy25 => (intro w hSw; (try dsimp only at hSw); go_simp; try with_reducible rfl)
   simp only [Act.put, Z1, Z2, Z3, Z4, Z5, Z6]
   refine tkY 15 (v := ?v26) rfl (.inl ⟨by rfl, ?hy26⟩) ?hr26
   case hy26 => (intro w hSw; (try dsimp only at hSw); go_simp; try with_reducible rfl)
   simp only [Act.put, Z1, Z2, Z3, Z4, Z5, Z6]
   refine tkY 16 (v := ?v27) rfl (.inl ⟨by rfl, ?hy27⟩) ?hr27
   case hy27 => (intro w hSw; (try dsimp only at hSw); go_simp; try with_reducible rfl)
   simp only [Act.put, Z1, Z2, Z3, Z4, Z5, Z6]
   refine tkY 17 (v := ?v28) rfl (.inl ⟨by rfl, ?hy28⟩) ?hr28
   case hy28 => (intro w hSw; (try dsimp only at hSw); go_simp; try with_reducible rfl)
   simp only [Act.put, Z1, Z2, Z3, Z4, Z5, Z6]
   refine tkY 18 (v := ?v29) rfl (.inl ⟨by rfl, ?hy29⟩) ?hr29
   case hy29 => (intro w hSw; (try dsimp only at hSw); go_simp; try with_reducible rfl)
   simp only [Act.put, Z1, Z2, Z3, Z4, Z5, Z6]
   refine wpAnyH_ready (rs := [6]) (by kernel_rfl) (by simp) ?_
   refine AllReadyH.cons rfl (fun K hK => ?_) AllReadyH.nil
   go_simp
   go_at_call 65
   refine (str_fc vd f1 v1 (Cod.str_ok.up q1 (hbw.trans (hbc.mono hbw.size))) s1).mono ?_
   rintro e z1 ⟨A1, c1, rfl, hF1, hbq⟩
   dsimp only
   replace hF1 := rf_lo hF1 hz
   replace hbc := hbc.trans (hbq.mono hbc.size)
   have hz_ := hz
   replace hz := hbc.size
   refine hK.out _ _ ?_ (fun hHeld => ?_)
   ·(try dsimp only)
    exact ⟨CT hbc hbW e1, CT hbc hbW e2, CT hbc hbW e3⟩
   clear hK K
   try simp only [Act.put, Z1, Z2, Z3, Z4, Z5, Z6]
   refine wpAnyH_ready (rs := [13]) (by kernel_rfl) (by simp) ?_
   refine AllReadyH.cons rfl (fun K hK => ?_) AllReadyH.nil
   go_simp
   go_at_call 64
   rw [IntWalk.i64_left]
   refine (num_any _ (wrap_int (n2 : Int)) z1).mono ?_
   rintro e z2 ⟨A2, c2, rfl, hF2, hbq⟩
   dsimp only
   replace hF2 := rf_lo hF2 hz
   replace hF1 := rf_up hF1 hbq
   replace hbc := hbc.trans (hbq.mono hbc.size)
   have hz_ := hz
   replace hz := hbc.size
   refine hK.out _ _ ?_ (fun hHeld => ?_)
   ·(try dsimp only)
    exact ⟨CT hbc hbW e1, CT hbc hbW e2, CT hbc hbW e3⟩
   clear hK K
   try simp only [Act.put, Z1, Z2, Z3, Z4, Z5, Z6]
   refine wpAnyH_ready (rs := [19]) (by kernel_rfl) (by simp) ?_
   refine AllReadyH.cons rfl (fun K hK => ?_) AllReadyH.nil
   go_simp
   go_at_call 64
   refine (num_fc z2 f3 v3 (Cod.int_ok.up q3 (hbw.trans (hbc.mono hbw.size))) s3).mono ?_
   rintro e z3 ⟨A3, c3, rfl, hF3, hbq⟩
   dsimp only
   replace hF3 := rf_lo hF3 hz
   replace hF1 := rf_up hF1 hbq
   replace hF2 := rf_up hF2 hbq
   replace hbc := hbc.trans (hbq.mono hbc.size)
   have hz_ := hz
   replace hz := hbc.size
   refine hK.out _ _ ?_ (fun hHeld => ?_)
   ·(try dsimp only)
    exact ⟨CT hbc hbW e1, CT hbc hbW e2, CT hbc hbW e3⟩
   clear hK K
   try simp only [Act.put, Z1, Z2, Z3, Z4, Z5, Z6]
   refine wpAnyH_ready (rs := [20]) (by kernel_rfl) (by simp) ?_
   refine AllReadyH.cons rfl (fun K hK => ?_) AllReadyH.nil
   go_simp
   generalize hx_ : World.alloc z3 _ = z4
   have hbq : Below z3.heap.size z3 z4 := by rw [← hx_]; exact (Below.refl _ _).alloc (Nat.le_refl _) _
   have hC : CellsAt z4 z3.heap.size (fC f1 A1 c1 ++ (fC (fI (wrap64 (n2 : Int))) A2 c2 ++ (fC f3 A3 c3 ++ ([])))) := by rw [← hx_]; exact CellsAt.new z3 _ _
   clear hx_
   replace hF1 := rf_up hF1 hbq
   replace hF2 := rf_up hF2 hbq
   replace hF3 := rf_up hF3 hbq
   replace hbc := hbc.trans (hbq.mono hbc.size)
   have hz_ := hz
   replace hz := hbc.size
   have hL := rl_cons hF1 (rl_cons hF2 (rl_cons hF3 (rl_nil)))
   have hFR := seq_of hC hz_ hL (n := 3) rfl
   clear hC hL hF1 hF2 hF3
   refine hK.out _ _ ?_ (fun hHeld => ?_)
   ·(try dsimp only)
    exact ⟨CT hbc hbW e1, CT hbc hbW e2, CT hbc hbW e3⟩
   clear hK K
   try simp only [Act.put, Z1, Z2, Z3, Z4, Z5, Z6]
   refine wpAnyH_ready (rs := [21]) (by kernel_rfl) (by simp) ?_
   refine AllReadyH.cons rfl (fun K hK => ?_) AllReadyH.nil
   go_simp
   go_at_call 39
   refine (seq_any _ _ _ _).mono ?_
   rintro e z5 ⟨rfl, hbq⟩
   dsimp only
   replace hFR := rf_up hFR hbq
   replace hbc := hbc.trans (hbq.mono hbc.size)
   have hz_ := hz
   replace hz := hbc.size
   refine hK.out _ _ ?_ (fun hHeld => ?_)
   ·(try dsimp only)
    exact ⟨CT hbc hbW e1, CT hbc hbW e2, CT hbc hbW e3⟩
   clear hK K
   try simp only [Act.put, Z1, Z2, Z3, Z4, Z5, Z6]
   refine wpAnyH_ready (rs := [22]) (by kernel_rfl) (by simp) ?_
   refine AllReadyH.cons rfl (fun K hK => ?_) AllReadyH.nil
   go_simp
   generalize hx_ : World.alloc z5 _ = z6
   have hbq : Below z5.heap.size z5 z6 := by rw [← hx_]; exact (Below.refl _ _).alloc (Nat.le_refl _) _
   have hC : CellsAt z6 z5.heap.size ([.int .i64 2, .int .i64 0, .string ⟨#[]⟩, .slice (some ⟨z3.heap.size, 0, none⟩) 3 3]) := by rw [← hx_]; exact CellsAt.new z5 _ _
   clear hx_
   replace hFR := rf_up hFR hbq
   replace hbc := hbc.trans (hbq.mono hbc.size)
   have hz_ := hz
   replace hz := hbc.size
   have hX := box_rs hL hC hz_ hFR hbr.size
   replace hX := Lib.hid hX
   clear hC hFR
   refine hK.out _ _ ?_ (fun hHeld => ?_)
   ·(try dsimp only)
    exact ⟨CT hbc hbW e1, CT hbc hbW e2, CT hbc hbW e3⟩
   clear hK K
   try simp only [Act.put, Z1, Z2, Z3, Z4, Z5, Z6]
   refine wpAnyH_ready (rs := [23]) (by kernel_rfl) (by simp) ?_
   refine AllReadyH.cons rfl (fun K hK => ?_) AllReadyH.nil
   refine step_appRS (rFB_ok _) (rFB_one _) (hL.below (rFB_ok _) hbc) hX.out fld_und fld_info (by rw [List.length_take]; omega) ?_
   intro v5 z9 hL5 hg5
   clear hX hg5
   refine hK.out _ _ ?_ (fun hHeld => ?_)
   ·(try dsimp only)
    exact ⟨(same_at hL.bel hL5.bel (p := ⟨b, _, none⟩) hb1).trans e1, (same_at hL.bel hL5.bel (p := ⟨b, _, none⟩) hb1).trans e2, (same_at hL.bel hL5.bel (p := ⟨b, _, none⟩) hb1).trans e3⟩
   clear hK K
   try simp only [Act.put, Z1, Z2, Z3, Z4, Z5, Z6]
   refine tkY 24 (v := ?v30) rfl (.inl ⟨by rfl, ?hy30⟩) ?hr30
   case hy30 => (intro w hSw; (try dsimp only at hSw); go_simp; try with_reducible rfl)
   simp only [Act.put, Z1, Z2, Z3, Z4, Z5, Z6]
   refine wpAnyH_done (by kernel_rfl) ?_ _
   clear hHeld
   obtain ⟨A5, c5, rfl⟩ := hL5.form
   generalize hnn : (m.take i ++ [fL [f1, (fI (wrap64 (n2 : Int))), f3]]).length = n5 at *
   replace hnn := Lib.hid hnn
   have i3 : IntKind.i64.wrap ((i : Int) + 1) = (i : Int) + 1 := IntWalk.i64_in _ (by omega)
   repeat' (first | go_skip | go_guarded | go_step)
   go_roundw
   case rel =>
    have e5 : m.take (i + 1) = m.take i ++ [fL [f1, (fI (wrap64 (n2 : Int))), f3]] := by rw [List.take_add_one, hx]; rfl
    refine ⟨i + 1, A5, n5, c5, by omega, by congr 1, rfl, by rw [e5]; exact hnn.out.symm, by rw [e5]; exact hL5⟩
   case measure => simp [intOf]; omega
  ·obtain rfl : i = m.length := by omega
   have hn2 := hn'.out
   rw [List.take_length] at hL hn2
   subst hn2
   clear hn'
   repeat' (first | go_skip | go_guarded | go_step)
   refine (seq_any A' m.length c' wr).mono ?_
   rintro e w2 ⟨rfl, hb2⟩
   dsimp only
   have hF := ownR_fl (hL.below (rFB_ok _) hb2) (Nat.le_refl _)
   have zw2 := hb2.size
   have hP3 : OwnB w w2 [(w.heap.size, [.int .i64 0, .int .i64 0, .string ⟨#[]⟩, .slice none 0 0])] := hP2.kept hb2
   clear c0_0 c0_1 c0_2 c0_3 cf0 hP2
   have c0_0 := hP3.c 0 0
   have c0_1 := hP3.c 0 1
   have c0_2 := hP3.c 0 2
   have c0_3 := hP3.c 0 3
   have cf0 := hP3.fr 0
   clear zw2
   repeat' ((fail_if_success at_builtin); first | go_skip | go_guarded | go_step)
   have hO9 := (((hP3.store 0 rfl 0 (.int .i64 2)).store 0 rfl 1 (.int .i64 0)).store 0 rfl 2 (.string ⟨#[]⟩)).store 0 rfl 3 (.slice A' m.length c')
   have h9 := far4g w2 w.heap.size (.int .i64 2) (.int .i64 0) (.string ⟨#[]⟩) (.slice A' m.length c')
   generalize World.setCell (World.setCell (World.setCell (World.setCell w2 _ _) _ _) _ _) _ _ = w9 at *
   have y0 := hO9.c 0 0
   have y1 := hO9.c 0 1
   have y2 := hO9.c 0 2
   have y3 := hO9.c 0 3
   replace hF := rf_far (w := w) hF hz0 (Nat.le_of_lt hz0) h9
   refine bodyPost_ret (v := .agg #[.int .i64 2, .int .i64 0, .string ⟨#[]⟩, .slice A' m.length c']) (by simp only [results, Tryz.results113]; go_simp; first | done | exact ⟨rfl, rfl, rfl⟩ | rfl) rfl ?_
   have e9 := ofL_length m
   exact ⟨A', c', by show _ = Ending.returned (.agg #[.int .i64 2, .int .i64 0, .string ⟨#[]⟩, .slice A' (ofL m).length c']); rw [e9], by show rF _ _ _ [.int .i64 2, .int .i64 0, .string ⟨#[]⟩, .slice A' (ofL m).length c']; rw [e9]; exact hF, hO9.below⟩
theorem tests_fc : Form1 114 (Cod.list Cod.test) := by
 intro w f v hr hs
 obtain ⟨m, A, c, rfl, h, hR⟩ := hr
 injection h with h
 subst h
 rw [fsz_fL] at hs
 have hm := lsz_length m
 go_enter Tryz.func114, Tryz.ntmps114
 go_upto_region 1 with (fail)
 generalize hx_ : World.alloc w _ = wo1
 have hP1 : OwnB w wo1 [(w.heap.size, [.int .i64 0, .int .i64 0, .string ⟨#[]⟩, .slice none 0 0])] := by rw [← hx_]; exact (OwnB.refl w).new #[.int .i64 0, .int .i64 0, .string ⟨#[]⟩, .slice none 0 0] _ (g := w.heap.size)
 have hbn : Below w.heap.size w wo1 := by rw [← hx_]; exact (Below.refl _ _).alloc (Nat.le_refl _) _
 have zwo1 : wo1.heap.size = w.heap.size + 1 := by rw [← hx_]; simp
 clear hx_
 have c0_0 := hP1.c 0 0
 have c0_1 := hP1.c 0 1
 have c0_2 := hP1.c 0 2
 have c0_3 := hP1.c 0 3
 have cf0 := hP1.fr 0
 clear hbn
 clear zwo1
 have hb0 := hP1.below
 have hz0 : w.heap.size < wo1.heap.size := hP1.lt 0
 have hR0 := OwnR.nil (r := rFB wo1.heap.size) (sz := 4) wo1 fldT
 replace hR := Lib.hid hR
 repeat' (first | go_skip | go_guarded | go_step)
 go_loopw [3, 4] (fun u3 u4 wr => ∃ (i : Nat) (A' : Option Addr) (n' c' : Nat), i ≤ m.length ∧ u4 = .int .i64 (i : Int) ∧ u3 = .slice A' n' c' ∧ n' = (m.take i).length ∧ OwnR (rFB wo1.heap.size) 4 wo1 wr fldT (.slice A' n' c') (m.take i)) (fun _ u4 _ => m.length - (intOf u4).toNat)
 case atStart => exact ⟨0, none, 0, 0, Nat.zero_le _, rfl, rfl, rfl, hR0⟩
 case round =>
  clear hR0
  obtain ⟨i, A', n', c', hi, rfl, rfl, hn', hL⟩ := hrel
  replace hn' := Lib.hid hn'
  have hbr := hL.bel
  have hP2 : OwnB w wr [(w.heap.size, [.int .i64 0, .int .i64 0, .string ⟨#[]⟩, .slice none 0 0])] := hP1.kept hbr
  clear c0_0 c0_1 c0_2 c0_3 cf0 hP1
  have c0_0 := hP2.c 0 0
  have c0_1 := hP2.c 0 1
  have c0_2 := hP2.c 0 2
  have c0_3 := hP2.c 0 3
  have cf0 := hP2.fr 0
  by_cases hlt : i < m.length
  ·obtain ⟨x, hx⟩ : ∃ x, m[i]? = some x := ⟨_, List.getElem?_eq_getElem hlt⟩
   obtain ⟨b, o', k1, rfl, hb, hkl, hrx, hat⟩ := hR.out.at_ hx
   have hbw : Below w.heap.size w wr := hb0.trans (hbr.mono hb0.size)
   have hbW : b < wr.heap.size := Nat.lt_of_lt_of_le hb hbw.size
   have hb1 : b < wo1.heap.size := Nat.lt_trans hb hz0
   have hsx : fsz x ≤ 1000000000 := by have := fsz_mem (List.mem_of_getElem? hx); omega
   have i1 : (0 : Int) ≤ (i : Int) := by omega
   have i2 : (i : Int) < (m.length : Int) := by omega
   obtain ⟨fs, rfl, hr⟩ := hrx
   rw [fsz_fL] at hsx
   have hat' : wr.rangeAt b (o' + i * 3) k1 := fun j u hu => (hbw.cell (p := ⟨b, o' + i * 3 + j, none⟩) hb).trans (hat j u hu)
   clear hat
   obtain ⟨f1, r1, k1, d1, rfl, rfl, q1, hr⟩ := hr
   obtain ⟨f2, r2, k2, d2, rfl, rfl, q2, hr⟩ := hr
   obtain ⟨f3, r3, k3, d3, rfl, rfl, q3, hr⟩ := hr
   obtain ⟨rfl, rfl⟩ := hr
   have s1 : fsz f1 ≤ 1000000000 := by have := fsz_mem (l := [f1, f2, f3]) (f := f1) (by simp); omega
   have s2 : fsz f2 ≤ 1000000000 := by have := fsz_mem (l := [f1, f2, f3]) (f := f2) (by simp); omega
   have s3 : fsz f3 ≤ 1000000000 := by have := fsz_mem (l := [f1, f2, f3]) (f := f3) (by simp); omega
   obtain ⟨v1, rfl⟩ := one_list (Cod.str_ok.len q1)
   obtain ⟨v2, rfl⟩ := one_list (Cod.int_ok.len q2)
   obtain ⟨v3, rfl⟩ := one_list (Cod.int_ok.len q3)
   have e1 : wr.cell? ⟨b, o' + i * 3, none⟩ = some (v1) := hat' 0 _ rfl
   have e2 : wr.cell? ⟨b, o' + i * 3 + 1, none⟩ = some (v2) := hat' 1 _ rfl
   have e3 : wr.cell? ⟨b, o' + i * 3 + 2, none⟩ = some (v3) := hat' 2 _ rfl
   clear hat'
   go_upto_region 5 with (fail)
   have hbc : Below wr.heap.size wr wr.drew := (Below.refl _ _).drew
   have hz := hbc.size
   refine wp_region_held_drew (S := (fun w' => w'.cell? ⟨b, o' + i * 3, none⟩ = some (v1) ∧ w'.cell? ⟨b, o' + i * 3 + 1, none⟩ = some (v2) ∧ w'.cell? ⟨b, o' + i * 3 + 2, none⟩ = some (v3))) (by kernel_rfl) ?_ (fun hHeld => ?_)
   ·(try dsimp only)
    exact ⟨CT hbc hbW e1, CT hbc hbW e2, CT hbc hbW e3⟩
   generalize World.drew wr = vd at *
   refine tkY 0 (v := ?v31) rfl (.inl ⟨by rfl, ?hy31⟩) ?hr31
   case hy31 => (intro w hSw; (try dsimp only at hSw); go_simp; try with_reducible rfl)
   simp only [Act.put, Z1, Z2, Z4, Z5, Z6]
   refine tkY 1 (v := ?v32) rfl (.inl ⟨by rfl, ?hy32⟩) ?hr32
   case hy32 => (intro w hSw; (try dsimp only at hSw); go_simp; try with_reducible rfl)
   simp only [Act.put, Z1, Z2, Z3, Z4, Z5, Z6]
   refine tkY 2 (v := ?v33) rfl (.inl ⟨by rfl, ?hy33⟩) ?hr33
   case hy33 => (intro w hSw; (try dsimp only at hSw); go_simp; try with_reducible rfl)
   simp only [Act.put, Z1, Z2, Z3, Z4, Z5, Z6]
   refine tkY 3 (v := ?v34) rfl (.inl ⟨by rfl, ?hy34⟩) ?hr34
   case hy34 => (intro w hSw; (try dsimp only at hSw); go_simp; try with_reducible rfl)
   simp only [Act.put, Z1, Z2, Z3, Z4, Z5, Z6]
   refine tkY 4 (v := ?v35) rfl (.inl ⟨by rfl, ?hy35⟩) ?hr35
   case hy35 => (intro w hSw; (try dsimp only at hSw); go_simp; try with_reducible rfl)
   simp only [Act.put, Z1, Z2, Z3, Z4, Z5, Z6]
   refine tkY 5 (v := ?v36) rfl (.inl ⟨by rfl, ?hy36⟩) ?hr36
   case hy36 => (intro w hSw; (try dsimp only at hSw); go_simp; try with_reducible rfl)
   simp only [Act.put, Z1, Z2, Z3, Z4, Z5, Z6]
   refine tkY 7 (v := ?v37) rfl (.inl ⟨by rfl, ?hy37⟩) ?hr37
   case hy37 => (intro w hSw; (try dsimp only at hSw); go_simp; try with_reducible rfl)
   simp only [Act.put, Z1, Z2, Z3, Z4, Z5, Z6]
   refine tkY 8 (v := ?v38) rfl (.inl ⟨by rfl, ?hy38⟩) ?hr38
   case hy38 => (intro w hSw; (try dsimp only at hSw); go_simp; try with_reducible rfl)
   simp only [Act.put, Z1, Z2, Z3, Z4, Z5, Z6]
   refine tkY 9 (v := ?v39) rfl (.inl ⟨by rfl, ?hy39⟩) ?hr39
   case hy39 => (intro w hSw; (try dsimp only at hSw); go_simp; try with_reducible rfl)
   simp only [Act.put, Z1, Z2, Z3, Z4, Z5, Z6]
   refine tkY 10 (v := ?v40) rfl (.inl ⟨by rfl, ?hy40⟩) ?hr40
   case hy40 => (intro w hSw; (try dsimp only at hSw); go_simp; try with_reducible rfl)
   simp only [Act.put, Z1, Z2, Z3, Z4, Z5, Z6]
   refine tkY 11 (v := ?v41) rfl (.inl ⟨by rfl, ?hy41⟩) ?hr41
   case hy41 => (intro w hSw; (try dsimp only at hSw); go_simp; try with_reducible rfl)
   simp only [Act.put, Z1, Z2, Z3, Z4, Z5, Z6]
   refine tkY 13 (v := ?v42) rfl (.inl ⟨by rfl, ?hy42⟩) ?hr42
   case hy42 => (intro w hSw; (try dsimp only at hSw); go_simp; try with_reducible rfl)
   simp only [Act.put, Z1, Z2, Z3, Z4, Z5, Z6]
   refine tkY 14 (v := ?v43) rfl (.inl ⟨by rfl, ?hy43⟩) ?hr43
   case hy43 => (intro w hSw; (try dsimp only at hSw); go_simp; try with_reducible rfl)
   simp only [Act.put, Z1, Z2, Z3, Z4, Z5, Z6]
   refine tkY 15 (v := ?v44) rfl (.inl ⟨by rfl, ?hy44⟩) ?hr44
   case hy44 => (intro w hSw; (try dsimp only at hSw); go_simp; try with_reducible rfl)
   simp only [Act.put, Z1, Z2, Z3, Z4, Z5, Z6]
   refine tkY 16 (v := ?v45) rfl (.inl ⟨by rfl, ?hy45⟩) ?hr45
   case hy45 => (intro w hSw; (try dsimp only at hSw); go_simp; try with_reducible rfl)
   simp only [Act.put, Z1, Z2, Z3, Z4, Z5, Z6]
   refine tkY 17 (v := ?v46) rfl (.inl ⟨by rfl, ?hy46⟩) ?hr46
   case hy46 => (intro w hSw; (try dsimp only at hSw); go_simp; try with_reducible rfl)
   simp only [Act.put, Z1, Z2, Z3, Z4, Z5, Z6]
   refine wpAnyH_ready (rs := [6]) (by kernel_rfl) (by simp) ?_
   refine AllReadyH.cons rfl (fun K hK => ?_) AllReadyH.nil
   go_simp
   go_at_call 65
   refine (str_fc vd f1 v1 (Cod.str_ok.up q1 (hbw.trans (hbc.mono hbw.size))) s1).mono ?_
   rintro e z1 ⟨A1, c1, rfl, hF1, hbq⟩
   dsimp only
   replace hF1 := rf_lo hF1 hz
   replace hbc := hbc.trans (hbq.mono hbc.size)
   have hz_ := hz
   replace hz := hbc.size
   refine hK.out _ _ ?_ (fun hHeld => ?_)
   ·(try dsimp only)
    exact ⟨CT hbc hbW e1, CT hbc hbW e2, CT hbc hbW e3⟩
   clear hK K
   try simp only [Act.put, Z1, Z2, Z3, Z4, Z5, Z6]
   refine wpAnyH_ready (rs := [12]) (by kernel_rfl) (by simp) ?_
   refine AllReadyH.cons rfl (fun K hK => ?_) AllReadyH.nil
   go_simp
   go_at_call 64
   refine (num_fc z1 f2 v2 (Cod.int_ok.up q2 (hbw.trans (hbc.mono hbw.size))) s2).mono ?_
   rintro e z2 ⟨A2, c2, rfl, hF2, hbq⟩
   dsimp only
   replace hF2 := rf_lo hF2 hz
   replace hF1 := rf_up hF1 hbq
   replace hbc := hbc.trans (hbq.mono hbc.size)
   have hz_ := hz
   replace hz := hbc.size
   refine hK.out _ _ ?_ (fun hHeld => ?_)
   ·(try dsimp only)
    exact ⟨CT hbc hbW e1, CT hbc hbW e2, CT hbc hbW e3⟩
   clear hK K
   try simp only [Act.put, Z1, Z2, Z3, Z4, Z5, Z6]
   refine wpAnyH_ready (rs := [18]) (by kernel_rfl) (by simp) ?_
   refine AllReadyH.cons rfl (fun K hK => ?_) AllReadyH.nil
   go_simp
   go_at_call 64
   refine (num_fc z2 f3 v3 (Cod.int_ok.up q3 (hbw.trans (hbc.mono hbw.size))) s3).mono ?_
   rintro e z3 ⟨A3, c3, rfl, hF3, hbq⟩
   dsimp only
   replace hF3 := rf_lo hF3 hz
   replace hF1 := rf_up hF1 hbq
   replace hF2 := rf_up hF2 hbq
   replace hbc := hbc.trans (hbq.mono hbc.size)
   have hz_ := hz
   replace hz := hbc.size
   refine hK.out _ _ ?_ (fun hHeld => ?_)
   ·(try dsimp only)
    exact ⟨CT hbc hbW e1, CT hbc hbW e2, CT hbc hbW e3⟩
   clear hK K
   try simp only [Act.put, Z1, Z2, Z3, Z4, Z5, Z6]
   refine wpAnyH_ready (rs := [19]) (by kernel_rfl) (by simp) ?_
   refine AllReadyH.cons rfl (fun K hK => ?_) AllReadyH.nil
   go_simp
   generalize hx_ : World.alloc z3 _ = z4
   have hbq : Below z3.heap.size z3 z4 := by rw [← hx_]; exact (Below.refl _ _).alloc (Nat.le_refl _) _
   have hC : CellsAt z4 z3.heap.size (fC f1 A1 c1 ++ (fC f2 A2 c2 ++ (fC f3 A3 c3 ++ ([])))) := by rw [← hx_]; exact CellsAt.new z3 _ _
   clear hx_
   replace hF1 := rf_up hF1 hbq
   replace hF2 := rf_up hF2 hbq
   replace hF3 := rf_up hF3 hbq
   replace hbc := hbc.trans (hbq.mono hbc.size)
   have hz_ := hz
   replace hz := hbc.size
   have hL := rl_cons hF1 (rl_cons hF2 (rl_cons hF3 (rl_nil)))
   have hFR := seq_of hC hz_ hL (n := 3) rfl
   clear hC hL hF1 hF2 hF3
   refine hK.out _ _ ?_ (fun hHeld => ?_)
   ·(try dsimp only)
    exact ⟨CT hbc hbW e1, CT hbc hbW e2, CT hbc hbW e3⟩
   clear hK K
   try simp only [Act.put, Z1, Z2, Z3, Z4, Z5, Z6]
   refine wpAnyH_ready (rs := [20]) (by kernel_rfl) (by simp) ?_
   refine AllReadyH.cons rfl (fun K hK => ?_) AllReadyH.nil
   go_simp
   go_at_call 39
   refine (seq_any _ _ _ _).mono ?_
   rintro e z5 ⟨rfl, hbq⟩
   dsimp only
   replace hFR := rf_up hFR hbq
   replace hbc := hbc.trans (hbq.mono hbc.size)
   have hz_ := hz
   replace hz := hbc.size
   refine hK.out _ _ ?_ (fun hHeld => ?_)
   ·(try dsimp only)
    exact ⟨CT hbc hbW e1, CT hbc hbW e2, CT hbc hbW e3⟩
   clear hK K
   try simp only [Act.put, Z1, Z2, Z3, Z4, Z5, Z6]
   refine wpAnyH_ready (rs := [21]) (by kernel_rfl) (by simp) ?_
   refine AllReadyH.cons rfl (fun K hK => ?_) AllReadyH.nil
   go_simp
   generalize hx_ : World.alloc z5 _ = z6
   have hbq : Below z5.heap.size z5 z6 := by rw [← hx_]; exact (Below.refl _ _).alloc (Nat.le_refl _) _
   have hC : CellsAt z6 z5.heap.size ([.int .i64 2, .int .i64 0, .string ⟨#[]⟩, .slice (some ⟨z3.heap.size, 0, none⟩) 3 3]) := by rw [← hx_]; exact CellsAt.new z5 _ _
   clear hx_
   replace hFR := rf_up hFR hbq
   replace hbc := hbc.trans (hbq.mono hbc.size)
   have hz_ := hz
   replace hz := hbc.size
   have hX := box_rs hL hC hz_ hFR hbr.size
   replace hX := Lib.hid hX
   clear hC hFR
   refine hK.out _ _ ?_ (fun hHeld => ?_)
   ·(try dsimp only)
    exact ⟨CT hbc hbW e1, CT hbc hbW e2, CT hbc hbW e3⟩
   clear hK K
   try simp only [Act.put, Z1, Z2, Z3, Z4, Z5, Z6]
   refine wpAnyH_ready (rs := [22]) (by kernel_rfl) (by simp) ?_
   refine AllReadyH.cons rfl (fun K hK => ?_) AllReadyH.nil
   refine step_appRS (rFB_ok _) (rFB_one _) (hL.below (rFB_ok _) hbc) hX.out fld_und fld_info (by rw [List.length_take]; omega) ?_
   intro v5 z9 hL5 hg5
   clear hX hg5
   refine hK.out _ _ ?_ (fun hHeld => ?_)
   ·(try dsimp only)
    exact ⟨(same_at hL.bel hL5.bel (p := ⟨b, _, none⟩) hb1).trans e1, (same_at hL.bel hL5.bel (p := ⟨b, _, none⟩) hb1).trans e2, (same_at hL.bel hL5.bel (p := ⟨b, _, none⟩) hb1).trans e3⟩
   clear hK K
   try simp only [Act.put, Z1, Z2, Z3, Z4, Z5, Z6]
   refine tkY 23 (v := ?v47) rfl (.inl ⟨by rfl, ?hy47⟩) ?hr47
   case hy47 => (intro w hSw; (try dsimp only at hSw); go_simp; try with_reducible rfl)
   simp only [Act.put, Z1, Z2, Z3, Z4, Z5, Z6]
   refine wpAnyH_done (by kernel_rfl) ?_ _
   clear hHeld
   obtain ⟨A5, c5, rfl⟩ := hL5.form
   generalize hnn : (m.take i ++ [fL [f1, f2, f3]]).length = n5 at *
   replace hnn := Lib.hid hnn
   have i3 : IntKind.i64.wrap ((i : Int) + 1) = (i : Int) + 1 := IntWalk.i64_in _ (by omega)
   repeat' (first | go_skip | go_guarded | go_step)
   go_roundw
   case rel =>
    have e5 : m.take (i + 1) = m.take i ++ [fL [f1, f2, f3]] := by rw [List.take_add_one, hx]; rfl
    refine ⟨i + 1, A5, n5, c5, by omega, by congr 1, rfl, by rw [e5]; exact hnn.out.symm, by rw [e5]; exact hL5⟩
   case measure => simp [intOf]; omega
  ·obtain rfl : i = m.length := by omega
   have hn2 := hn'.out
   rw [List.take_length] at hL hn2
   subst hn2
   clear hn'
   repeat' (first | go_skip | go_guarded | go_step)
   refine (seq_any A' m.length c' wr).mono ?_
   rintro e w2 ⟨rfl, hb2⟩
   dsimp only
   have hF := ownR_fl (hL.below (rFB_ok _) hb2) (Nat.le_refl _)
   have zw2 := hb2.size
   have hP3 : OwnB w w2 [(w.heap.size, [.int .i64 0, .int .i64 0, .string ⟨#[]⟩, .slice none 0 0])] := hP2.kept hb2
   clear c0_0 c0_1 c0_2 c0_3 cf0 hP2
   have c0_0 := hP3.c 0 0
   have c0_1 := hP3.c 0 1
   have c0_2 := hP3.c 0 2
   have c0_3 := hP3.c 0 3
   have cf0 := hP3.fr 0
   clear zw2
   repeat' ((fail_if_success at_builtin); first | go_skip | go_guarded | go_step)
   have hO9 := (((hP3.store 0 rfl 0 (.int .i64 2)).store 0 rfl 1 (.int .i64 0)).store 0 rfl 2 (.string ⟨#[]⟩)).store 0 rfl 3 (.slice A' m.length c')
   have h9 := far4g w2 w.heap.size (.int .i64 2) (.int .i64 0) (.string ⟨#[]⟩) (.slice A' m.length c')
   generalize World.setCell (World.setCell (World.setCell (World.setCell w2 _ _) _ _) _ _) _ _ = w9 at *
   have y0 := hO9.c 0 0
   have y1 := hO9.c 0 1
   have y2 := hO9.c 0 2
   have y3 := hO9.c 0 3
   replace hF := rf_far (w := w) hF hz0 (Nat.le_of_lt hz0) h9
   refine bodyPost_ret (v := .agg #[.int .i64 2, .int .i64 0, .string ⟨#[]⟩, .slice A' m.length c']) (by simp only [results, Tryz.results114]; go_simp; first | done | exact ⟨rfl, rfl, rfl⟩ | rfl) rfl ?_
   have e9 := ofL_length m
   exact ⟨A', c', by show _ = Ending.returned (.agg #[.int .i64 2, .int .i64 0, .string ⟨#[]⟩, .slice A' (ofL m).length c']); rw [e9], by show rF _ _ _ [.int .i64 2, .int .i64 0, .string ⟨#[]⟩, .slice A' (ofL m).length c']; rw [e9]; exact hF, hO9.below⟩
end Go.Proofs.YtgdapkglofchjaaGreatDoor
