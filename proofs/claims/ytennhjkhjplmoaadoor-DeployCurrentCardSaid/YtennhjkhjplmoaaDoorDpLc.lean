/- Deploy: the law about Current and Rollback. -/
import Derived.Test.YtennhjkhjplmoaaDoorDpLb
import Derived.Test.YtennhjkhjplmoaaDoorDpRC
namespace Go.Proofs.YtennhjkhjplmoaaDoor
open Go.RowKit
set_option maxRecDepth 100000 in
set_option maxHeartbeats 6000000 in
theorem current_law (l : List Env) (A : Option Addr) (n c : Nat) (s : ByteArray) (w : World) (h : RSlice rEnv 5 w (fun b => b < w.heap.size) A n c l) (_hOk : ∀ x ∈ l, EnvOk x) :
    Calls Tryd.prog 8 #[.slice A n c, .string s] w fun e w' => e = .returned (.bool true) ∧ Below w.heap.size w w' := by
  go_enter Tryd.func8, Tryd.ntmps8
  have hb0 := Below.refl w.heap.size w
  have C := small_any l A n c w ((h.below rEnv_ok hb0).more rEnv_ok (fun _ hp => Nat.lt_of_lt_of_le hp hb0.size))
  replace C := Lib.hid C
  repeat' ((fail_if_success at_builtin); (first | go_skip | go_guarded | go_step))
  refine C.out.mono ?_
  clear C
  rintro e w1_ ⟨rfl, hw1⟩
  dsimp only
  subst w1_
  cases hs : smallL l with
  | false =>
    repeat' ((fail_if_success at_builtin); (first | go_skip | go_guarded | go_step))
    refine (lives_any _).mono ?_
    rintro e wl ⟨rfl, hbl⟩
    dsimp only
    have hbf := hb0.trans (hbl.mono hb0.size)
    repeat' ((fail_if_success at_builtin); (first | go_skip | go_guarded | go_step))
    go_ret
    exact ⟨rfl, hbf⟩
  | true =>
    by_cases h200 : 200 < s.size
    · have h200i : (200 : Int) < (s.size : Int) := by omega
      repeat' ((fail_if_success at_builtin); (first | go_skip | go_guarded | go_step))
      refine (lives_any _).mono ?_
      rintro e wl ⟨rfl, hbl⟩
      dsimp only
      have hbf := hb0.trans (hbl.mono hb0.size)
      repeat' ((fail_if_success at_builtin); (first | go_skip | go_guarded | go_step))
      go_ret
      exact ⟨rfl, hbf⟩
    · have h200i : ¬ (200 : Int) < (s.size : Int) := by omega
      have hE := small_envs hs h
      have hbv := back_ver l s
      obtain ⟨cu, hcu⟩ : ∃ cu, cu = curL l s := ⟨_, rfl⟩
      obtain ⟨bk, hbk⟩ : ∃ bk, bk = backL l s := ⟨_, rfl⟩
      rw [← hcu, ← hbk] at hbv
      replace hcu := Lib.hid hcu
      replace hbk := Lib.hid hbk
      have C := current_any l s A n c w hE
      rw [← hcu.out] at C
      replace C := Lib.hid C
      repeat' ((fail_if_success at_builtin); (first | go_skip | go_guarded | go_step))
      refine C.out.mono ?_
      clear C
      rintro e q0 ⟨rfl, hb2⟩
      dsimp only
      have hO1 : OwnB w q0 [] := OwnB.of hb2
      replace hE := hE.below hb2
      go_upto_region 4 with (fail)
      have hbA0 := (Below.refl q0.heap.size q0).alloc (Nat.le_refl _) (.cells #[.string cu.1.ref.run, .string cu.1.ref.job, .int .u64 cu.1.ver, .int .i64 cu.1.at_, .int .i64 cu.1.st] depT)
      replace hE := hE.below hbA0
      clear hbA0
      generalize hx_ : World.alloc q0 _ = wo2
      rw [hx_] at hE
      have hO2 : OwnB w wo2 [(q0.heap.size, [.string cu.1.ref.run, .string cu.1.ref.job, .int .u64 cu.1.ver, .int .i64 cu.1.at_, .int .i64 cu.1.st])] := by rw [← hx_]; exact hO1.new #[.string cu.1.ref.run, .string cu.1.ref.job, .int .u64 cu.1.ver, .int .i64 cu.1.at_, .int .i64 cu.1.st] _ (g := q0.heap.size)
      have hbn : Below q0.heap.size q0 wo2 := by rw [← hx_]; exact (Below.refl _ _).alloc (Nat.le_refl _) _
      have zwo2 : q0.heap.size + 0 < wo2.heap.size := by rw [← hx_]; simp <;> omega
      clear hx_  hO1
      have c0_0 : wo2.cell? ⟨q0.heap.size, 0, none⟩ = some (.string cu.1.ref.run) := hO2.c 0 0
      have c0_1 : wo2.cell? ⟨q0.heap.size, 1, none⟩ = some (.string cu.1.ref.job) := hO2.c 0 1
      have c0_2 : wo2.cell? ⟨q0.heap.size, 2, none⟩ = some (.int .u64 cu.1.ver) := hO2.c 0 2
      have c0_3 : wo2.cell? ⟨q0.heap.size, 3, none⟩ = some (.int .i64 cu.1.at_) := hO2.c 0 3
      have c0_4 : wo2.cell? ⟨q0.heap.size, 4, none⟩ = some (.int .i64 cu.1.st) := hO2.c 0 4
      have cf0 := hO2.fr 0
      clear hbn
      have C := rcurrent_any l s A n c wo2 hE
      rw [← hcu.out] at C
      replace C := Lib.hid C
      repeat' ((fail_if_success at_builtin); (first | go_skip | go_guarded | go_step))
      refine C.out.mono ?_
      clear C
      rintro e q1 ⟨rfl, hb3⟩
      dsimp only
      have zq1 := hb3.size
      have hO3 : OwnB w q1 [(q0.heap.size, [.string cu.1.ref.run, .string cu.1.ref.job, .int .u64 cu.1.ver, .int .i64 cu.1.at_, .int .i64 cu.1.st])] := hO2.kept hb3
      clear c0_0 c0_1 c0_2 c0_3 c0_4 cf0 hO2
      have c0_0 : q1.cell? ⟨q0.heap.size, 0, none⟩ = some (.string cu.1.ref.run) := hO3.c 0 0
      have c0_1 : q1.cell? ⟨q0.heap.size, 1, none⟩ = some (.string cu.1.ref.job) := hO3.c 0 1
      have c0_2 : q1.cell? ⟨q0.heap.size, 2, none⟩ = some (.int .u64 cu.1.ver) := hO3.c 0 2
      have c0_3 : q1.cell? ⟨q0.heap.size, 3, none⟩ = some (.int .i64 cu.1.at_) := hO3.c 0 3
      have c0_4 : q1.cell? ⟨q0.heap.size, 4, none⟩ = some (.int .i64 cu.1.st) := hO3.c 0 4
      have cf0 := hO3.fr 0
      replace hE := hE.below hb3
      go_upto_region 5 with (fail)
      have hbA1 := (Below.refl q1.heap.size q1).alloc (Nat.le_refl _) (.cells #[.string cu.1.ref.run, .string cu.1.ref.job, .int .u64 cu.1.ver, .int .i64 cu.1.at_, .int .i64 cu.1.st] depT)
      replace hE := hE.below hbA1
      clear hbA1
      generalize hx_ : World.alloc q1 _ = wo4
      rw [hx_] at hE
      have hO4 : OwnB w wo4 [(q1.heap.size, [.string cu.1.ref.run, .string cu.1.ref.job, .int .u64 cu.1.ver, .int .i64 cu.1.at_, .int .i64 cu.1.st]), (q0.heap.size, [.string cu.1.ref.run, .string cu.1.ref.job, .int .u64 cu.1.ver, .int .i64 cu.1.at_, .int .i64 cu.1.st])] := by rw [← hx_]; exact hO3.new #[.string cu.1.ref.run, .string cu.1.ref.job, .int .u64 cu.1.ver, .int .i64 cu.1.at_, .int .i64 cu.1.st] _ (g := q1.heap.size)
      have hbn : Below q1.heap.size q1 wo4 := by rw [← hx_]; exact (Below.refl _ _).alloc (Nat.le_refl _) _
      have zwo4 : q1.heap.size + 0 < wo4.heap.size := by rw [← hx_]; simp <;> omega
      clear hx_ c0_0 c0_1 c0_2 c0_3 c0_4 cf0 hO3
      have c0_0 : wo4.cell? ⟨q1.heap.size, 0, none⟩ = some (.string cu.1.ref.run) := hO4.c 0 0
      have c0_1 : wo4.cell? ⟨q1.heap.size, 1, none⟩ = some (.string cu.1.ref.job) := hO4.c 0 1
      have c0_2 : wo4.cell? ⟨q1.heap.size, 2, none⟩ = some (.int .u64 cu.1.ver) := hO4.c 0 2
      have c0_3 : wo4.cell? ⟨q1.heap.size, 3, none⟩ = some (.int .i64 cu.1.at_) := hO4.c 0 3
      have c0_4 : wo4.cell? ⟨q1.heap.size, 4, none⟩ = some (.int .i64 cu.1.st) := hO4.c 0 4
      have cf0 := hO4.fr 0
      have c1_0 : wo4.cell? ⟨q0.heap.size, 0, none⟩ = some (.string cu.1.ref.run) := hO4.c 1 0
      have c1_1 : wo4.cell? ⟨q0.heap.size, 1, none⟩ = some (.string cu.1.ref.job) := hO4.c 1 1
      have c1_2 : wo4.cell? ⟨q0.heap.size, 2, none⟩ = some (.int .u64 cu.1.ver) := hO4.c 1 2
      have c1_3 : wo4.cell? ⟨q0.heap.size, 3, none⟩ = some (.int .i64 cu.1.at_) := hO4.c 1 3
      have c1_4 : wo4.cell? ⟨q0.heap.size, 4, none⟩ = some (.int .i64 cu.1.st) := hO4.c 1 4
      have cf1 := hO4.fr 1
      clear hbn
      have C := rollback_any l s A n c wo4 hE
      rw [← hbk.out] at C
      replace C := Lib.hid C
      repeat' ((fail_if_success at_builtin); (first | go_skip | go_guarded | go_step))
      refine C.out.mono ?_
      clear C
      rintro e q2 ⟨rfl, hb4⟩
      dsimp only
      have zq2 := hb4.size
      have hO5 : OwnB w q2 [(q1.heap.size, [.string cu.1.ref.run, .string cu.1.ref.job, .int .u64 cu.1.ver, .int .i64 cu.1.at_, .int .i64 cu.1.st]), (q0.heap.size, [.string cu.1.ref.run, .string cu.1.ref.job, .int .u64 cu.1.ver, .int .i64 cu.1.at_, .int .i64 cu.1.st])] := hO4.kept hb4
      clear c0_0 c0_1 c0_2 c0_3 c0_4 cf0 c1_0 c1_1 c1_2 c1_3 c1_4 cf1 hO4
      have c0_0 : q2.cell? ⟨q1.heap.size, 0, none⟩ = some (.string cu.1.ref.run) := hO5.c 0 0
      have c0_1 : q2.cell? ⟨q1.heap.size, 1, none⟩ = some (.string cu.1.ref.job) := hO5.c 0 1
      have c0_2 : q2.cell? ⟨q1.heap.size, 2, none⟩ = some (.int .u64 cu.1.ver) := hO5.c 0 2
      have c0_3 : q2.cell? ⟨q1.heap.size, 3, none⟩ = some (.int .i64 cu.1.at_) := hO5.c 0 3
      have c0_4 : q2.cell? ⟨q1.heap.size, 4, none⟩ = some (.int .i64 cu.1.st) := hO5.c 0 4
      have cf0 := hO5.fr 0
      have c1_0 : q2.cell? ⟨q0.heap.size, 0, none⟩ = some (.string cu.1.ref.run) := hO5.c 1 0
      have c1_1 : q2.cell? ⟨q0.heap.size, 1, none⟩ = some (.string cu.1.ref.job) := hO5.c 1 1
      have c1_2 : q2.cell? ⟨q0.heap.size, 2, none⟩ = some (.int .u64 cu.1.ver) := hO5.c 1 2
      have c1_3 : q2.cell? ⟨q0.heap.size, 3, none⟩ = some (.int .i64 cu.1.at_) := hO5.c 1 3
      have c1_4 : q2.cell? ⟨q0.heap.size, 4, none⟩ = some (.int .i64 cu.1.st) := hO5.c 1 4
      have cf1 := hO5.fr 1
      replace hE := hE.below hb4
      go_upto_region 6 with (fail)
      have hbA2 := (Below.refl q2.heap.size q2).alloc (Nat.le_refl _) (.cells #[.string bk.1.ref.run, .string bk.1.ref.job, .int .u64 bk.1.ver, .int .i64 bk.1.at_, .int .i64 bk.1.st] depT)
      replace hE := hE.below hbA2
      clear hbA2
      generalize hx_ : World.alloc q2 _ = wo6
      rw [hx_] at hE
      have hO6 : OwnB w wo6 [(q2.heap.size, [.string bk.1.ref.run, .string bk.1.ref.job, .int .u64 bk.1.ver, .int .i64 bk.1.at_, .int .i64 bk.1.st]), (q1.heap.size, [.string cu.1.ref.run, .string cu.1.ref.job, .int .u64 cu.1.ver, .int .i64 cu.1.at_, .int .i64 cu.1.st]), (q0.heap.size, [.string cu.1.ref.run, .string cu.1.ref.job, .int .u64 cu.1.ver, .int .i64 cu.1.at_, .int .i64 cu.1.st])] := by rw [← hx_]; exact hO5.new #[.string bk.1.ref.run, .string bk.1.ref.job, .int .u64 bk.1.ver, .int .i64 bk.1.at_, .int .i64 bk.1.st] _ (g := q2.heap.size)
      have hbn : Below q2.heap.size q2 wo6 := by rw [← hx_]; exact (Below.refl _ _).alloc (Nat.le_refl _) _
      have zwo6 : q2.heap.size + 0 < wo6.heap.size := by rw [← hx_]; simp <;> omega
      clear hx_ c0_0 c0_1 c0_2 c0_3 c0_4 cf0 c1_0 c1_1 c1_2 c1_3 c1_4 cf1 hO5
      have c0_0 : wo6.cell? ⟨q2.heap.size, 0, none⟩ = some (.string bk.1.ref.run) := hO6.c 0 0
      have c0_1 : wo6.cell? ⟨q2.heap.size, 1, none⟩ = some (.string bk.1.ref.job) := hO6.c 0 1
      have c0_2 : wo6.cell? ⟨q2.heap.size, 2, none⟩ = some (.int .u64 bk.1.ver) := hO6.c 0 2
      have c0_3 : wo6.cell? ⟨q2.heap.size, 3, none⟩ = some (.int .i64 bk.1.at_) := hO6.c 0 3
      have c0_4 : wo6.cell? ⟨q2.heap.size, 4, none⟩ = some (.int .i64 bk.1.st) := hO6.c 0 4
      have cf0 := hO6.fr 0
      have c1_0 : wo6.cell? ⟨q1.heap.size, 0, none⟩ = some (.string cu.1.ref.run) := hO6.c 1 0
      have c1_1 : wo6.cell? ⟨q1.heap.size, 1, none⟩ = some (.string cu.1.ref.job) := hO6.c 1 1
      have c1_2 : wo6.cell? ⟨q1.heap.size, 2, none⟩ = some (.int .u64 cu.1.ver) := hO6.c 1 2
      have c1_3 : wo6.cell? ⟨q1.heap.size, 3, none⟩ = some (.int .i64 cu.1.at_) := hO6.c 1 3
      have c1_4 : wo6.cell? ⟨q1.heap.size, 4, none⟩ = some (.int .i64 cu.1.st) := hO6.c 1 4
      have cf1 := hO6.fr 1
      have c2_0 : wo6.cell? ⟨q0.heap.size, 0, none⟩ = some (.string cu.1.ref.run) := hO6.c 2 0
      have c2_1 : wo6.cell? ⟨q0.heap.size, 1, none⟩ = some (.string cu.1.ref.job) := hO6.c 2 1
      have c2_2 : wo6.cell? ⟨q0.heap.size, 2, none⟩ = some (.int .u64 cu.1.ver) := hO6.c 2 2
      have c2_3 : wo6.cell? ⟨q0.heap.size, 3, none⟩ = some (.int .i64 cu.1.at_) := hO6.c 2 3
      have c2_4 : wo6.cell? ⟨q0.heap.size, 4, none⟩ = some (.int .i64 cu.1.st) := hO6.c 2 4
      have cf2 := hO6.fr 2
      clear hbn
      have C := rrollback_any l s A n c wo6 hE
      rw [← hbk.out] at C
      replace C := Lib.hid C
      repeat' ((fail_if_success at_builtin); (first | go_skip | go_guarded | go_step))
      refine C.out.mono ?_
      clear C
      rintro e q3 ⟨rfl, hb5⟩
      dsimp only
      have zq3 := hb5.size
      have hO7 : OwnB w q3 [(q2.heap.size, [.string bk.1.ref.run, .string bk.1.ref.job, .int .u64 bk.1.ver, .int .i64 bk.1.at_, .int .i64 bk.1.st]), (q1.heap.size, [.string cu.1.ref.run, .string cu.1.ref.job, .int .u64 cu.1.ver, .int .i64 cu.1.at_, .int .i64 cu.1.st]), (q0.heap.size, [.string cu.1.ref.run, .string cu.1.ref.job, .int .u64 cu.1.ver, .int .i64 cu.1.at_, .int .i64 cu.1.st])] := hO6.kept hb5
      clear c0_0 c0_1 c0_2 c0_3 c0_4 cf0 c1_0 c1_1 c1_2 c1_3 c1_4 cf1 c2_0 c2_1 c2_2 c2_3 c2_4 cf2 hO6
      have c0_0 : q3.cell? ⟨q2.heap.size, 0, none⟩ = some (.string bk.1.ref.run) := hO7.c 0 0
      have c0_1 : q3.cell? ⟨q2.heap.size, 1, none⟩ = some (.string bk.1.ref.job) := hO7.c 0 1
      have c0_2 : q3.cell? ⟨q2.heap.size, 2, none⟩ = some (.int .u64 bk.1.ver) := hO7.c 0 2
      have c0_3 : q3.cell? ⟨q2.heap.size, 3, none⟩ = some (.int .i64 bk.1.at_) := hO7.c 0 3
      have c0_4 : q3.cell? ⟨q2.heap.size, 4, none⟩ = some (.int .i64 bk.1.st) := hO7.c 0 4
      have cf0 := hO7.fr 0
      have c1_0 : q3.cell? ⟨q1.heap.size, 0, none⟩ = some (.string cu.1.ref.run) := hO7.c 1 0
      have c1_1 : q3.cell? ⟨q1.heap.size, 1, none⟩ = some (.string cu.1.ref.job) := hO7.c 1 1
      have c1_2 : q3.cell? ⟨q1.heap.size, 2, none⟩ = some (.int .u64 cu.1.ver) := hO7.c 1 2
      have c1_3 : q3.cell? ⟨q1.heap.size, 3, none⟩ = some (.int .i64 cu.1.at_) := hO7.c 1 3
      have c1_4 : q3.cell? ⟨q1.heap.size, 4, none⟩ = some (.int .i64 cu.1.st) := hO7.c 1 4
      have cf1 := hO7.fr 1
      have c2_0 : q3.cell? ⟨q0.heap.size, 0, none⟩ = some (.string cu.1.ref.run) := hO7.c 2 0
      have c2_1 : q3.cell? ⟨q0.heap.size, 1, none⟩ = some (.string cu.1.ref.job) := hO7.c 2 1
      have c2_2 : q3.cell? ⟨q0.heap.size, 2, none⟩ = some (.int .u64 cu.1.ver) := hO7.c 2 2
      have c2_3 : q3.cell? ⟨q0.heap.size, 3, none⟩ = some (.int .i64 cu.1.at_) := hO7.c 2 3
      have c2_4 : q3.cell? ⟨q0.heap.size, 4, none⟩ = some (.int .i64 cu.1.st) := hO7.c 2 4
      have cf2 := hO7.fr 2
      replace hE := hE.below hb5
      go_upto_region 7 with (fail)
      have hbA3 := (Below.refl q3.heap.size q3).alloc (Nat.le_refl _) (.cells #[.string bk.1.ref.run, .string bk.1.ref.job, .int .u64 bk.1.ver, .int .i64 bk.1.at_, .int .i64 bk.1.st] depT)
      replace hE := hE.below hbA3
      clear hbA3
      generalize hx_ : World.alloc q3 _ = wo8
      rw [hx_] at hE
      have hO8 : OwnB w wo8 [(q3.heap.size, [.string bk.1.ref.run, .string bk.1.ref.job, .int .u64 bk.1.ver, .int .i64 bk.1.at_, .int .i64 bk.1.st]), (q2.heap.size, [.string bk.1.ref.run, .string bk.1.ref.job, .int .u64 bk.1.ver, .int .i64 bk.1.at_, .int .i64 bk.1.st]), (q1.heap.size, [.string cu.1.ref.run, .string cu.1.ref.job, .int .u64 cu.1.ver, .int .i64 cu.1.at_, .int .i64 cu.1.st]), (q0.heap.size, [.string cu.1.ref.run, .string cu.1.ref.job, .int .u64 cu.1.ver, .int .i64 cu.1.at_, .int .i64 cu.1.st])] := by rw [← hx_]; exact hO7.new #[.string bk.1.ref.run, .string bk.1.ref.job, .int .u64 bk.1.ver, .int .i64 bk.1.at_, .int .i64 bk.1.st] _ (g := q3.heap.size)
      have hbn : Below q3.heap.size q3 wo8 := by rw [← hx_]; exact (Below.refl _ _).alloc (Nat.le_refl _) _
      have zwo8 : q3.heap.size + 0 < wo8.heap.size := by rw [← hx_]; simp <;> omega
      clear hx_ c0_0 c0_1 c0_2 c0_3 c0_4 cf0 c1_0 c1_1 c1_2 c1_3 c1_4 cf1 c2_0 c2_1 c2_2 c2_3 c2_4 cf2 hO7
      have c0_0 : wo8.cell? ⟨q3.heap.size, 0, none⟩ = some (.string bk.1.ref.run) := hO8.c 0 0
      have c0_1 : wo8.cell? ⟨q3.heap.size, 1, none⟩ = some (.string bk.1.ref.job) := hO8.c 0 1
      have c0_2 : wo8.cell? ⟨q3.heap.size, 2, none⟩ = some (.int .u64 bk.1.ver) := hO8.c 0 2
      have c0_3 : wo8.cell? ⟨q3.heap.size, 3, none⟩ = some (.int .i64 bk.1.at_) := hO8.c 0 3
      have c0_4 : wo8.cell? ⟨q3.heap.size, 4, none⟩ = some (.int .i64 bk.1.st) := hO8.c 0 4
      have cf0 := hO8.fr 0
      have c1_0 : wo8.cell? ⟨q2.heap.size, 0, none⟩ = some (.string bk.1.ref.run) := hO8.c 1 0
      have c1_1 : wo8.cell? ⟨q2.heap.size, 1, none⟩ = some (.string bk.1.ref.job) := hO8.c 1 1
      have c1_2 : wo8.cell? ⟨q2.heap.size, 2, none⟩ = some (.int .u64 bk.1.ver) := hO8.c 1 2
      have c1_3 : wo8.cell? ⟨q2.heap.size, 3, none⟩ = some (.int .i64 bk.1.at_) := hO8.c 1 3
      have c1_4 : wo8.cell? ⟨q2.heap.size, 4, none⟩ = some (.int .i64 bk.1.st) := hO8.c 1 4
      have cf1 := hO8.fr 1
      have c2_0 : wo8.cell? ⟨q1.heap.size, 0, none⟩ = some (.string cu.1.ref.run) := hO8.c 2 0
      have c2_1 : wo8.cell? ⟨q1.heap.size, 1, none⟩ = some (.string cu.1.ref.job) := hO8.c 2 1
      have c2_2 : wo8.cell? ⟨q1.heap.size, 2, none⟩ = some (.int .u64 cu.1.ver) := hO8.c 2 2
      have c2_3 : wo8.cell? ⟨q1.heap.size, 3, none⟩ = some (.int .i64 cu.1.at_) := hO8.c 2 3
      have c2_4 : wo8.cell? ⟨q1.heap.size, 4, none⟩ = some (.int .i64 cu.1.st) := hO8.c 2 4
      have cf2 := hO8.fr 2
      have c3_0 : wo8.cell? ⟨q0.heap.size, 0, none⟩ = some (.string cu.1.ref.run) := hO8.c 3 0
      have c3_1 : wo8.cell? ⟨q0.heap.size, 1, none⟩ = some (.string cu.1.ref.job) := hO8.c 3 1
      have c3_2 : wo8.cell? ⟨q0.heap.size, 2, none⟩ = some (.int .u64 cu.1.ver) := hO8.c 3 2
      have c3_3 : wo8.cell? ⟨q0.heap.size, 3, none⟩ = some (.int .i64 cu.1.at_) := hO8.c 3 3
      have c3_4 : wo8.cell? ⟨q0.heap.size, 4, none⟩ = some (.int .i64 cu.1.st) := hO8.c 3 4
      have cf3 := hO8.fr 3
      clear hbn
      have qE1 := qE_D cu.1 cu.1
      have qE2 := qE_D bk.1 bk.1
      simp only [eqD_self] at qE1 qE2
      clear hE
      have hbw := hO8.below
      cases hu : bk.2 with
      | true =>
        have f1 : (cu.1.ver != bk.1.ver) = true := by
          have := hbv hu
          unfold bne
          rw [this]; rfl
        clear hbv hu
        repeat' ((fail_if_success at_builtin); (first | ((with_reducible show wpList _ _ _ _ _ _); first | refine wpList_eqSG rfl rfl rfl rfl (by first | exact qE1 _ | exact qE2 _) (by kernel_rfl) ?_ | refine wpList_eqS rfl rfl rfl rfl (by first | exact qE1 _ | exact qE2 _ | exact qE3 _ | exact qE4 _) (by kernel_rfl) ?_ | refine wpList_neS rfl rfl rfl rfl (by first | exact qE1 _ | exact qE2 _ | exact qE3 _ | exact qE4 _) (by kernel_rfl) ?_) | go_skip | go_guarded | go_step))
        refine (lives_any _).mono ?_
        rintro e wl ⟨rfl, hbl⟩
        dsimp only
        have hbf := hbw.trans (hbl.mono hbw.size)
        repeat' ((fail_if_success at_builtin); (first | go_skip | go_guarded | go_step))
        go_ret
        exact ⟨rfl, hbf⟩
      | false =>
        clear hbv hu
        repeat' ((fail_if_success at_builtin); (first | ((with_reducible show wpList _ _ _ _ _ _); first | refine wpList_eqSG rfl rfl rfl rfl (by first | exact qE1 _ | exact qE2 _) (by kernel_rfl) ?_ | refine wpList_eqS rfl rfl rfl rfl (by first | exact qE1 _ | exact qE2 _ | exact qE3 _ | exact qE4 _) (by kernel_rfl) ?_ | refine wpList_neS rfl rfl rfl rfl (by first | exact qE1 _ | exact qE2 _ | exact qE3 _ | exact qE4 _) (by kernel_rfl) ?_) | go_skip | go_guarded | go_step))
        refine (lives_any _).mono ?_
        rintro e wl ⟨rfl, hbl⟩
        dsimp only
        have hbf := hbw.trans (hbl.mono hbw.size)
        repeat' ((fail_if_success at_builtin); (first | go_skip | go_guarded | go_step))
        go_ret
        exact ⟨rfl, hbf⟩
end Go.Proofs.YtennhjkhjplmoaaDoor
