/- Deploy: the law about Finish. -/
import Derived.Test.YtennhjkhjplmoaaDoorDpLb
import Derived.Test.YtennhjkhjplmoaaDoorDpRf
namespace Go.Proofs.YtennhjkhjplmoaaDoor
open Go.RowKit
set_option maxRecDepth 100000 in
set_option maxHeartbeats 6000000 in
theorem finish_law (l : List Env) (A : Option Addr) (n c : Nat) (d : Dep) (w : World) (h : RSlice rEnv 5 w (fun b => b < w.heap.size) A n c l) (_hOk : ∀ x ∈ l, EnvOk x) :
    Calls Tryd.prog 6 #[.slice A n c, .agg #[.string d.ref.run, .string d.ref.job, .int .u64 d.ver, .int .i64 d.at_, .int .i64 d.st]] w fun e w' => e = .returned (.bool true) ∧ Below w.heap.size w w' := by
  go_enter Tryd.func6, Tryd.ntmps6
  go_upto_region 1 with (fail)
  generalize hx_ : World.alloc w _ = wo1
  have hO1 : OwnB w wo1 [(w.heap.size, [.string d.ref.run, .string d.ref.job, .int .u64 d.ver, .int .i64 d.at_, .int .i64 d.st])] := by rw [← hx_]; exact (OwnB.refl w).new #[.string d.ref.run, .string d.ref.job, .int .u64 d.ver, .int .i64 d.at_, .int .i64 d.st] _ (g := w.heap.size)
  have hbn : Below w.heap.size w wo1 := by rw [← hx_]; exact (Below.refl _ _).alloc (Nat.le_refl _) _
  have zwo1 : w.heap.size + 0 < wo1.heap.size := by rw [← hx_]; simp <;> omega
  clear hx_
  have c0_0 : wo1.cell? ⟨w.heap.size, 0, none⟩ = some (.string d.ref.run) := hO1.c 0 0
  have c0_1 : wo1.cell? ⟨w.heap.size, 1, none⟩ = some (.string d.ref.job) := hO1.c 0 1
  have c0_2 : wo1.cell? ⟨w.heap.size, 2, none⟩ = some (.int .u64 d.ver) := hO1.c 0 2
  have c0_3 : wo1.cell? ⟨w.heap.size, 3, none⟩ = some (.int .i64 d.at_) := hO1.c 0 3
  have c0_4 : wo1.cell? ⟨w.heap.size, 4, none⟩ = some (.int .i64 d.st) := hO1.c 0 4
  have cf0 := hO1.fr 0
  clear hbn
  have hb0 := hO1.below
  have C := small_any l A n c wo1 ((h.below rEnv_ok hb0).more rEnv_ok (fun _ hp => Nat.lt_of_lt_of_le hp hb0.size))
  replace C := Lib.hid C
  repeat' ((fail_if_success at_builtin); (first | go_skip | go_guarded | go_step))
  refine C.out.mono ?_
  clear C
  rintro e w1_ ⟨rfl, hw1⟩
  dsimp only
  subst w1_
  cases hs : smallL l with
  | false =>
    repeat' ((fail_if_success at_builtin); (first | go_skip | go_guarded | go_step))
    refine (lives_any _).mono ?_
    rintro e wl ⟨rfl, hbl⟩
    dsimp only
    have hbf := hb0.trans (hbl.mono hb0.size)
    repeat' ((fail_if_success at_builtin); (first | go_skip | go_guarded | go_step))
    go_ret
    exact ⟨rfl, hbf⟩
  | true =>
    have hE := (small_envs hs h).below hb0
    obtain ⟨k1, k2, k3, k4⟩ := small_b hs
    have C := finish_any l d.ref d.ver d.st d.at_ A n c wo1 hE k4
    replace C := Lib.hid C
    repeat' ((fail_if_success at_builtin); (first | go_skip | go_guarded | go_step))
    refine C.out.mono ?_
    clear C
    rintro e w2 ⟨B1, m1, d1, rfl, hb2, hR1⟩
    dsimp only
    have zw2 := hb2.size
    have hO2 : OwnB w w2 [(w.heap.size, [.string d.ref.run, .string d.ref.job, .int .u64 d.ver, .int .i64 d.at_, .int .i64 d.st])] := hO1.kept hb2
    clear c0_0 c0_1 c0_2 c0_3 c0_4 cf0 hO1
    have c0_0 : w2.cell? ⟨w.heap.size, 0, none⟩ = some (.string d.ref.run) := hO2.c 0 0
    have c0_1 : w2.cell? ⟨w.heap.size, 1, none⟩ = some (.string d.ref.job) := hO2.c 0 1
    have c0_2 : w2.cell? ⟨w.heap.size, 2, none⟩ = some (.int .u64 d.ver) := hO2.c 0 2
    have c0_3 : w2.cell? ⟨w.heap.size, 3, none⟩ = some (.int .i64 d.at_) := hO2.c 0 3
    have c0_4 : w2.cell? ⟨w.heap.size, 4, none⟩ = some (.int .i64 d.st) := hO2.c 0 4
    have cf0 := hO2.fr 0
    have hE1 := (ew_fin (d := ⟨d.ref, d.ver, d.at_, d.st⟩) hs).envs hR1
    replace hE := hE.below hb2
    clear hR1
    have C := rfinish_any l d.ref d A n c w2 hE k4
    replace C := Lib.hid C
    repeat' ((fail_if_success at_builtin); (first | go_skip | go_guarded | go_step))
    refine C.out.mono ?_
    clear C
    rintro e w3 ⟨B2, m2, d2, rfl, hb3, hR2⟩
    dsimp only
    have zw3 := hb3.size
    have hO3 : OwnB w w3 [(w.heap.size, [.string d.ref.run, .string d.ref.job, .int .u64 d.ver, .int .i64 d.at_, .int .i64 d.st])] := hO2.kept hb3
    clear c0_0 c0_1 c0_2 c0_3 c0_4 cf0 hO2
    have c0_0 : w3.cell? ⟨w.heap.size, 0, none⟩ = some (.string d.ref.run) := hO3.c 0 0
    have c0_1 : w3.cell? ⟨w.heap.size, 1, none⟩ = some (.string d.ref.job) := hO3.c 0 1
    have c0_2 : w3.cell? ⟨w.heap.size, 2, none⟩ = some (.int .u64 d.ver) := hO3.c 0 2
    have c0_3 : w3.cell? ⟨w.heap.size, 3, none⟩ = some (.int .i64 d.at_) := hO3.c 0 3
    have c0_4 : w3.cell? ⟨w.heap.size, 4, none⟩ = some (.int .i64 d.st) := hO3.c 0 4
    have cf0 := hO3.fr 0
    have hE2 := (ew_fin (d := ⟨d.ref, d.ver, d.at_, d.st⟩) hs).envs hR2
    replace hE := hE.below hb3
    replace hE1 := hE1.below hb3
    clear hR2
    have hbw := hO3.below
    have C := same_same _ B1 m1 d1 B2 m2 d2 w3 hE1 hE2
    replace C := Lib.hid C
    repeat' ((fail_if_success at_builtin); (first | go_skip | go_guarded | go_step))
    refine C.out.mono ?_
    clear C
    rintro e w4 ⟨rfl, hb4⟩
    dsimp only
    have hbz := hbw.trans (hb4.mono hbw.size)
    repeat' ((fail_if_success at_builtin); (first | go_skip | go_guarded | go_step))
    refine (lives_any _).mono ?_
    rintro e wl ⟨rfl, hbl⟩
    dsimp only
    have hbf := hbz.trans (hbl.mono hbz.size)
    repeat' ((fail_if_success at_builtin); (first | go_skip | go_guarded | go_step))
    go_ret
    exact ⟨rfl, hbf⟩
end Go.Proofs.YtennhjkhjplmoaaDoor
