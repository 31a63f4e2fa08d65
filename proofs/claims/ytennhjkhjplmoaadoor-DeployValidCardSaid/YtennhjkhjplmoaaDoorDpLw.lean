/- Deploy: the law about Valid. -/
import Derived.Test.YtennhjkhjplmoaaDoorDpLb
import Derived.Test.YtennhjkhjplmoaaDoorDpRe
namespace Go.Proofs.YtennhjkhjplmoaaDoor
open Go.RowKit
set_option maxRecDepth 100000 in
set_option maxHeartbeats 6000000 in
theorem valid_law (l : List Env) (A : Option Addr) (n c : Nat) (w : World) (h : RSlice rEnv 5 w (fun b => b < w.heap.size) A n c l) (hOk : ∀ x ∈ l, EnvOk x) :
    Calls Tryd.prog 3 #[.slice A n c] w fun e w' => e = .returned (.bool true) ∧ Below w.heap.size w w' := by
  go_enter Tryd.func3, Tryd.ntmps3
  have hb0 := Below.refl w.heap.size w
  have C := small_any l A n c w ((h.below rEnv_ok hb0).more rEnv_ok (fun _ hp => Nat.lt_of_lt_of_le hp hb0.size))
  replace C := Lib.hid C
  repeat' ((fail_if_success at_builtin); (first | go_skip | go_guarded | go_step))
  refine C.out.mono ?_
  clear C
  rintro e w1_ ⟨rfl, hw1⟩
  dsimp only
  subst w1_
  cases hs : smallL l with
  | false =>
    repeat' ((fail_if_success at_builtin); (first | go_skip | go_guarded | go_step))
    refine (lives_any _).mono ?_
    rintro e wl ⟨rfl, hbl⟩
    dsimp only
    have hbf := hb0.trans (hbl.mono hb0.size)
    repeat' ((fail_if_success at_builtin); (first | go_skip | go_guarded | go_step))
    go_ret
    exact ⟨rfl, hbf⟩
  | true =>
    have hE := small_envs hs h
    obtain ⟨k1, k2, k3, k4⟩ := small_b hs
    have C := valid_any l A n c w hE hOk k3 k1
    replace C := Lib.hid C
    repeat' ((fail_if_success at_builtin); (first | go_skip | go_guarded | go_step))
    refine C.out.mono ?_
    clear C
    rintro e w2 ⟨rfl, hb2⟩
    dsimp only
    have C := rvalid_any l A n c w2 (hE.below hb2) k2
    replace C := Lib.hid C
    repeat' ((fail_if_success at_builtin); (first | go_skip | go_guarded | go_step))
    refine C.out.mono ?_
    clear C
    rintro e w3 ⟨rfl, hb3⟩
    dsimp only
    have hb4 := hb2.trans (hb3.mono hb2.size)
    repeat' ((fail_if_success at_builtin); (first | go_skip | go_guarded | go_step))
    refine (lives_any _).mono ?_
    rintro e wl ⟨rfl, hbl⟩
    dsimp only
    have hbf := hb4.trans (hbl.mono hb4.size)
    repeat' ((fail_if_success at_builtin); (first | go_skip | go_guarded | go_step))
    go_ret
    exact ⟨rfl, hbf⟩
end Go.Proofs.YtennhjkhjplmoaaDoor
