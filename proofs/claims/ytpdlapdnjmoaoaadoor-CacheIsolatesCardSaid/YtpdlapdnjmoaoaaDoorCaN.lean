/- Sums of times that stay in range: both sides. -/
import Derived.Test.YtpdlapdnjmoaoaaDoorCaE
namespace Go.Proofs.YtpdlapdnjmoaoaaDoor
open Go.RowKit
def satI (x : Int) : Int := if 9223372036854775807 < x then 9223372036854775807 else if x < -9223372036854775808 then -9223372036854775808 else x
def I64 (x : Int) : Prop := -9223372036854775808 ≤ x ∧ x ≤ 9223372036854775807
set_option maxRecDepth 100000 in
theorem end_any (b : Bool) (w : World) : Calls Tryd.prog 63 #[.bool b] w fun e w' => e = .returned (.int .i64 (if b then -9223372036854775808 else 9223372036854775807)) ∧ w' = w := by
  cases b
  all_goals
    go_enter Tryd.func63, Tryd.ntmps63
    repeat' ((fail_if_success at_builtin); (first | go_skip | go_guarded | go_step))
    go_ret
    exact ⟨rfl, rfl⟩
set_option maxRecDepth 100000 in
theorem add_any (a b : Int) (w : World) (ha : I64 a) (hb : I64 b) : Calls Tryd.prog 39 #[.int .i64 a, .int .i64 b] w fun e w' => e = .returned (.int .i64 (satI (a + b))) ∧ w' = w := by
  obtain ⟨a1, a2⟩ := ha
  obtain ⟨b1, b2⟩ := hb
  by_cases h1 : 9223372036854775807 < a + b
  · have hs : satI (a + b) = 9223372036854775807 := by unfold satI; rw [if_pos h1]
    have hw : IntKind.i64.wrap (a + b) = a + b - 18446744073709551616 := by rw [IntKind.wrap_i64]; omega
    have q1 : ¬ a < 0 := by omega
    have q2 : ¬ b < 0 := by omega
    have q3 : a + b - 18446744073709551616 < 0 := by omega
    generalize a + b - 18446744073709551616 = s at *
    rw [hs]
    clear h1 hs
    go_enter Tryd.func39, Tryd.ntmps39
    repeat' ((fail_if_success at_builtin); (first | go_skip | go_guarded | go_step))
    refine (end_any _ _).mono ?_
    rintro e w1 ⟨rfl, rfl⟩
    dsimp only
    repeat' ((fail_if_success at_builtin); (first | go_skip | go_guarded | go_step))
    go_ret
    exact ⟨rfl, rfl⟩
  · by_cases h2 : a + b < -9223372036854775808
    · have hs : satI (a + b) = -9223372036854775808 := by unfold satI; rw [if_neg h1, if_pos h2]
      have hw : IntKind.i64.wrap (a + b) = a + b + 18446744073709551616 := by rw [IntKind.wrap_i64]; omega
      have q1 : a < 0 := by omega
      have q2 : b < 0 := by omega
      have q3 : ¬ a + b + 18446744073709551616 < 0 := by omega
      generalize a + b + 18446744073709551616 = s at *
      rw [hs]
      clear h1 h2 hs
      go_enter Tryd.func39, Tryd.ntmps39
      repeat' ((fail_if_success at_builtin); (first | go_skip | go_guarded | go_step))
      refine (end_any _ _).mono ?_
      rintro e w1 ⟨rfl, rfl⟩
      dsimp only
      repeat' ((fail_if_success at_builtin); (first | go_skip | go_guarded | go_step))
      go_ret
      exact ⟨rfl, rfl⟩
    · have hs : satI (a + b) = a + b := by unfold satI; rw [if_neg h1, if_neg h2]
      have hw : IntKind.i64.wrap (a + b) = a + b := by rw [IntKind.wrap_i64]; omega
      rw [hs]
      have q : (a < 0 ∧ b < 0 ∧ a + b < 0) ∨ (¬ a < 0 ∧ ¬ b < 0 ∧ ¬ a + b < 0) ∨ (a < 0 ∧ ¬ b < 0) ∨ (¬ a < 0 ∧ b < 0) := by omega
      clear h1 h2 hs
      rcases q with ⟨q1, q2, q3⟩ | ⟨q1, q2, q3⟩ | ⟨q1, q2⟩ | ⟨q1, q2⟩
      all_goals
        go_enter Tryd.func39, Tryd.ntmps39
        repeat' ((fail_if_success at_builtin); (first | go_skip | go_guarded | go_step))
        go_ret
        exact ⟨rfl, rfl⟩
set_option maxRecDepth 100000 in
theorem refAdd_any (a b : Int) (w : World) (ha : I64 a) (hb : I64 b) : Calls Tryd.prog 40 #[.int .i64 a, .int .i64 b] w fun e w' => e = .returned (.int .i64 (satI (a + b))) ∧ w' = w := by
  obtain ⟨a1, a2⟩ := ha
  obtain ⟨b1, b2⟩ := hb
  have hN : satI (a + b) = if 0 < a ∧ 9223372036854775807 - a < b then 9223372036854775807 else if a < 0 ∧ b < -9223372036854775808 - a then -9223372036854775808 else a + b := by
    unfold satI
    by_cases h1 : 9223372036854775807 < a + b
    · have c1 : 0 < a ∧ 9223372036854775807 - a < b := by omega
      rw [if_pos h1, if_pos c1]
    · have c1 : ¬ (0 < a ∧ 9223372036854775807 - a < b) := by omega
      rw [if_neg h1, if_neg c1]
      by_cases h2 : a + b < -9223372036854775808
      · have c2 : a < 0 ∧ b < -9223372036854775808 - a := by omega
        rw [if_pos h2, if_pos c2]
      · have c2 : ¬ (a < 0 ∧ b < -9223372036854775808 - a) := by omega
        rw [if_neg h2, if_neg c2]
  generalize satI (a + b) = r at *
  have tri : 0 < a ∨ a < 0 ∨ a = 0 := by omega
  rcases tri with h0 | h0 | h0
  · have n0 : ¬ a < 0 := by omega
    have hw : IntKind.i64.wrap (9223372036854775807 - a) = 9223372036854775807 - a := by rw [IntKind.wrap_i64]; omega
    have hw2 : ¬ 9223372036854775807 - a < b → IntKind.i64.wrap (a + b) = a + b := fun h => by rw [IntKind.wrap_i64]; omega
    by_cases h1 : 9223372036854775807 - a < b
    · rw [if_pos ⟨h0, h1⟩] at hN
      clear hw2
      replace hN := Lib.hid hN
      go_enter Tryd.func40, Tryd.ntmps40
      repeat' ((fail_if_success at_builtin); (first | go_skip | go_guarded | go_step))
      go_ret
      exact ⟨by rw [hN.out]; rfl, rfl⟩
    · rw [if_neg (fun h => h1 h.2), if_neg (fun h => n0 h.1)] at hN
      have hw3 := hw2 h1
      clear hw2
      replace hN := Lib.hid hN
      go_enter Tryd.func40, Tryd.ntmps40
      repeat' ((fail_if_success at_builtin); (first | go_skip | go_guarded | go_step))
      go_ret
      exact ⟨by rw [hN.out]; rfl, rfl⟩
  · have n0 : ¬ 0 < a := by omega
    have hw : IntKind.i64.wrap (-9223372036854775808 - a) = -9223372036854775808 - a := by rw [IntKind.wrap_i64]; omega
    have hw2 : ¬ b < -9223372036854775808 - a → IntKind.i64.wrap (a + b) = a + b := fun h => by rw [IntKind.wrap_i64]; omega
    by_cases h1 : b < -9223372036854775808 - a
    · rw [if_neg (fun h => n0 h.1), if_pos ⟨h0, h1⟩] at hN
      clear hw2
      replace hN := Lib.hid hN
      go_enter Tryd.func40, Tryd.ntmps40
      repeat' ((fail_if_success at_builtin); (first | go_skip | go_guarded | go_step))
      go_ret
      exact ⟨by rw [hN.out]; rfl, rfl⟩
    · rw [if_neg (fun h => n0 h.1), if_neg (fun h => h1 h.2)] at hN
      have hw3 := hw2 h1
      clear hw2
      replace hN := Lib.hid hN
      go_enter Tryd.func40, Tryd.ntmps40
      repeat' ((fail_if_success at_builtin); (first | go_skip | go_guarded | go_step))
      go_ret
      exact ⟨by rw [hN.out]; rfl, rfl⟩
  · have n0 : ¬ 0 < a := by omega
    have n1 : ¬ a < 0 := by omega
    have hw : IntKind.i64.wrap (a + b) = a + b := by rw [IntKind.wrap_i64]; omega
    rw [if_neg (fun h => n0 h.1), if_neg (fun h => n1 h.1)] at hN
    clear h0
    replace hN := Lib.hid hN
    go_enter Tryd.func40, Tryd.ntmps40
    repeat' ((fail_if_success at_builtin); (first | go_skip | go_guarded | go_step))
    go_ret
    exact ⟨by rw [hN.out]; rfl, rfl⟩
end Go.Proofs.YtpdlapdnjmoaoaaDoor
