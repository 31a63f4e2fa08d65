/- Sets of bytes: plain, and the walks. -/
import Derived.Test.YtgloblokkejgmaaDoorIdN
import Derived.Lib.Zigzag
import Derived.Deep.RegionHeld3
import Derived.BigQuiet
import Derived.BigRegion
import Derived.Deep.DeepCutAuto
namespace Go.Proofs.YtgloblokkejgmaaDoor
open Go.RowKit
/-- four words -/
structure Set4 where
  a : Nat
  b : Nat
  c : Nat
  d : Nat
def Set4.get (s : Set4) : Nat → Nat
  | 0 => s.a
  | 1 => s.b
  | 2 => s.c
  | _ => s.d
def Set4.set (s : Set4) (v : Nat) : Nat → Set4
  | 0 => { s with a := v }
  | 1 => { s with b := v }
  | 2 => { s with c := v }
  | _ => { s with d := v }
def Set4.fit (s : Set4) : Prop := s.a < 18446744073709551616 ∧ s.b < 18446744073709551616 ∧ s.c < 18446744073709551616 ∧ s.d < 18446744073709551616
def addS (s : Set4) (c : Nat) : Set4 := s.set (s.get (c / 64) ||| 2 ^ (c % 64)) (c / 64)
def dropS (s : Set4) (c : Nat) : Set4 := s.set (s.get (c / 64) &&& (18446744073709551615 - 2 ^ (c % 64))) (c / 64)
def hasS (s : Set4) (c : Nat) : Bool := (s.get (c / 64)).testBit (c % 64)
theorem four {k : Nat} (h : k < 4) : k = 0 ∨ k = 1 ∨ k = 2 ∨ k = 3 := by omega
theorem get_set (s : Set4) (v j k : Nat) (hj : j < 4) (hk : k < 4) : (s.set v j).get k = if j = k then v else s.get k := by
  rcases four hj with rfl | rfl | rfl | rfl <;> rcases four hk with rfl | rfl | rfl | rfl <;> rfl
theorem fit_get {s : Set4} (h : s.fit) (k : Nat) : s.get k < 18446744073709551616 := by
  obtain ⟨h0, h1, h2, h3⟩ := h
  match k with
  | 0 => exact h0
  | 1 => exact h1
  | 2 => exact h2
  | _ + 3 => exact h3
theorem fit_set {s : Set4} (h : s.fit) {v : Nat} (hv : v < 18446744073709551616) (k : Nat) : (s.set v k).fit := by
  obtain ⟨h0, h1, h2, h3⟩ := h
  match k with
  | 0 => exact ⟨hv, h1, h2, h3⟩
  | 1 => exact ⟨h0, hv, h2, h3⟩
  | 2 => exact ⟨h0, h1, hv, h3⟩
  | _ + 3 => exact ⟨h0, h1, h2, hv⟩
theorem two_lt (k : Nat) (h : k < 64) : 2 ^ k < 18446744073709551616 := by
  have := Nat.pow_lt_pow_right (a := 2) (by omega) h
  have e : 2 ^ 64 = 18446744073709551616 := by decide
  omega
theorem fit_add {s : Set4} (h : s.fit) (c : Nat) : (addS s c).fit := by
  have h1 := fit_get h (c / 64)
  have h2 := two_lt (c % 64) (by omega)
  exact fit_set h (Nat.or_lt_two_pow (n := 64) h1 h2) _
theorem fit_drop {s : Set4} (h : s.fit) (c : Nat) : (dropS s c).fit := by
  have h1 := fit_get h (c / 64)
  refine fit_set h ?_ _
  exact Nat.lt_of_le_of_lt Nat.and_le_left h1
theorem has_add {s : Set4} {c x : Nat} (hc : c < 256) (hx : x < 256) : hasS (addS s c) x = (decide (x = c) || hasS s x) := by
  unfold hasS addS
  rw [get_set _ _ _ _ (by omega) (by omega)]
  by_cases h : c / 64 = x / 64
  · rw [if_pos h, Nat.testBit_or, Nat.testBit_two_pow, h, Bool.or_comm]
    congr 1
    rw [decide_eq_decide]
    omega
  · rw [if_neg h, decide_eq_false (by rintro rfl; exact h rfl), Bool.false_or]
theorem has_drop {s : Set4} {c x : Nat} (hc : c < 256) (hx : x < 256) : hasS (dropS s c) x = (decide (x ≠ c) && hasS s x) := by
  unfold hasS dropS
  rw [get_set _ _ _ _ (by omega) (by omega)]
  by_cases h : c / 64 = x / 64
  · have h2 := two_lt (c % 64) (by omega)
    have e : 18446744073709551615 - 2 ^ (c % 64) = 2 ^ 64 - (2 ^ (c % 64) + 1) := by omega
    rw [if_pos h, Nat.testBit_and, e, Nat.testBit_two_pow_sub_succ (by omega), Nat.testBit_two_pow, h, Bool.and_comm]
    congr 1
    rw [decide_eq_true (by omega), Bool.true_and, ← decide_not, decide_eq_decide]
    omega
  · rw [if_neg h, decide_eq_true (by rintro rfl; exact h rfl), Bool.true_and]
abbrev wd (n : Nat) : Value := .int .u64 (n : Int)
/-- the set lies at an address, to be written -/
def SetAt (w : World) (g o : Nat) (s : Set4) : Prop := w.cell? ⟨g, o, none⟩ = some (wd s.a) ∧ w.cell? ⟨g, o + 1, none⟩ = some (wd s.b) ∧ w.cell? ⟨g, o + 2, none⟩ = some (wd s.c) ∧ w.cell? ⟨g, o + 3, none⟩ = some (wd s.d) ∧ ∀ j, w.frozen? ⟨g, j, none⟩ = false
theorem setAt_set {w : World} {g o : Nat} {s : Set4} (h : SetAt w g o s) (v k : Nat) (hk : k < 4) : SetAt ((w.setCell ⟨g, o + k, none⟩ (wd v)).drew) g o (s.set v k) := by
  obtain ⟨h0, h1, h2, h3, h4⟩ := h
  rcases four hk with rfl | rfl | rfl | rfl <;> refine ⟨?_, ?_, ?_, ?_, fun j => ?_⟩ <;> simp [go_sem, h0, h1, h2, h3, h4, Set4.set]
theorem u64_andNot_nat (a b : Nat) (ha : a < 18446744073709551616) (hb : b < 18446744073709551616) : bits .andNot .u64 (a : Int) (b : Int) = ((a &&& (18446744073709551615 - b) : Nat) : Int) := by
  have hx : a &&& (18446744073709551615 - b) < 2 ^ 64 := Nat.lt_of_le_of_lt Nat.and_le_left (by omega)
  show IntKind.u64.wrap ((BitVec.ofInt 64 (a : Int) &&& ~~~BitVec.ofInt 64 (b : Int)).toNat : Int) = _
  rw [BitVec.toNat_and, BitVec.toNat_not, ofInt_u64 a ha, ofInt_u64 b hb, IntKind.wrap_u64]
  have e : (2 : Nat) ^ 64 - 1 = 18446744073709551615 := by decide
  rw [e]
  omega
set_option maxRecDepth 100000 in
set_option maxHeartbeats 800000 in
theorem has_any (s : Set4) (c : Nat) (w : World) (hc : c < 256) (hf : s.fit) :
    Calls Tryd.prog 84 #[.agg #[wd s.a, wd s.b, wd s.c, wd s.d], .int .u8 (c : Int)] w fun e w' => e = .returned (.bool (hasS s c)) ∧ Below w.heap.size w w' := by
  have hk : c / 64 = 0 ∨ c / 64 = 1 ∨ c / 64 = 2 ∨ c / 64 = 3 := by omega
  obtain ⟨q0, q1, q2, q3⟩ := hf
  have tb : ∀ v : Nat, v < 18446744073709551616 → (bits .and .u64 ((v : Int) / 2 ^ (c % 64)) 1 == 1) = v.testBit (c % 64) := by
    intro v hv
    have e : ((v : Int) / 2 ^ (c % 64)) = ((v / 2 ^ (c % 64) : Nat) : Int) := by push_cast; rfl
    have hlt : v / 2 ^ (c % 64) < 18446744073709551616 := Nat.lt_of_le_of_lt (Nat.div_le_self _ _) hv
    rw [e, Nat.testBit_eq_decide_div_mod_eq]
    generalize v / 2 ^ (c % 64) = q at *
    rw [Lib.u64_and1 _ (by omega) (by omega)]
    rw [Bool.eq_iff_iff]
    simp only [beq_iff_eq, decide_eq_true_eq]
    omega
  unfold wd
  go_enter Tryd.func84, Tryd.ntmps84
  rcases hk with hk | hk | hk | hk
  · have hk2 : (c : Int) / 64 = 0 := by omega
    repeat' ((fail_if_success at_builtin); (first | go_skip | go_guarded | go_step))
    go_ret
    refine ⟨ret_b ?_, (Below.refl _ _).alloc (Nat.le_refl _) _⟩
    unfold hasS
    rw [hk]
    rfl
  · have hk2 : (c : Int) / 64 = 1 := by omega
    repeat' ((fail_if_success at_builtin); (first | go_skip | go_guarded | go_step))
    go_ret
    refine ⟨ret_b ?_, (Below.refl _ _).alloc (Nat.le_refl _) _⟩
    unfold hasS
    rw [hk]
    rfl
  · have hk2 : (c : Int) / 64 = 2 := by omega
    repeat' ((fail_if_success at_builtin); (first | go_skip | go_guarded | go_step))
    go_ret
    refine ⟨ret_b ?_, (Below.refl _ _).alloc (Nat.le_refl _) _⟩
    unfold hasS
    rw [hk]
    rfl
  · have hk2 : (c : Int) / 64 = 3 := by omega
    repeat' ((fail_if_success at_builtin); (first | go_skip | go_guarded | go_step))
    go_ret
    refine ⟨ret_b ?_, (Below.refl _ _).alloc (Nat.le_refl _) _⟩
    unfold hasS
    rw [hk]
    rfl
set_option maxRecDepth 100000 in
set_option maxHeartbeats 800000 in
theorem add_any (s : Set4) (c g o : Nat) (w : World) (hc : c < 256) (hf : s.fit) (h : SetAt w g o s) :
    Calls Tryd.prog 106 #[.pointer (some ⟨g, o, none⟩), .int .u8 (c : Int)] w fun e w' => e = .returned (.tuple #[]) ∧ w' = (w.setCell ⟨g, o + c / 64, none⟩ (wd (s.get (c / 64) ||| 2 ^ (c % 64)))).drew := by
  have hk : c / 64 = 0 ∨ c / 64 = 1 ∨ c / 64 = 2 ∨ c / 64 = 3 := by omega
  obtain ⟨e0, e1, e2, e3, hfz⟩ := h
  have hp : IntKind.u64.wrap (2 ^ (c % 64)) = ((2 ^ (c % 64) : Nat) : Int) := by
    have h2 := two_lt (c % 64) (by omega)
    have e : (2 : Int) ^ (c % 64) = ((2 ^ (c % 64) : Nat) : Int) := by push_cast; rfl
    rw [e]
    generalize 2 ^ (c % 64) = m at *
    exact IntWalk.u64_in _ (by omega)
  have hpl := two_lt (c % 64) (by omega)
  have pw : (2 : Int) ^ (c % 64) = ((2 ^ (c % 64) : Nat) : Int) := by push_cast; rfl
  replace pw := Lib.hid pw
  obtain ⟨q0, q1, q2, q3⟩ := hf
  unfold wd at *
  go_enter Tryd.func106, Tryd.ntmps106
  rcases hk with hk | hk | hk | hk
  · have hk2 : (c : Int) / 64 = 0 := by omega
    have f0 := hfz (o)
    repeat' ((fail_if_success at_builtin); (first | go_skip | go_guarded | go_step))
    go_region
    repeat' ((fail_if_success at_builtin); (first | go_skip | go_guarded | go_step))
    go_end0
    refine ⟨rfl, ?_⟩
    rw [hk, pw.out, u64_or_nat _ _ q0 hpl]
    rfl
  · have hk2 : (c : Int) / 64 = 1 := by omega
    have f0 := hfz (o + 1)
    repeat' ((fail_if_success at_builtin); (first | go_skip | go_guarded | go_step))
    go_region
    repeat' ((fail_if_success at_builtin); (first | go_skip | go_guarded | go_step))
    go_end0
    refine ⟨rfl, ?_⟩
    rw [hk, pw.out, u64_or_nat _ _ q1 hpl]
    rfl
  · have hk2 : (c : Int) / 64 = 2 := by omega
    have f0 := hfz (o + 2)
    repeat' ((fail_if_success at_builtin); (first | go_skip | go_guarded | go_step))
    go_region
    repeat' ((fail_if_success at_builtin); (first | go_skip | go_guarded | go_step))
    go_end0
    refine ⟨rfl, ?_⟩
    rw [hk, pw.out, u64_or_nat _ _ q2 hpl]
    rfl
  · have hk2 : (c : Int) / 64 = 3 := by omega
    have f0 := hfz (o + 3)
    repeat' ((fail_if_success at_builtin); (first | go_skip | go_guarded | go_step))
    go_region
    repeat' ((fail_if_success at_builtin); (first | go_skip | go_guarded | go_step))
    go_end0
    refine ⟨rfl, ?_⟩
    rw [hk, pw.out, u64_or_nat _ _ q3 hpl]
    rfl
set_option maxRecDepth 100000 in
set_option maxHeartbeats 800000 in
theorem drop_any (s : Set4) (c g o : Nat) (w : World) (hc : c < 256) (hf : s.fit) (h : SetAt w g o s) :
    Calls Tryd.prog 104 #[.pointer (some ⟨g, o, none⟩), .int .u8 (c : Int)] w fun e w' => e = .returned (.tuple #[]) ∧ w' = (w.setCell ⟨g, o + c / 64, none⟩ (wd (s.get (c / 64) &&& (18446744073709551615 - 2 ^ (c % 64))))).drew := by
  have hk : c / 64 = 0 ∨ c / 64 = 1 ∨ c / 64 = 2 ∨ c / 64 = 3 := by omega
  obtain ⟨e0, e1, e2, e3, hfz⟩ := h
  have hp : IntKind.u64.wrap (2 ^ (c % 64)) = ((2 ^ (c % 64) : Nat) : Int) := by
    have h2 := two_lt (c % 64) (by omega)
    have e : (2 : Int) ^ (c % 64) = ((2 ^ (c % 64) : Nat) : Int) := by push_cast; rfl
    rw [e]
    generalize 2 ^ (c % 64) = m at *
    exact IntWalk.u64_in _ (by omega)
  have hpl := two_lt (c % 64) (by omega)
  have pw : (2 : Int) ^ (c % 64) = ((2 ^ (c % 64) : Nat) : Int) := by push_cast; rfl
  replace pw := Lib.hid pw
  obtain ⟨q0, q1, q2, q3⟩ := hf
  unfold wd at *
  go_enter Tryd.func104, Tryd.ntmps104
  rcases hk with hk | hk | hk | hk
  · have hk2 : (c : Int) / 64 = 0 := by omega
    have f0 := hfz (o)
    repeat' ((fail_if_success at_builtin); (first | go_skip | go_guarded | go_step))
    go_region
    repeat' ((fail_if_success at_builtin); (first | go_skip | go_guarded | go_step))
    go_end0
    refine ⟨rfl, ?_⟩
    rw [hk, pw.out, u64_andNot_nat _ _ q0 hpl]
    rfl
  · have hk2 : (c : Int) / 64 = 1 := by omega
    have f0 := hfz (o + 1)
    repeat' ((fail_if_success at_builtin); (first | go_skip | go_guarded | go_step))
    go_region
    repeat' ((fail_if_success at_builtin); (first | go_skip | go_guarded | go_step))
    go_end0
    refine ⟨rfl, ?_⟩
    rw [hk, pw.out, u64_andNot_nat _ _ q1 hpl]
    rfl
  · have hk2 : (c : Int) / 64 = 2 := by omega
    have f0 := hfz (o + 2)
    repeat' ((fail_if_success at_builtin); (first | go_skip | go_guarded | go_step))
    go_region
    repeat' ((fail_if_success at_builtin); (first | go_skip | go_guarded | go_step))
    go_end0
    refine ⟨rfl, ?_⟩
    rw [hk, pw.out, u64_andNot_nat _ _ q2 hpl]
    rfl
  · have hk2 : (c : Int) / 64 = 3 := by omega
    have f0 := hfz (o + 3)
    repeat' ((fail_if_success at_builtin); (first | go_skip | go_guarded | go_step))
    go_region
    repeat' ((fail_if_success at_builtin); (first | go_skip | go_guarded | go_step))
    go_end0
    refine ⟨rfl, ?_⟩
    rw [hk, pw.out, u64_andNot_nat _ _ q3 hpl]
    rfl
end Go.Proofs.YtgloblokkejgmaaDoor
