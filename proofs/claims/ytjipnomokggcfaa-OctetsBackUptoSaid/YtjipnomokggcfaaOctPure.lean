/- Varints as plain functions on lists of bytes: no program. -/
import Derived.WalkKit
import Derived.Lib.Varint
import Derived.Lib.VarintMem
import Derived.Lib.Zigzag
namespace Go.Proofs.Ytjipnomokggcfaa
/-- the number that bytes begin with, its length, the error's number: i bytes are read, acc is what they spell -/
def tu : Nat → Nat → List UInt8 → Nat × Nat × Nat
  | _, _, [] => (0, 0, 4)
  | i, acc, c :: r =>
    if i = 9 ∧ 1 < c.toNat then (0, 0, 2)
    else if c.toNat < 128 then (if c.toNat = 0 ∧ 0 < i then (0, 0, 5) else (acc + c.toNat * 128 ^ i, i + 1, 0))
    else tu (i + 1) (acc + (c.toNat - 128) * 128 ^ i) r
def takeU (l : List UInt8) : Nat × Nat × Nat := tu 0 0 l

theorem tu_end {l : List UInt8} {k acc : Nat} (h : l.length ≤ k) : tu k acc (l.drop k) = (0, 0, 4) := by
  rw [List.drop_of_length_le h]; rfl
theorem tu_at {l : List UInt8} {k acc : Nat} {c : UInt8} (h : l[k]? = some c) : tu k acc (l.drop k) =
    if k = 9 ∧ 1 < c.toNat then (0, 0, 2)
    else if c.toNat < 128 then (if c.toNat = 0 ∧ 0 < k then (0, 0, 5) else (acc + c.toNat * 128 ^ k, k + 1, 0))
    else tu (k + 1) (acc + (c.toNat - 128) * 128 ^ k) (l.drop (k + 1)) := by
  obtain ⟨hk, he⟩ := List.getElem?_eq_some_iff.1 h
  rw [List.drop_eq_getElem_cons hk, he]; rfl
theorem tu_nine {l : List UInt8} {acc : Nat} {c : UInt8} (h : l[9]? = some c) (hc : 1 < c.toNat) : tu 9 acc (l.drop 9) = (0, 0, 2) := by
  rw [tu_at h, if_pos ⟨rfl, hc⟩]
theorem tu_zero {l : List UInt8} {k acc : Nat} {c : UInt8} (h : l[k]? = some c) (hc : c.toNat = 0) (hk : 0 < k) : tu k acc (l.drop k) = (0, 0, 5) := by
  rw [tu_at h, if_neg (by omega), if_pos (by omega), if_pos ⟨hc, hk⟩]
theorem tu_last {l : List UInt8} {k acc : Nat} {c : UInt8} (h : l[k]? = some c) (h9 : ¬ (k = 9 ∧ 1 < c.toNat)) (hc : c.toNat < 128) (hk : ¬ (c.toNat = 0 ∧ 0 < k)) : tu k acc (l.drop k) = (acc + c.toNat * 128 ^ k, k + 1, 0) := by
  rw [tu_at h, if_neg h9, if_pos hc, if_neg hk]
theorem tu_more {l : List UInt8} {k acc : Nat} {c : UInt8} (h : l[k]? = some c) (h9 : k ≠ 9) (hc : 128 ≤ c.toNat) : tu k acc (l.drop k) = tu (k + 1) (acc + (c.toNat - 128) * 128 ^ k) (l.drop (k + 1)) := by
  rw [tu_at h, if_neg (by omega), if_neg (by omega)]

theorem pow128 (k : Nat) : 128 ^ k = 2 ^ (7 * k) := by rw [Nat.pow_mul]
theorem pow128_le {k : Nat} (h : k ≤ 9) : 128 ^ k ≤ 9223372036854775808 := by
  rw [pow128]; exact Nat.le_trans (Nat.pow_le_pow_right (by omega) (show 7 * k ≤ 63 by omega)) (by decide)
theorem mul128_lt {k x : Nat} (hk : k ≤ 9) (hx : x < 128) (h9 : k = 9 → x ≤ 1) : x * 128 ^ k < 18446744073709551616 := by
  rcases Nat.lt_or_ge k 9 with h | h
  · have h8 : 128 ^ k ≤ 72057594037927936 := by
      rw [pow128]; exact Nat.le_trans (Nat.pow_le_pow_right (by omega) (show 7 * k ≤ 56 by omega)) (by decide)
    have := Nat.mul_le_mul (show x ≤ 127 by omega) h8
    omega
  · obtain rfl : k = 9 := by omega
    have := Nat.mul_le_mul (h9 rfl) (Nat.le_refl (128 ^ 9))
    have e : 128 ^ 9 = 9223372036854775808 := by decide
    rw [e] at this ⊢
    omega
theorem acc_lt {k acc x : Nat} (hacc : acc < 128 ^ k) (hx : x < 128) : acc + x * 128 ^ k < 128 ^ (k + 1) := by
  rw [Nat.pow_succ]
  have := Nat.mul_le_mul (show x + 1 ≤ 128 by omega) (Nat.le_refl (128 ^ k))
  rw [Nat.add_mul] at this
  omega

/-- one group of seven bits more, as the walk writes it -/
theorem or_group {k acc x : Nat} (hk : k ≤ 9) (hacc : acc < 128 ^ k) (hx : x < 256) (h9 : k = 9 → x ≤ 1) :
    bits .or .u64 (acc : Int) (IntKind.u64.wrap ((x : Int) % 128 * 2 ^ (7 * k))) = ((acc + x % 128 * 128 ^ k : Nat) : Int) := by
  have hlt := mul128_lt (k := k) (x := x % 128) hk (by omega) (fun h => by have := h9 h; omega)
  have e : ((x : Int) % 128 * 2 ^ (7 * k)) = ((x % 128 * 128 ^ k : Nat) : Int) := by
    rw [pow128]; push_cast; rfl
  rw [e, IntWalk.u64_in _ (by omega), u64_or_nat _ _ (by have := pow128_le hk; omega) hlt]
  congr 1
  rw [pow128] at hacc ⊢
  rw [Nat.or_comm, Nat.mul_comm, ← Nat.two_pow_add_eq_or_of_lt hacc]
  omega

theorem add_group {k acc x p : Nat} (hp : p = 128 ^ k) (hk : k ≤ 9) (hacc : acc < 128 ^ k) (hx : x < 256) (h9 : k = 9 → x ≤ 1) :
    IntKind.u64.wrap ((acc : Int) + IntKind.u64.wrap ((p : Int) * ((x : Int) % 128))) = ((acc + x % 128 * 128 ^ k : Nat) : Int) := by
  have hlt := mul128_lt (k := k) (x := x % 128) hk (by omega) (fun h => by have := h9 h; omega)
  have e : ((p : Int) * ((x : Int) % 128)) = ((x % 128 * 128 ^ k : Nat) : Int) := by
    rw [hp]; push_cast; rw [Int.mul_comm]
  rw [e, IntWalk.u64_in ((x % 128 * 128 ^ k : Nat) : Int) (by omega)]
  have hsum : acc + x % 128 * 128 ^ k < 18446744073709551616 := by
    rcases Nat.lt_or_ge k 9 with h | h
    · have h1 := acc_lt (x := x % 128) hacc (by omega)
      have h2 := pow128_le (k := k + 1) (by omega)
      omega
    · obtain rfl : k = 9 := by omega
      have e9 : 128 ^ 9 = 9223372036854775808 := by decide
      have := Nat.mul_le_mul (show x % 128 ≤ 1 by have := h9 rfl; omega) (Nat.le_refl (128 ^ 9))
      rw [e9] at this hacc ⊢
      omega
  rw [← Int.natCast_add, IntWalk.u64_in _ (by omega)]
theorem by_group {k p : Nat} (hp : p = 128 ^ k) (hk : k < 9) : IntKind.u64.wrap ((p : Int) * 128) = ((p * 128 : Nat) : Int) ∧ p * 128 = 128 ^ (k + 1) := by
  have h2 := pow128_le (k := k + 1) (by omega)
  rw [Nat.pow_succ, ← hp] at h2
  exact ⟨by rw [IntWalk.u64_in _ (by omega)]; push_cast; rfl, by rw [Nat.pow_succ, hp]⟩

theorem zig_xor {x : Int} (h0 : -9223372036854775808 ≤ x) (h1 : x ≤ 9223372036854775807) :
    bits .xor .u64 (IntKind.u64.wrap (IntKind.u64.wrap x * 2)) (IntKind.u64.wrap (x / 9223372036854775808)) = ((Lib.zigzag x : Nat) : Int) := by
  by_cases h : x < 0
  · have e1 : IntKind.u64.wrap (IntKind.u64.wrap x * 2) = (((2 * x + 18446744073709551616).toNat : Nat) : Int) := by
      rw [IntKind.wrap_u64, IntKind.wrap_u64]; omega
    have e2 : IntKind.u64.wrap (x / 9223372036854775808) = ((2 ^ 64 - 1 : Nat) : Int) := by
      rw [IntKind.wrap_u64, show x / 9223372036854775808 = -1 from by omega]; rfl
    rw [e1, e2, bits_xor_u64_nat _ _ (by omega) (by decide), Nat.xor_comm, Lib.xor_ones64 _ (by omega)]
    unfold Lib.zigzag
    rw [if_neg (by omega)]
    omega
  · have e1 : IntKind.u64.wrap (IntKind.u64.wrap x * 2) = (((2 * x).toNat : Nat) : Int) := by
      rw [IntKind.wrap_u64, IntKind.wrap_u64]; omega
    have e2 : IntKind.u64.wrap (x / 9223372036854775808) = ((0 : Nat) : Int) := by
      rw [IntKind.wrap_u64, show x / 9223372036854775808 = 0 from by omega]; rfl
    rw [e1, e2, bits_xor_u64_nat _ _ (by omega) (by decide), Nat.xor_zero]
    unfold Lib.zigzag
    rw [if_pos (by omega)]
theorem zig_neg {x : Int} (h0 : -9223372036854775808 ≤ x) (h : x < 0) :
    IntKind.u64.wrap (IntKind.u64.wrap (2 * IntKind.u64.wrap (RowKit.wrap64 (-RowKit.wrap64 (x + 1)))) + 1) = ((Lib.zigzag x : Nat) : Int) := by
  rw [IntWalk.wrap64_in (x + 1) (by omega), IntWalk.wrap64_in _ (by omega), IntWalk.u64_in (-(x + 1)) (by omega), IntWalk.u64_in (2 * -(x + 1)) (by omega), IntWalk.u64_in _ (by omega)]
  unfold Lib.zigzag
  rw [if_neg (by omega)]
  omega
theorem zig_pos {x : Int} (h : 0 ≤ x) (h1 : x ≤ 9223372036854775807) : IntKind.u64.wrap (2 * IntKind.u64.wrap x) = ((Lib.zigzag x : Nat) : Int) := by
  rw [IntWalk.u64_in x (by omega), IntWalk.u64_in (2 * x) (by omega), Lib.zigzag_nonneg h]
  omega

/-- the int of a signed varint's number -/
def unzig (n : Nat) : Int := if n % 2 = 1 then -((n / 2 : Nat) : Int) - 1 else ((n / 2 : Nat) : Int)
def takeI (l : List UInt8) : Int × Nat × Nat := (unzig (takeU l).1, (takeU l).2.1, (takeU l).2.2)
theorem tu_lt : ∀ (l : List UInt8) (i acc : Nat), i ≤ 9 → acc < 128 ^ i → (tu i acc l).1 < 18446744073709551616
  | [], _, _, _, _ => by simp [tu]
  | c :: r, i, acc, hi, hacc => by
    unfold tu
    have hc := c.toNat_lt
    split
    · simp
    · split
      · split
        · simp
        · have h9 : i = 9 → c.toNat ≤ 1 := by omega
          have hlt := mul128_lt (k := i) (x := c.toNat) hi (by omega) h9
          rcases Nat.lt_or_ge i 9 with h | h
          · have h1 := acc_lt (x := c.toNat) hacc (by omega)
            have h2 := pow128_le (k := i + 1) (by omega)
            show acc + c.toNat * 128 ^ i < _
            omega
          · obtain rfl : i = 9 := by omega
            have e9 : 128 ^ 9 = 9223372036854775808 := by decide
            show acc + c.toNat * 128 ^ 9 < _
            have := Nat.mul_le_mul (h9 rfl) (Nat.le_refl (128 ^ 9))
            rw [e9] at this hacc ⊢
            omega
      · exact tu_lt r (i + 1) _ (by omega) (acc_lt hacc (by omega))
theorem takeU_lt (l : List UInt8) : (takeU l).1 < 18446744073709551616 := tu_lt l 0 0 (by omega) (by decide)
theorem unzig_xor {n : Nat} (hn : n < 18446744073709551616) :
    RowKit.wrap64 (bits .xor .u64 ((n : Int) / 2) (IntKind.u64.wrap (-(bits .and .u64 (n : Int) 1)))) = unzig n := by
  rw [← IntWalk.i64_left]
  rw [Lib.u64_and1 _ (by omega) (by omega)]
  have e0 : (n : Int) / 2 = ((n / 2 : Nat) : Int) := by omega
  unfold unzig
  rw [e0]
  split
  · rename_i h
    have e2 : IntKind.u64.wrap (-((n : Int) % 2)) = ((2 ^ 64 - 1 : Nat) : Int) := by
      rw [show (n : Int) % 2 = 1 from by omega]; rfl
    rw [e2, bits_xor_u64_nat _ _ (by omega) (by decide), Nat.xor_comm, Lib.xor_ones64 _ (by omega), IntKind.wrap_i64]
    omega
  · rename_i h
    have e2 : IntKind.u64.wrap (-((n : Int) % 2)) = ((0 : Nat) : Int) := by
      rw [show (n : Int) % 2 = 0 from by omega]; rfl
    rw [e2, bits_xor_u64_nat _ _ (by omega) (by decide), Nat.xor_zero, IntWalk.i64_in _ (by omega)]
theorem unzig_odd {n : Nat} (hn : n < 18446744073709551616) (h : ((n : Int) % 2 == 1) = true) :
    RowKit.wrap64 (RowKit.wrap64 (-RowKit.wrap64 (IntKind.u64.wrap ((n : Int) / 2))) - 1) = unzig n := by
  have h := beq_iff_eq.1 h
  rw [IntWalk.u64_in _ (by omega), IntWalk.wrap64_in ((n : Int) / 2) (by omega), IntWalk.wrap64_in (-((n : Int) / 2)) (by omega), IntWalk.wrap64_in _ (by omega)]
  unfold unzig
  rw [if_pos (by omega)]
  omega
theorem unzig_even {n : Nat} (hn : n < 18446744073709551616) (h : ((n : Int) % 2 == 1) = false) :
    RowKit.wrap64 (IntKind.u64.wrap ((n : Int) / 2)) = unzig n := by
  have h := beq_eq_false_iff_ne.1 h
  rw [IntWalk.u64_in _ (by omega), IntWalk.wrap64_in _ (by omega)]
  unfold unzig
  rw [if_neg (by omega)]
  omega
theorem tu_len : ∀ (l : List UInt8) (i acc : Nat), (tu i acc l).2.2 = 0 → i + 1 ≤ (tu i acc l).2.1 ∧ (tu i acc l).2.1 ≤ i + l.length
  | [], _, _, h => by simp [tu] at h
  | c :: r, i, acc, h => by
    unfold tu at h ⊢
    split at h
    · simp at h
    · split at h
      · split at h
        · simp at h
        · rename_i h1 h2 h3
          rw [if_neg h1, if_pos h2, if_neg h3]
          simp
      · rename_i h1 h2
        rw [if_neg h1, if_neg h2]
        have := tu_len r (i + 1) _ h
        simp only [List.length_cons]
        omega
theorem takeU_len {l : List UInt8} (h : (takeU l).2.2 = 0) : 1 ≤ (takeU l).2.1 ∧ (takeU l).2.1 ≤ l.length := by
  have := tu_len l 0 0 h
  unfold takeU
  omega
/-- the string that bytes begin with, the length of its encoding, the error's number -/
def takeS (l : List UInt8) : List UInt8 × Nat × Nat :=
  if (takeU l).2.2 ≠ 0 then ([], 0, (takeU l).2.2)
  else if l.length - (takeU l).2.1 < (takeU l).1 then ([], 0, 4)
  else ((l.drop (takeU l).2.1).take (takeU l).1, (takeU l).2.1 + (takeU l).1, 0)

theorem tu_uvarint (r : List UInt8) : ∀ (N n i acc : Nat), n ≤ N → n * 128 ^ i < 18446744073709551616 → (0 < i → 0 < n) → i ≤ 9 →
    tu i acc (Lib.uvarint n ++ r) = (acc + n * 128 ^ i, i + (Lib.uvarint n).length, 0)
  | N, n, i, acc, hN, hb, hpos, hi => by
    by_cases h : n < 128
    · rw [Lib.uvarint_small h]
      have hc : (n.toUInt8).toNat = n := Lib.toUInt8_toNat (by omega)
      simp only [List.cons_append, List.nil_append, tu, hc]
      have h9 : ¬ (i = 9 ∧ 1 < n) := by
        rintro ⟨rfl, h1⟩
        have e9 : 128 ^ 9 = 9223372036854775808 := by decide
        rw [e9] at hb
        omega
      rw [if_neg h9, if_pos h, if_neg (by omega)]
      rfl
    · have hN' : N ≠ 0 := by omega
      obtain ⟨N', rfl⟩ : ∃ N', N = N' + 1 := ⟨N - 1, by omega⟩
      rw [Lib.uvarint_big (by omega)]
      have hc : ((n % 128 + 128).toUInt8).toNat = n % 128 + 128 := Lib.toUInt8_toNat (by omega)
      have hi9 : i ≠ 9 := by
        rintro rfl
        have e9 : 128 ^ 9 = 9223372036854775808 := by decide
        rw [e9] at hb
        omega
      simp only [List.cons_append, tu, hc]
      rw [if_neg (by omega), if_neg (by omega)]
      have hmul : n / 128 * 128 ^ (i + 1) ≤ n * 128 ^ i := by
        rw [Nat.pow_succ, Nat.mul_comm (128 ^ i) 128, ← Nat.mul_assoc]
        exact Nat.mul_le_mul_right _ (by omega)
      rw [tu_uvarint r N' (n / 128) (i + 1) _ (by omega) (by omega) (by omega) (by omega)]
      have e : acc + (n % 128 + 128 - 128) * 128 ^ i + n / 128 * 128 ^ (i + 1) = acc + n * 128 ^ i := by
        rw [Nat.pow_succ, Nat.mul_comm (128 ^ i) 128, ← Nat.mul_assoc, Nat.add_assoc, ← Nat.add_mul]
        congr 2
        omega
      rw [e]
      simp only [List.length_cons]
      congr 2
      omega
theorem takeU_uvarint {n : Nat} (h : n < 18446744073709551616) (r : List UInt8) : takeU (Lib.uvarint n ++ r) = (n, (Lib.uvarint n).length, 0) := by
  unfold takeU
  rw [tu_uvarint r n n 0 0 (Nat.le_refl _) (by simpa using h) (by omega) (by omega)]
  simp
theorem unzig_zigzag {x : Int} (h0 : -9223372036854775808 ≤ x) (h1 : x ≤ 9223372036854775807) : unzig (Lib.zigzag x) = x := by
  unfold unzig Lib.zigzag
  split
  · rw [if_neg (by omega)]; omega
  · rw [if_pos (by omega)]; omega
theorem takeI_zigzag {x : Int} (h0 : -9223372036854775808 ≤ x) (h1 : x ≤ 9223372036854775807) (r : List UInt8) : takeI (Lib.uvarint (Lib.zigzag x) ++ r) = (x, (Lib.uvarint (Lib.zigzag x)).length, 0) := by
  unfold takeI
  rw [takeU_uvarint (Lib.zigzag_lt h0 h1), unzig_zigzag h0 h1]
theorem takeS_uvarint {s : List UInt8} (h : s.length < 18446744073709551616) : takeS (Lib.uvarint s.length ++ s) = (s, (Lib.uvarint s.length ++ s).length, 0) := by
  unfold takeS
  rw [takeU_uvarint h]
  rw [if_neg (by simp), if_neg (by simp), List.drop_left, List.take_of_length_le (Nat.le_refl _), List.length_append]
end Go.Proofs.Ytjipnomokggcfaa
