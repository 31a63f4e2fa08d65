/- Joined: Row CrcP CrcW CrcX EntP JnTk JnRd JnCg. -/
import Derived.Test.YtgdapkglofchjaaGreatDoorF29
set_option maxRecDepth 100000
set_option maxHeartbeats 4000000
set_option linter.unusedVariables false
namespace Go.Proofs.YtgdapkglofchjaaGreatDoor
open Go.RowKit
section
variable {α : Type} {r : Rd α} {sz : Nat} {w0 w w' wa : World} {e : TypeId} {v v' : Value} {l m : List α}
theorem RSlice.more (hr : RdOk r) {S S' : Nat → Prop} {A : Option Addr} {n c : Nat} (hS : ∀ b, S b → S' b) (h : RSlice r sz w S A n c l) : RSlice r sz w S' A n c l := by
 obtain ⟨h1, h2, h3, cs, h4, h5⟩ := h
 exact ⟨h1, h2, h3, cs, h4.imp hS, h5.weak hr hS⟩
end
end Go.Proofs.YtgdapkglofchjaaGreatDoor
namespace Go.Proofs.YtgdapkglofchjaaGreatDoor
theorem xor_half (a b : Nat) : (a ^^^ b) / 2 = (a / 2) ^^^ (b / 2) := by
 have := Nat.shiftRight_xor_distrib (a := a) (b := b) (i := 1)
 simpa [Nat.shiftRight_eq_div_pow] using this
theorem xor_mod2 (a b : Nat) : (a ^^^ b) % 2 = (a % 2) ^^^ (b % 2) := by
 have := Nat.xor_mod_two_pow (a := a) (b := b) (n := 1)
 simpa using this
theorem xor_odd (a b : Nat) : (a ^^^ b) % 2 = 1 ↔ a % 2 ≠ b % 2 := by
 rw [xor_mod2]
 have h1 := Nat.mod_two_eq_zero_or_one a
 have h2 := Nat.mod_two_eq_zero_or_one b
 rcases h1 with h1 | h1 <;> rcases h2 with h2 | h2 <;> rw [h1, h2] <;> decide
theorem xor_lt32 {a b : Nat} (h1 : a < 4294967296) (h2 : b < 4294967296) : a ^^^ b < 4294967296 := Nat.xor_lt_two_pow (n := 32) h1 h2
theorem crc_lt (l : List UInt8) : crc l < 4294967296 := by unfold crc; omega
def num4 (a b c d : UInt8) : Nat := a.toNat + 256 * (b.toNat + 256 * (c.toNat + 256 * d.toNat))
theorem byte_nat {n : Nat} (h : n < 256) : n.toUInt8.toNat = n := by
 rw [Nat.toUInt8, UInt8.toNat_ofNat']
 exact Nat.mod_eq_of_lt (by simpa using h)
theorem num4_sum4 {n : Nat} (h : n < 4294967296) : num4 (n % 256).toUInt8 (n / 256 % 256).toUInt8 (n / 65536 % 256).toUInt8 (n / 16777216 % 256).toUInt8 = n := by
 unfold num4
 rw [byte_nat (by omega), byte_nat (by omega), byte_nat (by omega), byte_nat (by omega)]
 omega
theorem sum4_num4 (a b c d : UInt8) : sum4 (num4 a b c d) = [a, b, c, d] := by
 have ha := a.toNat_lt
 have hb := b.toNat_lt
 have hc := c.toNat_lt
 have hd := d.toNat_lt
 unfold sum4 num4
 have e : ∀ (x : UInt8) (m : Nat), m = x.toNat → m.toUInt8 = x := fun x m h => by subst h; simp
 rw [e a _ (by omega), e b _ (by omega), e c _ (by omega), e d _ (by omega)]
theorem sum4_inj {m n : Nat} (hm : m < 4294967296) (hn : n < 4294967296) (h : sum4 m = sum4 n) : m = n := by
 rw [← num4_sum4 hm, ← num4_sum4 hn]
 unfold sum4 at h
 simp only [List.cons.injEq, and_true] at h
 obtain ⟨h1, h2, h3, h4⟩ := h
 rw [h1, h2, h3, h4]
end Go.Proofs.YtgdapkglofchjaaGreatDoor
namespace Go.Proofs.YtgdapkglofchjaaGreatDoor
open Go.RowKit
theorem and_one {a : Nat} (h : a < 4294967296) : bits .and .u32 (a : Int) 1 = ((a % 2 : Nat) : Int) := by
 have := u32_and_nat a 1 h (by decide)
 rw [Nat.and_one_is_mod] at this
 exact this
theorem not32 {a : Nat} (h : a < 4294967296) : bits .xor .u32 (if IntKind.u32.signed = true then -1 else IntKind.u32.max) (a : Int) = ((4294967295 - a : Nat) : Int) := by
 have h1 := u32_xor_nat 4294967295 a (by decide) h
 have h2 := congrArg BitVec.toNat (BitVec.allOnes_xor (x := BitVec.ofNat 32 a))
 rw [BitVec.toNat_xor, BitVec.toNat_not, BitVec.toNat_ofNat, BitVec.toNat_allOnes, Nat.mod_eq_of_lt h] at h2
 have h3 : (4294967295 : Nat) ^^^ a = 4294967295 - a := by simpa using h2
 rw [h3] at h1
 exact h1
theorem crc_at {l : List UInt8} {k : Nat} {x : UInt8} {acc : Nat} (h : l[k]? = some x) : crcF acc (l.drop k) = crcF (crcB acc x.toNat) (l.drop (k + 1)) := by
 obtain ⟨hk, he⟩ := List.getElem?_eq_some_iff.1 h
 rw [List.drop_eq_getElem_cons hk, he]; rfl
theorem check_any (A : Option Addr) (n c : Nat) (l : List UInt8) (w : World) (B : Nat) (hl : l.length = n) (hm : n ≤ 1000000000) (hs : Seq w B 1 A n (l.map bv)) :
  Calls Tryz.prog 97 #[.slice A n c] w fun e w' => e = .returned (.int .i64 (crc l : Int)) ∧ w = w' := by
 go_enter Tryz.func97, Tryz.ntmps97
 repeat' (first | go_skip | go_guarded | go_step)
 go_loop [3, 8] (fun u3 u8 => ∃ (k acc : Nat), k ≤ n ∧ acc < 4294967296 ∧ u3 = .int .u32 (acc : Int) ∧ u8 = .int .i64 (k : Int) ∧ crcF acc (l.drop k) = crcF 4294967295 l) (fun _ u8 => n - (intOf u8).toNat)
 case atStart => exact ⟨0, 4294967295, by omega, by decide, rfl, rfl, rfl⟩
 case round =>
  obtain ⟨k, acc, hk, hacc, rfl, rfl, hcrc⟩ := hrel
  have Hcrc := Lib.hid hcrc; clear hcrc
  by_cases hlt : k < n
  ·obtain ⟨b, o, rfl, hb, hc⟩ := hs.2 (by omega)
   obtain ⟨x, hx⟩ : ∃ x, l[k]? = some x := ⟨l[k]'(by omega), List.getElem?_eq_getElem (by omega)⟩
   have hcell := hc k (bv x) (by simp [hx])
   have Hx := Lib.hid hx; clear hx
   clear hc
   have hx256 : (x.toNat : Int) < 256 := by have := x.toNat_lt; omega
   have hd : (decide ((k : Int) < n)) = true := by simpa using hlt
   have hxor := u32_xor_nat acc x.toNat hacc (by omega)
   have Hxor := Lib.hid hxor; clear hxor
   repeat' (first | go_skip | go_guarded | go_step)
   rw [Hxor.out]
   go_loop [3, 16] (fun u3 u16 => ∃ (j a : Nat), j ≤ 8 ∧ a < 4294967296 ∧ u3 = .int .u32 (a : Int) ∧ u16 = .int .i64 (j : Int) ∧ bits8 (8 - j) a = crcB acc x.toNat) (fun _ u16 => 8 - (intOf u16).toNat)
   case atStart => exact ⟨0, acc ^^^ x.toNat, by omega, xor_lt32 hacc (by omega), rfl, rfl, rfl⟩
   case round =>
    obtain ⟨j, a, hj, ha, rfl, rfl, hbits⟩ := hrel
    have Hbits := Lib.hid hbits; clear hbits
    have hand := and_one ha
    by_cases hj8 : j < 8
    ·have hd8 : (decide ((j : Int) < 8)) = true := by simp; omega
     by_cases ho : a % 2 = 1
     ·have z1 : ((((a % 2 : Nat) : Int)) == 1) = true := by simp; omega
      repeat' (first | go_skip | go_guarded | go_step)
      refine ⟨⟨j + 1, (a / 2) ^^^ 3988292384, by omega, xor_lt32 (by omega) (by decide), ?_, by go_num, ?_⟩, by simp [intOf]; omega⟩
      ·rw [show ((a : Int) / 2) = ((a / 2 : Nat) : Int) by omega, show (3988292384 : Int) = ((3988292384 : Nat) : Int) from rfl, u32_xor_nat _ _ (by omega) (by decide)]
      ·rw [← Hbits.out, show 8 - j = (8 - (j + 1)) + 1 by omega, bits8, bitS, if_pos ho]
     ·have z1 : ((((a % 2 : Nat) : Int)) == 1) = false := by simp; omega
      repeat' (first | go_skip | go_guarded | go_step)
      refine ⟨⟨j + 1, a / 2, by omega, by omega, by go_num, by go_num, ?_⟩, by simp [intOf]; omega⟩
      rw [← Hbits.out, show 8 - j = (8 - (j + 1)) + 1 by omega, bits8, bitS, if_neg ho]
    ·repeat' (first | go_skip | go_guarded | go_step)
     refine ⟨⟨k + 1, a, by omega, ha, rfl, by go_num, ?_⟩, by simp [intOf]; omega⟩
     have := Hbits.out
     rw [show 8 - j = 0 by omega] at this
     rw [← Hcrc.out, crc_at Hx.out, ← this]
     rfl
  ·repeat' (first | go_skip | go_guarded | go_step)
   go_ret
   have e : acc = crcF 4294967295 l := by
    have := Hcrc.out
    rw [List.drop_of_length_le (by omega)] at this
    exact this
   refine ⟨ret_i ?_, rfl⟩
   have hn := not32 hacc
   simp only [IntKind.signed, Bool.false_eq_true, if_false] at hn ⊢
   rw [hn]
   unfold crc
   rw [← e]
   unfold wrap64; omega
theorem odd_xor {r c : Nat} {n : Nat} (h : r ^^^ c = n) : (((r : Int) % 2 == (c : Int) % 2) = decide (n % 2 = 0)) := by
 have h1 := xor_odd r c
 rw [h] at h1
 by_cases e : n % 2 = 0
 ·have : ¬ (r % 2 ≠ c % 2) := fun hh => by have := h1.2 hh; omega
  simp only [e, decide_true, beq_iff_eq]
  omega
 ·have : r % 2 ≠ c % 2 := h1.1 (by omega)
  simp only [e, decide_false]
  rw [beq_eq_false_iff_ne]
  omega
theorem rCheck_any (A : Option Addr) (n c : Nat) (l : List UInt8) (w : World) (B : Nat) (hl : l.length = n) (hm : n ≤ 1000000000) (hs : Seq w B 1 A n (l.map bv)) :
  Calls Tryz.prog 53 #[.slice A n c] w fun e w' => e = .returned (.int .i64 (crc l : Int)) ∧ w = w' := by
 go_enter Tryz.func53, Tryz.ntmps53
 repeat' (first | go_skip | go_guarded | go_step)
 go_loop [3, 4] (fun u3 u4 => ∃ (k acc : Nat), k ≤ n ∧ acc < 4294967296 ∧ u3 = .int .u64 (acc : Int) ∧ u4 = .int .i64 (k : Int) ∧ crcF acc (l.drop k) = crcF 4294967295 l) (fun _ u4 => n - (intOf u4).toNat)
 case atStart => exact ⟨0, 4294967295, by omega, by decide, rfl, rfl, rfl⟩
 case round =>
  obtain ⟨k, acc, hk, hacc, rfl, rfl, hcrc⟩ := hrel
  have Hcrc := Lib.hid hcrc; clear hcrc
  by_cases hlt : k < n
  ·obtain ⟨b, o, rfl, hb, hc⟩ := hs.2 (by omega)
   obtain ⟨x, hx⟩ : ∃ x, l[k]? = some x := ⟨l[k]'(by omega), List.getElem?_eq_getElem (by omega)⟩
   have hcell := hc k (bv x) (by simp [hx])
   have Hx := Lib.hid hx; clear hx
   clear hc
   have hx256 : (x.toNat : Int) < 256 := by have := x.toNat_lt; omega
   have hd : (decide ((k : Int) < n)) = true := by simpa using hlt
   repeat' (first | go_skip | go_guarded | go_step)
   go_loop [3, 5, 6] (fun u3 u5 u6 => ∃ (j r d : Nat), j ≤ 8 ∧ r < 4294967296 ∧ d * 2 ^ j < 256 ∧ u3 = .int .u64 (r : Int) ∧ u5 = .int .u64 (d : Int) ∧ u6 = .int .i64 (j : Int) ∧ bits8 (8 - j) (r ^^^ d) = crcB acc x.toNat) (fun _ _ u6 => 8 - (intOf u6).toNat)
   case atStart => exact ⟨0, acc, x.toNat, by omega, hacc, by omega, rfl, rfl, rfl, rfl⟩
   case round =>
    obtain ⟨j, r, d, hj, hr, hd2, rfl, rfl, rfl, hbits⟩ := hrel
    have Hbits := Lib.hid hbits; clear hbits
    have hd255 : d < 256 := Nat.lt_of_le_of_lt (Nat.le_mul_of_pos_right _ (Nat.two_pow_pos j)) hd2
    have hdn : d / 2 * 2 ^ (j + 1) < 256 := by
     have h2 := Nat.mul_le_mul (show d / 2 * 2 ≤ d by omega) (Nat.le_refl (2 ^ j))
     rw [Nat.pow_succ, Nat.mul_comm (2 ^ j), ← Nat.mul_assoc]
     omega
    have Hd2 := Lib.hid hd2; clear hd2
    have Hdn := Lib.hid hdn; clear hdn
    have hz := odd_xor (r := r) (c := d) rfl
    by_cases hj8 : j < 8
    ·have hd8 : (decide ((j : Int) < 8)) = true := by simp; omega
     by_cases ho : (r ^^^ d) % 2 = 1
     ·have hq : ((r : Int) % 2 == (d : Int) % 2) = false := by rw [hz]; exact decide_eq_false (by omega)
      have hq2 : ((r : Int) % 2 != (d : Int) % 2) = true := by simp only [bne, hq, Bool.not_false]
      have hO := Lib.hid ho
      clear hz ho
      repeat' (first | go_skip | go_guarded | go_step)
      refine ⟨⟨j + 1, (r / 2) ^^^ 3988292384, d / 2, by omega, xor_lt32 (by omega) (by decide), Hdn.out, ?_, by go_num, by go_num, ?_⟩, by simp [intOf]; omega⟩
      ·rw [show ((r : Int) / 2) = ((r / 2 : Nat) : Int) by omega, show (3988292384 : Int) = ((3988292384 : Nat) : Int) from rfl, bits_xor_u64_nat _ _ (by omega) (by decide)]
      ·rw [← Hbits.out, show 8 - j = (8 - (j + 1)) + 1 by omega, bits8, bitS, if_pos hO.out, xor_half]
       congr 1
       rw [Nat.xor_assoc, Nat.xor_assoc, Nat.xor_comm 3988292384]
     ·have hq : ((r : Int) % 2 == (d : Int) % 2) = true := by rw [hz]; exact decide_eq_true (by omega)
      have hq2 : ((r : Int) % 2 != (d : Int) % 2) = false := by simp only [bne, hq, Bool.not_true]
      have hO := Lib.hid ho
      clear hz ho
      repeat' (first | go_skip | go_guarded | go_step)
      refine ⟨⟨j + 1, r / 2, d / 2, by omega, by omega, Hdn.out, by go_num, by go_num, by go_num, ?_⟩, by simp [intOf]; omega⟩
      rw [← Hbits.out, show 8 - j = (8 - (j + 1)) + 1 by omega, bits8, bitS, if_neg hO.out, xor_half]
    ·repeat' (first | go_skip | go_guarded | go_step)
     refine ⟨⟨k + 1, r, by omega, hr, rfl, by go_num, ?_⟩, by simp [intOf]; omega⟩
     have := Hbits.out
     have hd0 := Hd2.out
     obtain rfl : j = 8 := by omega
     obtain rfl : d = 0 := by omega
     rw [Nat.xor_zero] at this
     rw [← Hcrc.out, crc_at Hx.out, ← this]
     rfl
  ·repeat' (first | go_skip | go_guarded | go_step)
   go_ret
   have e : acc = crcF 4294967295 l := by
    have := Hcrc.out
    rw [List.drop_of_length_le (by omega)] at this
    exact this
   refine ⟨ret_i ?_, rfl⟩
   unfold crc
   rw [← e]
   omega
theorem sum4_cells {k : Nat} (h : k < 4294967296) : (sum4 k).map bv = [Value.int IntKind.u8 ((k : Int) % 256), Value.int IntKind.u8 ((k : Int) / 256 % 256), Value.int IntKind.u8 ((k : Int) / 65536 % 256), Value.int IntKind.u8 ((k : Int) / 16777216)] := by
 unfold sum4 bv
 simp only [List.map_cons, List.map_nil]
 rw [byte_nat (by omega), byte_nat (by omega), byte_nat (by omega), byte_nat (by omega)]
 rw [show ((k % 256 : Nat) : Int) = (k : Int) % 256 by omega, show ((k / 256 % 256 : Nat) : Int) = (k : Int) / 256 % 256 by omega, show ((k / 65536 % 256 : Nat) : Int) = (k : Int) / 65536 % 256 by omega, show ((k / 16777216 % 256 : Nat) : Int) = (k : Int) / 16777216 by omega]
theorem checksum_any (A : Option Addr) (n c : Nat) (l : List UInt8) (w : World) (B : Nat) (hl : l.length = n) (hm : n ≤ 1000000000) (hs : Seq w B 1 A n (l.map bv)) :
  Calls Tryz.prog 51 #[.slice A n c] w fun e w' => ∃ A' c', e = .returned (.slice A' 4 c') ∧ Bytes w w' (.slice A' 4 c') (sum4 (crc l)) := by
 go_enter Tryz.func51, Tryz.ntmps51
 repeat' (first | go_skip | go_guarded | go_step)
 refine (check_any A n c l w B hl hm hs).mono ?_
 rintro e w1 ⟨he, rfl⟩
 obtain ⟨k, hkk⟩ : ∃ k, k = crc l := ⟨_, rfl⟩
 rw [← hkk] at he
 have hc := crc_lt l
 rw [← hkk] at hc
 replace hkk := Lib.hid hkk
 subst he
 dsimp only
 have hk : (k : Int) < 4294967296 := by omega
 repeat' (first | go_skip | go_guarded | go_step)
 go_ret
 refine ⟨_, _, rfl, ?_⟩
 rw [← hkk.out]
 have := Own.lit (Below.refl _ w) (cs := #[Value.int IntKind.u8 ((k : Int) % 256), Value.int IntKind.u8 ((k : Int) / 256 % 256), Value.int IntKind.u8 ((k : Int) / 65536 % 256), Value.int IntKind.u8 ((k : Int) / 16777216)]) (e := 5) (sz := 1) (n := 4) rfl (by omega)
 unfold Bytes
 rw [sum4_length, sum4_cells hc]
 exact this
def tk (l : List UInt8) : Nat × Nat × List UInt8 :=
 if (takeU l).2.2 ≠ 0 then ((takeU l).2.2, 0, [])
 else if (l.drop (takeU l).2.1).length < (takeU l).1 + 4 then (4, 0, [])
 else if ((l.drop (takeU l).2.1).drop (takeU l).1).take 4 ≠ sum4 (crc ((l.drop (takeU l).2.1).take (takeU l).1)) then (6, 0, [])
 else (0, (takeU l).2.1 + (takeU l).1 + 4, (l.drop (takeU l).2.1).take (takeU l).1)
inductive RdR : List UInt8 → List (List FV) → Nat → Int → Prop
 | nil : RdR [] [] 0 0
 | stop {l : List UInt8} : l ≠ [] → (tk l).1 ≠ 0 → RdR l [] 0 ((tk l).1 : Int)
 | bad {l : List UInt8} {c : Int} : l ≠ [] → (tk l).1 = 0 → DecR (tk l).2.2 (.inl c) → RdR l [] 0 c
 | more {l : List UInt8} {fs : List FV} {es : List (List FV)} {n : Nat} {c : Int} : l ≠ [] → (tk l).1 = 0 → DecR (tk l).2.2 (.inr fs) → RdR (l.drop (tk l).2.1) es n c → RdR l (fs :: es) ((tk l).2.1 + n) c
theorem RdR.uniq {l : List UInt8} {es es' : List (List FV)} {n n' : Nat} {c c' : Int} (h : RdR l es n c) (h' : RdR l es' n' c') : es = es' ∧ n = n' ∧ c = c' := by
  induction h generalizing es' n' c' with
  | nil => cases h' with
    | nil => exact ⟨rfl, rfl, rfl⟩
    | stop h1 => exact absurd rfl h1
    | bad h1 => exact absurd rfl h1
    | more h1 => exact absurd rfl h1
  | stop h1 h2 => cases h' with
    | nil => exact absurd rfl h1
    | stop _ _ => exact ⟨rfl, rfl, rfl⟩
    | bad _ k => exact absurd k h2
    | more _ k => exact absurd k h2
  | bad h1 h2 h3 => cases h' with
    | nil => exact absurd rfl h1
    | stop _ k => exact absurd h2 k
    | bad _ _ k => have := h3.uniq k; injection this with this; exact ⟨rfl, rfl, this⟩
    | more _ _ k => have := h3.uniq k; cases this
  | more h1 h2 h3 _ ih => cases h' with
    | nil => exact absurd rfl h1
    | stop _ k => exact absurd h2 k
    | bad _ _ k => have := h3.uniq k; cases this
    | more _ _ k k2 =>
      have := h3.uniq k
      injection this with this
      obtain ⟨a, b, c⟩ := ih k2
      exact ⟨by rw [this, a], by rw [b], c⟩
def RetTk (w : World) (l : List UInt8) (e : Ending) (w' : World) : Prop := ∃ (E : List Value) (k : Nat) (code : Int), e = .returned (.tuple #[.agg E.toArray, .int .i64 (k : Int), .int .i64 code]) ∧ Below w.heap.size w w' ∧
 ((code = 0 ∧ (tk l).1 = 0 ∧ k = (tk l).2.1 ∧ ∃ fs, DecR (tk l).2.2 (.inr fs) ∧ RecL evC w' (Fresh w w') fs E) ∨ (code ≠ 0 ∧ E = evZ ∧ (((tk l).1 ≠ 0 ∧ code = ((tk l).1 : Int)) ∨ ((tk l).1 = 0 ∧ DecR (tk l).2.2 (.inl code)))))
theorem run_res_three {P : Program} {fn : Func} {tmps : Array Value} {w : World} (slot s2 s3 : Nat) (ty : TypeId) (b o : Nat) (cs : List Value) (d : TypeDesc) (v u : Value) (hres : fn.results = #[.cell slot ty, .tmp s2, .tmp s3]) (ht : tmps[slot]?.getD undef = .pointer (some ⟨b, o, none⟩)) (hv : tmps[s2]?.getD undef = v) (hv2 : tmps[s3]?.getD undef = u) (hc : w.rangeAt b o cs)
  (hu : P.underlying ty = some d) (hd : d.isRow = true) (hi : (P.info? ty).map (·.size) = some cs.length) : (results fn tmps).run P w = .ok (.tuple #[.agg cs.toArray, v, u]) w := by
 have h := run_loadVar_mid (P := P) w b o ty cs d hc hu hd hi
 unfold results
 rw [hres]
 simp [asAddr, ht, h, hv, hv2, Result.andThen]
theorem yieldsIf_bytes_str {P : Program} {ops : Array Oper} {S : World → Prop} {op : Oper} {a : Act} (hw : Region.wanted op (yielded ops a.tmps) = true) {B n c : Nat} {A : Option Addr} {l : List UInt8} {src e dst : TypeId}
  (hs : P.underlying src = some (.slice e)) (he : P.underlying e = some (.int .u8)) (hd : P.underlying dst = some .string) (hS : ∀ w, S w → Seq w B 1 A n (l.map bv))
  {x : Operand} (ho : op.op = .convert src dst x) (hx : a.eval x = .slice A n c) : YieldsIf P ops S op (.string ⟨l.toArray⟩) a :=
 .inl ⟨hw, fun w hw' => by
  unfold execOp
  simp only [ho, hx, Sem.run_bind, Sem.run_pure, run_bytes_str (hS w hw') hs he hd, Result.andThen_ok]⟩
theorem tk_err {l : List UInt8} {a b k : Nat} (hT : takeU l = (a, b, k)) (hk : k ≠ 0) : tk l = (k, 0, []) := by
 unfold tk
 rw [hT, if_pos hk]
theorem tk_short {l : List UInt8} {a b : Nat} (hT : takeU l = (a, b, 0)) (h : l.length - b < a + 4) : tk l = (4, 0, []) := by
 unfold tk
 rw [hT, if_neg (by simp), if_pos (by rw [List.length_drop]; exact h)]
theorem tk_sum {l : List UInt8} {a b : Nat} (hT : takeU l = (a, b, 0)) (h : a + 4 ≤ l.length - b) (hs : ((l.drop b).drop a).take 4 ≠ sum4 (crc ((l.drop b).take a))) : tk l = (6, 0, []) := by
 unfold tk
 rw [hT, if_neg (by simp), if_neg (by rw [List.length_drop]; simp only; omega), if_pos hs]
theorem tk_ok {l : List UInt8} {a b : Nat} (hT : takeU l = (a, b, 0)) (h : a + 4 ≤ l.length - b) (hs : ((l.drop b).drop a).take 4 = sum4 (crc ((l.drop b).take a))) : tk l = (0, b + a + 4, (l.drop b).take a) := by
 unfold tk
 rw [hT, if_neg (by simp), if_neg (by rw [List.length_drop]; simp only; omega), if_neg (by simpa using hs)]
theorem ptake_any (l : List UInt8) (A : Option Addr) (n c : Nat) (w : World) (B : Nat) (hl : l.length = n) (hm : n ≤ 100000000) (hc : n ≤ c) (hB : B ≤ w.heap.size) (hs : Seq w B 1 A n (l.map bv)) : Calls Tryz.prog 54 #[.slice A n c] w (RetTk w l) := by
 subst hl
 go_enter Tryz.func54, Tryz.ntmps54
 go_upto_region 1 with (fail)
 generalize hx_ : World.alloc w _ = w1
 have hZ : Tgt w1 w.heap.size 0 evZ := by rw [← hx_]; exact Tgt.new w evZ.toArray _
 have hb1 : Below w.heap.size w w1 := by rw [← hx_]; exact (Below.refl _ _).alloc (Nat.le_refl _) _
 clear hx_
 have hs1 := hs.below (hb1.mono hB)
 have hiz : (Tryz.prog.info? 43).map (·.size) = some evZ.toArray.size := by kernel_rfl
 have hbt : ∀ a : Act, Tryz.prog.built 43 ((#[] : Array (Nat × Operand)).map fun (i, x) => (i, a.eval x)).toList = some evZ.toArray := fun _ => by kernel_rfl
 have hz1 := evZ_one
 have hz42 := evZ_len
 obtain ⟨Zc, hZc⟩ : ∃ Zc, Zc = evZ := ⟨_, rfl⟩
 rw [← hZc] at hZ hiz hz1 hz42
 simp only [← hZc] at hbt
 replace hiz := Lib.hid hiz
 replace hZc := Lib.hid hZc
 obtain ⟨a, b, k, hT⟩ : ∃ a b k, takeU l = (a, b, k) := ⟨_, _, _, rfl⟩
 have C := takeUint_any A l.length c l w1 B rfl (by omega) hs1
 rw [hT] at C
 have ha : a < 18446744073709551616 := by have := takeU_lt l; rw [hT] at this; exact this
 have hbl : k = 0 → 1 ≤ b ∧ b ≤ l.length := fun h => by have := takeU_len (l := l); rw [hT] at this; exact this h
 replace C := Lib.hid C
 replace hT := Lib.hid hT
 replace hbl := Lib.hid hbl
 repeat' (first | go_skip | go_guarded | go_step)
 refine C.out.mono ?_
 clear C
 unfold trip
 rintro e w2 ⟨rfl, rfl⟩
 dsimp only
 have hth := hZ.there (n := Zc.toArray.size) (Nat.le_refl _)
 have hfin : (w1.setCells w.heap.size 0 Zc.toArray.toList).rangeAt w.heap.size 0 Zc := World.rangeAt_setCells_same w1 w.heap.size 0 Zc hth
 have hbf : Below w.heap.size w (w1.setCells w.heap.size 0 Zc.toArray.toList) := setCells_below (Nat.le_refl _) _ _ _ hb1
 by_cases hk : k = 0
 ·subst hk
  obtain ⟨hb1', hb2'⟩ := hbl.out rfl
  clear hbl
  by_cases hma : l.length - b < a
  ·have hlt : (l.length : Int) - b < a := by omega
   repeat' (first | (refine wpList_build1 rfl 43 _ rfl (cells := Zc.toArray) (hbt _) ?_) | (refine wpList_store_mid rfl 43 _ _ rfl w.heap.size 0 Zc.toArray rfl rfl hth hiz.out hz1 ?_) | go_skip | go_guarded | go_step)
   refine bodyPost_ret (v := .tuple #[.agg Zc.toArray, .int .i64 0, .int .i64 4]) (run_res_three 2 3 4 43 w.heap.size 0 Zc _ _ _ rfl rfl rfl rfl hfin Tryz.underlying43 rfl hiz.out) rfl ?_
   exact ⟨Zc, 0, 4, rfl, hbf, Or.inr ⟨by decide, hZc.out, Or.inl ⟨by rw [tk_short hT.out (by omega)]; decide, by rw [tk_short hT.out (by omega)]; rfl⟩⟩⟩
  ·by_cases hma4 : l.length - b - a < 4
   ·have hlt : (a : Int) ≤ (l.length : Int) - b := by omega
    have hlt4 : (l.length : Int) - b - a < 4 := by omega
    repeat' (first | (refine wpList_build1 rfl 43 _ rfl (cells := Zc.toArray) (hbt _) ?_) | (refine wpList_store_mid rfl 43 _ _ rfl w.heap.size 0 Zc.toArray rfl rfl hth hiz.out hz1 ?_) | go_skip | go_guarded | go_step)
    refine bodyPost_ret (v := .tuple #[.agg Zc.toArray, .int .i64 0, .int .i64 4]) (run_res_three 2 3 4 43 w.heap.size 0 Zc _ _ _ rfl rfl rfl rfl hfin Tryz.underlying43 rfl hiz.out) rfl ?_
    exact ⟨Zc, 0, 4, rfl, hbf, Or.inr ⟨by decide, hZc.out, Or.inl ⟨by rw [tk_short hT.out (by omega)]; decide, by rw [tk_short hT.out (by omega)]; rfl⟩⟩⟩
   ·have hlt : (a : Int) ≤ (l.length : Int) - b := by omega
    have hlt4 : (4 : Int) ≤ (l.length : Int) - b - a := by omega
    go_upto_region 7 with (fail)
    have hs2' := hs1.cut (k := b) (cap := c) hb2' hc
    rw [Nat.mul_one, ← List.map_drop] at hs2'
    have hs2 : Seq w1 B 1 (if c = b then A else Option.map (fun x => x.add b) A) (l.length - b) ((l.drop b).map bv) := by simpa only [Nat.mul_one] using hs2'
    have hl1 : (l.drop b).length = l.length - b := List.length_drop
    have hc1 : l.length - b ≤ c - b := by omega
    have hn1 : a + 4 ≤ l.length - b := by omega
    have hnb : l.length - b ≤ 100000000 := by omega
    generalize (if c = b then A else Option.map (fun x => x.add b) A) = A1 at *
    generalize c - b = c1 at *
    clear hma hma4 hs1 hs hs2'
    generalize hn1' : l.length - b = n1 at *
    replace hn1' := Lib.hid hn1'
    have hx := seq_take hs2 (j := a) (by omega)
    have hy := hs2.sub1 (lo := a) (hi := a + 4) (by omega) hn1 hc1
    rw [← List.map_drop, ← List.map_take, show a + 4 - a = 4 by omega] at hy
    have hu4 : IntKind.u64.wrap ((a : Int) + 4) = (a : Int) + 4 := IntWalk.u64_in _ (by omega)
    have h4a : (a : Int) ≤ (a : Int) + 4 := by omega
    have h4n : (a : Int) + 4 ≤ n1 := by omega
    have h4c : (a : Int) + 4 ≤ c1 := by omega
    go_quiet (fail)
    rw [show a + 4 - a = 4 by omega]
    rw [if_neg (by omega)] at hy
    have hbq := Below.drewN w1 nq
    generalize w1.drewN nq = w2 at *
    generalize Option.map (fun x => x.add a) A1 = A2 at *
    have hBw : B ≤ w1.heap.size := Nat.le_trans hB hb1.size
    have hBw2 : B ≤ w2.heap.size := Nat.le_trans hBw hbq.size
    have hx2 := (hx.below (hbq.mono hBw)).more hBw2
    have hy2 := (hy.below (hbq.mono hBw)).more hBw2
    have hZ2 := hZ.below hbq
    have hbw2 : Below w.heap.size w w2 := hb1.trans (hbq.mono hb1.size)
    have hltw2 : w.heap.size < w2.heap.size := Nat.lt_of_lt_of_le hZ.lt hbq.size
    have hxl : ((l.drop b).take a).length = a := by rw [List.length_take, hl1]; omega
    clear hs2 hx hy hbq hZ hb1 hth hfin hbf hl1
    have htk : ((((l.drop b).drop a).take 4) = sum4 (crc ((l.drop b).take a)) → tk l = (0, b + a + 4, (l.drop b).take a)) ∧ ((((l.drop b).drop a).take 4) ≠ sum4 (crc ((l.drop b).take a)) → tk l = (6, 0, [])) := ⟨fun h => tk_ok hT.out (by have := hn1'.out; omega) h, fun h => tk_sum hT.out (by have := hn1'.out; omega) h⟩
    obtain ⟨X, hX⟩ : ∃ X, X = (l.drop b).take a := ⟨_, rfl⟩
    obtain ⟨Y, hY⟩ : ∃ Y, Y = ((l.drop b).drop a).take 4 := ⟨_, rfl⟩
    rw [← hX, ← hY] at htk
    rw [← hX] at hx2 hxl
    rw [← hY] at hy2
    replace htk := Lib.hid htk
    replace hxl := Lib.hid hxl
    clear hX hY
    go_upto_region 8 with (fail)
    have hS0 : (Below w2.heap.size w2 w2 ∧ True) := ⟨Below.refl _ _, trivial⟩
    have keepS : ∀ v1 v2 : World, (Below w2.heap.size w2 v1 ∧ True) → Below v1.heap.size v1 v2 → (Below w2.heap.size w2 v2 ∧ True) := fun v1 v2 h hb => ⟨h.1.trans (hb.mono h.1.size), trivial⟩
    have hS1 : (Below w2.heap.size w2 w2.drew ∧ True) := keepS _ _ hS0 ((Below.refl _ _).drew)
    replace keepS := Lib.hid keepS
    clear hS0
    refine wp_region_held_drew (S := fun w' => Below w2.heap.size w2 w' ∧ True) (by kernel_rfl) ?_ (fun hHeld => ?_)
    ·(try dsimp only)
     exact hS1
    refine tkQ 0 ?_
    refine tkV 1 (v := .string ⟨Y.toArray⟩) rfl (yieldsIf_bytes_str (by rfl) Tryz.underlying47 Tryz.underlying5 Tryz.underlying9 (fun v h => hy2.below h.1) rfl rfl) ?_
    refine tkQ 2 ?_
    refine rdO 3 fun K hK => ?_
    go_simp
    go_at_call 51
    refine (checksum_any A1 a c1 X _ w2.heap.size hxl.out (by omega) (hx2.below hHeld.1)).mono ?_
    rintro e z1 ⟨A3, c3, rfl, hCk⟩
    dsimp only
    have hbq := hCk.2
    have hsk := hCk.seq
    rw [sum4_length] at hsk
    refine hkO hK (keepS.out _ _ hHeld hbq) fun hHeld => ?_
    clear hK K
    refine rdO 4 fun K hK => ?_
    go_simp
    rw [run_bytes_str hsk Tryz.underlying47 Tryz.underlying5 Tryz.underlying9]
    simp only [Result.andThen, Oper.upon]
    have hbq := Below.refl z1.heap.size z1
    refine hkO hK (keepS.out _ _ hHeld hbq) fun hHeld => ?_
    clear hK K
    refine tkQ 5 ?_
    refine wpAnyH_done (by kernel_rfl) ?_ _
    have hbW := hHeld.1
    clear hHeld hS1 keepS
    have hZ3 := hZ2.below hbW
    have hbw3 : Below w.heap.size w z1 := hbw2.trans (hbW.mono hbw2.size)
    by_cases hse : Y = sum4 (crc X)
    ·have hq : (Y == sum4 (crc X)) = true := by rw [hse]; exact beq_self_eq_true _
     simp only [hq, Bool.not_true]
     clear hq
     have ht := Lib.hid (htk.out.1 hse)
     have hx3 := (hx2.below hbW).more hbW.size
     have C := pdec_any X A1 a c1 z1 z1.heap.size hxl.out (by omega) (by omega) (Nat.le_refl _) hx3
     replace C := Lib.hid C
     replace hse := Lib.hid hse
     clear hx2 hy2 hx3 hsk hCk hZ2 hbW
     repeat' (first | go_skip | go_guarded | go_step)
     refine C.out.mono ?_
     clear C
     rintro e w4 ⟨E, code, rfl, hb4, hcase⟩
     dsimp only
     have hE42 : E.length = 42 := by
      rcases hcase with ⟨_, fs, _, hR⟩ | ⟨_, _, rfl⟩
      ·exact (hR.len evC_ok).1
      ·exact evZ_len
     have hE1 : E.toArray.all (·.oneCell') = true := by
      rcases hcase with ⟨_, fs, _, hR⟩ | ⟨_, _, rfl⟩
      ·simpa using hR.one evC_ok
      ·exact evZ_one
     replace hcase := Lib.hid hcase
     have hiE := Lib.hid (ev_info hE42)
     replace hE42 := Lib.hid hE42
     have hZ4 := hZ3.below hb4
     have hbw4 : Below w.heap.size w w4 := hbw3.trans (hb4.mono hbw3.size)
     have hT : Tgt (w4.alloc (.cells evZ.toArray 43)) w4.heap.size 0 evZ := Tgt.new w4 evZ.toArray _
     have hb5 : Below w4.heap.size w4 (w4.alloc (.cells evZ.toArray 43)) := (Below.refl _ _).alloc (Nat.le_refl _) _
     have hthT := hT.there (n := E.toArray.size) (by rw [List.size_toArray, hE42.out]; decide)
     have hA : ((w4.alloc (.cells evZ.toArray 43)).setCells w4.heap.size 0 E.toArray.toList).rangeAt w4.heap.size 0 E := World.rangeAt_setCells_same _ w4.heap.size 0 E hthT
     have hbE : Below w4.heap.size w4 ((w4.alloc (.cells evZ.toArray 43)).setCells w4.heap.size 0 E.toArray.toList) := setCells_below (Nat.le_refl _) _ _ _ hb5
     go_upto_region 11 with (first | (refine wpList_store_mid rfl 43 _ _ rfl w4.heap.size 0 E.toArray rfl rfl hthT hiE.out hE1 ?_))
     generalize hx_ : World.setCells _ _ _ _ = w5
     have hx2 : (w4.alloc (.cells evZ.toArray 43)).setCells w4.heap.size 0 E.toArray.toList = w5 := hx_
     rw [hx2] at hA hbE
     clear hx2 hx_ hthT hT hb5
     have hZ5 := hZ4.below hbE
     have hbw5 : Below w.heap.size w w5 := hbw4.trans (hbE.mono hbw4.size)
     have hth5 := hZ5.there (n := E.toArray.size) (by rw [List.size_toArray, hE42.out, hz42]; exact Nat.le_refl _)
     have hfin5 : (w5.setCells w.heap.size 0 E.toArray.toList).rangeAt w.heap.size 0 E := World.rangeAt_setCells_same w5 w.heap.size 0 E hth5
     have hbf5 : Below w.heap.size w (w5.setCells w.heap.size 0 E.toArray.toList) := setCells_below (Nat.le_refl _) _ _ _ hbw5
     have hltz : w.heap.size < z1.heap.size := hZ3.lt
     repeat' (first | (refine wpList_load_mid rfl 43 _ rfl w4.heap.size 0 rfl E _ hA Tryz.underlying43 rfl hiE.out ?_) | (refine wpList_store_mid rfl 43 _ _ rfl w.heap.size 0 E.toArray rfl rfl hth5 hiE.out hE1 ?_) | go_skip | go_guarded | go_step)
     refine bodyPost_ret (v := .tuple #[.agg E.toArray, .int .i64 ((b : Int) + a + 4), .int .i64 code]) (run_res_three 2 3 4 43 w.heap.size 0 E _ _ _ rfl rfl rfl rfl hfin5 Tryz.underlying43 rfl hiE.out) rfl ?_
     refine ⟨E, b + a + 4, code, by rw [show ((b + a + 4 : Nat) : Int) = (b : Int) + a + 4 by omega], hbf5, ?_⟩
     rcases hcase.out with ⟨h0, fs, h1, hR⟩ | ⟨h0, h1, h2⟩
     ·refine Or.inl ⟨h0, by rw [ht.out], by rw [ht.out], fs, by rw [ht.out]; exact h1, ?_⟩
      refine hR.map evC_ok (fun p hp => ?_) (fun b hb => ⟨?_, ?_⟩)
      ·have hp1 : p.block < w4.heap.size := hp.2
       have hp0 : z1.heap.size ≤ p.block := hp.1
       exact (World.cell?_setCells_out w.heap.size E.toArray.toList 0 w5 p (fun h => absurd h (by omega))).trans (hbE.cell hp1)
      ·have hp0 : z1.heap.size ≤ b := hb.1
       omega
      ·have hp1 : b < w4.heap.size := hb.2
       rw [setCells_size2]
       exact Nat.lt_of_lt_of_le hp1 hbE.size
     ·exact Or.inr ⟨h0, h2, Or.inr ⟨by rw [ht.out], by rw [ht.out]; exact h1⟩⟩
    ·have hq : (Y == sum4 (crc X)) = false := by rw [beq_eq_false_iff_ne]; exact hse
     simp only [hq, Bool.not_false]
     clear hq
     have ht := Lib.hid (htk.out.2 hse)
     clear hx2 hy2 hsk hCk hZ2 hbW
     have hth := hZ3.there (n := Zc.toArray.size) (Nat.le_refl _)
     have hfin : (z1.setCells w.heap.size 0 Zc.toArray.toList).rangeAt w.heap.size 0 Zc := World.rangeAt_setCells_same z1 w.heap.size 0 Zc hth
     have hbf : Below w.heap.size w (z1.setCells w.heap.size 0 Zc.toArray.toList) := setCells_below (Nat.le_refl _) _ _ _ hbw3
     repeat' (first | (refine wpList_build1 rfl 43 _ rfl (cells := Zc.toArray) (hbt _) ?_) | (refine wpList_store_mid rfl 43 _ _ rfl w.heap.size 0 Zc.toArray rfl rfl hth hiz.out hz1 ?_) | go_skip | go_guarded | go_step)
     refine bodyPost_ret (v := .tuple #[.agg Zc.toArray, .int .i64 0, .int .i64 6]) (run_res_three 2 3 4 43 w.heap.size 0 Zc _ _ _ rfl rfl rfl rfl hfin Tryz.underlying43 rfl hiz.out) rfl ?_
     exact ⟨Zc, 0, 6, rfl, hbf, Or.inr ⟨by decide, hZc.out, Or.inl ⟨by rw [ht.out]; decide, by rw [ht.out]; rfl⟩⟩⟩
 ·have hk0 : ((k : Int) == 0) = false := by simp; omega
  have hk1 : ((k : Int) != 0) = true := by simp; omega
  repeat' (first | (refine wpList_build1 rfl 43 _ rfl (cells := Zc.toArray) (hbt _) ?_) | (refine wpList_store_mid rfl 43 _ _ rfl w.heap.size 0 Zc.toArray rfl rfl hth hiz.out hz1 ?_) | go_skip | go_guarded | go_step)
  refine bodyPost_ret (v := .tuple #[.agg Zc.toArray, .int .i64 0, .int .i64 (k : Int)]) (run_res_three 2 3 4 43 w.heap.size 0 Zc _ _ _ rfl rfl rfl rfl hfin Tryz.underlying43 rfl hiz.out) rfl ?_
  exact ⟨Zc, 0, (k : Int), rfl, hbf, Or.inr ⟨by omega, hZc.out, Or.inl ⟨by rw [tk_err hT.out hk]; exact hk, by rw [tk_err hT.out hk]⟩⟩⟩
theorem wpList_slice1 {P : Program} {ops : Array Oper} {rest : List Oper} {o : Oper} {a : Act} {w : World} {Q : Exit → Act → World → Prop} (hg : o.guard = none) (t e : TypeId) (x : Operand) (ho : o.op = .buildSlice t 1 #[(0, x)]) (E : List Value) (hx : a.eval x = .agg E.toArray)
  (hu : P.underlying t = some (.slice e)) (hsz : (P.info? e).map (·.size) = some E.length) (hz : ((P.info? e).bind (·.zero)).isSome = true) (hpos : 0 < E.length) (hsmall : E.length ≤ 1000)
  (h : wpList P ops Q rest (a.put o.dst (.slice (some ⟨w.heap.size, 0, none⟩) 1 1)) (w.alloc (.cells E.toArray e))) : wpList P ops Q (o :: rest) a w := by
 cases hie : P.info? e with
 | none => simp [hie] at hsz
 | some ie =>
  simp only [hie, Option.map_some, Option.some.injEq, Option.bind_some] at hsz hz
  obtain ⟨z, hzz⟩ := Option.isSome_iff_exists.1 hz
  refine wpList_buildSlice hg t e 1 #[(0, x)] ho _ ie z hu hie hzz (by rw [hsz]; omega) (by rw [hsz]; omega) ?_ h
  have hp : ((#[(0, x)] : Array (Nat × Operand)).map fun (i, x) => (i, a.eval x)).toList = (([.agg E.toArray] : List Value).zipIdx 0).map fun x => (x.2, x.1) := by simp [hx]
  rw [hp, hsz]
  rw [Great.fill_whole hpos [.agg E.toArray] _ (fun v hv => by rw [List.mem_singleton.1 hv]; simp [Value.cells]) (by simp)]
  simp [Value.cells]
theorem ev_inf : Info Tryz.prog 43 (.agg evZ.toArray) 42 584 := by unfold Info; kernel_rfl
theorem rEvR_ok : RdOk rEvR := fun _ _ _ _ _ _ hk hS h => ⟨h.1.map evC_ok hk hS, h.2⟩
theorem EvQ.up {w z : World} {A : Option Addr} {n c : Nat} {L : List (List FV)} (h : EvQ w A n c L) (hb : Below w.heap.size w z) : EvQ z A n c L := (RSlice.below rEvR_ok h hb).more rEvR_ok (fun _ hb' => Nat.lt_of_lt_of_le hb' hb.size)
def RetRd (w : World) (l : List UInt8) (e : Ending) (w' : World) : Prop := ∃ (A : Option Addr) (c : Nat) (es : List (List FV)) (n : Nat) (code : Int), e = .returned (.tuple #[.slice A es.length c, .int .i64 (n : Int), .int .i64 code]) ∧ RdR l es n code ∧ EvQ w' A es.length c es ∧ Below w.heap.size w w'
theorem tk_len {l : List UInt8} (h : (tk l).1 = 0) : 5 ≤ (tk l).2.1 ∧ (tk l).2.1 ≤ l.length ∧ (tk l).2.2.length ≤ l.length := by
 obtain ⟨a, b, k, hT⟩ : ∃ a b k, takeU l = (a, b, k) := ⟨_, _, _, rfl⟩
 by_cases hk : k = 0
 ·subst hk
  have hb := takeU_len (l := l) (by rw [hT])
  rw [hT] at hb
  by_cases h4 : l.length - b < a + 4
  ·rw [tk_short hT h4] at h; cases h
  ·by_cases hs : ((l.drop b).drop a).take 4 = sum4 (crc ((l.drop b).take a))
   ·rw [tk_ok hT (by omega) hs]
    simp only [List.length_take, List.length_drop] at hb ⊢
    omega
   ·rw [tk_sum hT (by omega) hs] at h; cases h
 ·rw [tk_err hT hk] at h
  exact absurd h hk
theorem dec_small {x : List UInt8} {fs : List FV} (h : DecR x (.inr fs)) : lsz fs ≤ x.length := (dec_back h).2.2
theorem pread_any (l : List UInt8) (A : Option Addr) (n c : Nat) (w : World) (hl : l.length = n) (hm : n ≤ 100000000) (hc : n ≤ c) (hs : Seq w w.heap.size 1 A n (l.map bv)) : Calls Tryz.prog 23 #[.slice A n c] w (RetRd w l) := by
 subst hl
 go_enter Tryz.func23, Tryz.ntmps23
 repeat' (first | go_skip | go_guarded | go_step)
 go_loopw [5, 6] (fun u5 u6 wr => ∃ (es : List (List FV)) (k : Nat), k ≤ l.length ∧ u6 = .int .i64 (k : Int) ∧ OwnR rEvR 42 w wr 43 u5 es ∧ es.length ≤ k ∧ (∀ es2 m q, RdR (l.drop k) es2 m q → RdR l (es ++ es2) (k + m) q)) (fun _ u6 _ => l.length - (intOf u6).toNat)
 case atStart => exact ⟨[], 0, by omega, rfl, OwnR.nil w _, by simp, fun es2 m q h => by simpa using h⟩
 case round =>
  obtain ⟨es, k, hk, rfl, hO, hlen, himp⟩ := hrel
  have himp := Lib.hid himp
  obtain ⟨A5, c5, rfl⟩ := hO.form
  by_cases hlt : k < l.length
  ·have hd : (decide ((k : Int) < l.length)) = true := by simp; omega
   have hbr := hO.bel
   have hcut := Seq.cut ((hs.below hbr).more hbr.size) (k := k) (cap := c) hk hc
   have hcut : Seq wr wr.heap.size 1 (if c = k then A else Option.map (fun x => x.add k) A) (l.length - k) ((l.drop k).map bv) := by simpa only [Nat.mul_one, ← List.map_drop] using hcut
   rw [if_neg (by omega)] at hcut
   have C := ptake_any (l.drop k) _ (l.length - k) (c - k) wr wr.heap.size List.length_drop (by omega) (by omega) (Nat.le_refl _) hcut
   have hne : l.drop k ≠ [] := fun h => by have := congrArg List.length h; rw [List.length_drop] at this; simp only [List.length_nil] at this; omega
   replace C := Lib.hid C
   replace hne := Lib.hid hne
   clear hcut
   have hkc : (k : Int) ≤ (c : Int) := by omega
   repeat' (first | go_skip | go_guarded | go_step)
   refine C.out.mono ?_
   clear C
   rintro e w2 ⟨E, tn, code, rfl, hb2, hcase⟩
   dsimp only
   have hE42 : E.length = 42 := by
    rcases hcase with ⟨_, _, _, fs, _, hR⟩ | ⟨_, rfl, _⟩
    ·exact (hR.len evC_ok).1
    ·exact evZ_len
   have hE1 : E.toArray.all (·.oneCell') = true := by
    rcases hcase with ⟨_, _, _, fs, _, hR⟩ | ⟨_, rfl, _⟩
    ·simpa using hR.one evC_ok
    ·exact evZ_one
   replace hcase := Lib.hid hcase
   have hiE := Lib.hid (ev_info hE42)
   replace hE42 := Lib.hid hE42
   have hbw2 : Below w.heap.size w w2 := hbr.trans (hb2.mono hbr.size)
   have hT : Tgt (w2.alloc (.cells evZ.toArray 43)) w2.heap.size 0 evZ := Tgt.new w2 evZ.toArray _
   have hb5 : Below w2.heap.size w2 (w2.alloc (.cells evZ.toArray 43)) := (Below.refl _ _).alloc (Nat.le_refl _) _
   have hthT := hT.there (n := E.toArray.size) (by rw [List.size_toArray, hE42.out]; decide)
   have hA : ((w2.alloc (.cells evZ.toArray 43)).setCells w2.heap.size 0 E.toArray.toList).rangeAt w2.heap.size 0 E := World.rangeAt_setCells_same _ w2.heap.size 0 E hthT
   have hbE : Below w2.heap.size w2 ((w2.alloc (.cells evZ.toArray 43)).setCells w2.heap.size 0 E.toArray.toList) := setCells_below (Nat.le_refl _) _ _ _ hb5
   go_upto_region 5 with (first | (refine wpList_store_mid rfl 43 _ _ rfl w2.heap.size 0 E.toArray rfl rfl hthT hiE.out hE1 ?_))
   generalize hx_ : World.setCells _ _ _ _ = w3
   have hx2 : (w2.alloc (.cells evZ.toArray 43)).setCells w2.heap.size 0 E.toArray.toList = w3 := hx_
   rw [hx2] at hA hbE
   clear hx2 hx_ hthT hT hb5
   have hb23 : Below wr.heap.size wr w3 := hb2.trans (hbE.mono hb2.size)
   by_cases h0 : code = 0
   ·obtain ⟨ht1, rfl, fs, hD, hR⟩ : (tk (l.drop k)).1 = 0 ∧ tn = (tk (l.drop k)).2.1 ∧ ∃ fs, DecR (tk (l.drop k)).2.2 (.inr fs) ∧ RecL evC w2 (Fresh wr w2) fs E := by
     rcases hcase.out with ⟨_, h1, h2, h3⟩ | ⟨h1, _⟩
     ·exact ⟨h1, h2, h3⟩
     ·exact absurd h0 h1
    have htl := tk_len ht1
    have hsz := dec_small hD
    have hstep : ∀ es2 m q, RdR (l.drop (k + (tk (l.drop k)).2.1)) es2 m q → RdR l ((es ++ [fs]) ++ es2) (k + (tk (l.drop k)).2.1 + m) q := fun es2 m q h => by
     have h2 := himp.out (fs :: es2) _ _ (RdR.more hne.out ht1 hD (by rw [List.drop_drop]; exact h))
     rw [List.append_assoc, Nat.add_assoc]
     exact h2
    rw [List.length_drop] at htl
    have hx : rEvR w3 (Beh w3 (.slice A5 es.length c5)) fs E.toArray.toList := ⟨hR.map evC_ok (fun p hp => hbE.cell hp.2) (fun b hb => beh_lo hO hb.1 (Nat.lt_of_lt_of_le hb.2 hbE.size)), by omega⟩
    subst h0
    replace hstep := Lib.hid hstep
    generalize (tk (l.drop k)).2.1 = tn at *
    have hnb : (es.length + 1) * 584 ≤ 140737488355328 := by omega
    clear hcase ht1 hD hR hsz
    repeat' ((fail_if_success at_builtin); (first | (refine wpList_load_mid rfl 43 _ rfl w2.heap.size 0 rfl E _ hA Tryz.underlying43 rfl hiE.out ?_) | (refine wpList_slice1 rfl 58 43 _ rfl E rfl Tryz.underlying58 hiE.out (by kernel_rfl) (by rw [hE42.out]; decide) (by rw [hE42.out]; decide) ?_) | go_skip | go_guarded | go_step))
    refine wp_appR1 rEvR_ok hO hb23 hx Tryz.underlying58 ev_inf hnb ?_ (hcs := by rw [List.size_toArray]; exact hE42.out) (h1 := by simpa using hE1)
    intro v5 w5 hO5
    obtain ⟨A6, c6, rfl⟩ := hO5.form
    repeat' (first | go_skip | go_guarded | go_step)
    go_roundw
    case rel => exact ⟨es ++ [fs], k + tn, by omega, by go_num, (by rw [List.length_append] at hO5; exact hO5), by rw [List.length_append]; simp only [List.length_cons, List.length_nil]; omega, hstep.out⟩
    case measure => simp [intOf]; omega
   ·have z1 : (code == 0) = false := by simpa using h0
    have z2 : (code != 0) = true := by simpa using h0
    have hlast : RdR (l.drop k) [] 0 code := by
     rcases hcase.out with ⟨h1, _⟩ | ⟨_, _, ⟨h1, h2⟩ | ⟨h1, h2⟩⟩
     ·exact absurd h1 h0
     ·rw [h2]; exact RdR.stop hne.out h1
     ·exact RdR.bad hne.out h1 h2
    have hfin := himp.out [] 0 code hlast
    rw [List.append_nil, Nat.add_zero] at hfin
    replace hfin := Lib.hid hfin
    clear hlast hcase
    repeat' (first | go_skip | go_guarded | go_step)
    go_ret3
    exact ⟨A5, c5, es, k, code, rfl, hfin.out, (EvQ.up (hO.slice rEvR_ok) hb23), hbr.trans (hb23.mono hbr.size)⟩
  ·have hd : (decide ((k : Int) < l.length)) = false := by simp; omega
   have hfin := himp.out [] 0 0 (by rw [List.drop_of_length_le (by omega)]; exact RdR.nil)
   rw [List.append_nil, Nat.add_zero] at hfin
   replace hfin := Lib.hid hfin
   have hk0 : k = l.length := by omega
   repeat' (first | go_skip | go_guarded | go_step)
   go_ret3
   exact ⟨A5, c5, es, k, 0, rfl, hfin.out, (hO.slice rEvR_ok), hO.bel⟩
def nm4 (d0 d1 d2 d3 : UInt8) : Nat → Nat
 | 0 => num4 d0 d1 d2 d3
 | 1 => d1.toNat + 256 * (d2.toNat + 256 * d3.toNat)
 | 2 => d2.toNat + 256 * d3.toNat
 | 3 => d3.toNat
 | _ => 0
theorem nm4_step {d0 d1 d2 d3 d : UInt8} : ∀ {i : Nat}, [d0, d1, d2, d3][i]? = some d → nm4 d0 d1 d2 d3 i = 256 * nm4 d0 d1 d2 d3 (i + 1) + d.toNat
 | 0, h => by injection h with h; subst h; show num4 d0 d1 d2 d3 = 256 * (d1.toNat + 256 * (d2.toNat + 256 * d3.toNat)) + d0.toNat; unfold num4; omega
 | 1, h => by injection h with h; subst h; show d1.toNat + 256 * (d2.toNat + 256 * d3.toNat) = 256 * (d2.toNat + 256 * d3.toNat) + d1.toNat; omega
 | 2, h => by injection h with h; subst h; show d2.toNat + 256 * d3.toNat = 256 * d3.toNat + d2.toNat; omega
 | 3, h => by injection h with h; subst h; show d3.toNat = 256 * 0 + d3.toNat; omega
 | _ + 4, h => by cases h
theorem nm4_lt {d0 d1 d2 d3 : UInt8} (j : Nat) : nm4 d0 d1 d2 d3 j < 4294967296 := by
 have h0 := d0.toNat_lt
 have h1 := d1.toNat_lt
 have h2 := d2.toNat_lt
 have h3 := d3.toNat_lt
 unfold nm4
 split
 ·unfold num4; omega
 all_goals omega
theorem list4 {α : Type} {l : List α} (h : l.length = 4) : ∃ a b c d, l = [a, b, c, d] := by
 match l, h with
 | [a, b, c, d], _ => exact ⟨a, b, c, d, rfl⟩
theorem sum4_iff {d0 d1 d2 d3 : UInt8} {x : Nat} (hx : x < 4294967296) : [d0, d1, d2, d3] = sum4 x ↔ x = num4 d0 d1 d2 d3 := by
 have hn : num4 d0 d1 d2 d3 < 4294967296 := nm4_lt 0
 rw [← sum4_num4]
 exact ⟨fun h => (sum4_inj hn hx h).symm, fun h => by rw [h]⟩
theorem rread_any (l : List UInt8) (A : Option Addr) (n c : Nat) (w : World) (hl : l.length = n) (hm : n ≤ 100000000) (hc : n ≤ c) (hs : Seq w w.heap.size 1 A n (l.map bv)) : Calls Tryz.prog 24 #[.slice A n c] w (RetRd w l) := by
 subst hl
 go_enter Tryz.func24, Tryz.ntmps24
 repeat' (first | go_skip | go_guarded | go_step)
 go_loopw [5, 6] (fun u5 u6 wr => ∃ (es : List (List FV)) (k : Nat), k ≤ l.length ∧ u6 = .int .i64 (k : Int) ∧ OwnR rEvR 42 w wr 43 u5 es ∧ es.length ≤ k ∧ (∀ es2 m q, RdR (l.drop k) es2 m q → RdR l (es ++ es2) (k + m) q)) (fun _ u6 _ => l.length - (intOf u6).toNat)
 case atStart => exact ⟨[], 0, by omega, rfl, OwnR.nil w _, by simp, fun es2 m q h => by simpa using h⟩
 case round =>
  obtain ⟨es, k, hk, rfl, hO, hlen, himp⟩ := hrel
  have himp := Lib.hid himp
  obtain ⟨A5, c5, rfl⟩ := hO.form
  by_cases hlt : k < l.length
  ·have hd : (decide ((k : Int) < l.length)) = true := by simp; omega
   have hbr := hO.bel
   have hsr := (hs.below hbr).more hbr.size
   have hcut := Seq.cut hsr (k := k) (cap := c) hk hc
   have hcut : Seq wr wr.heap.size 1 (if c = k then A else Option.map (fun x => x.add k) A) (l.length - k) ((l.drop k).map bv) := by simpa only [Nat.mul_one, ← List.map_drop] using hcut
   rw [if_neg (by omega)] at hcut
   have hne : l.drop k ≠ [] := fun h => by have := congrArg List.length h; rw [List.length_drop] at this; simp only [List.length_nil] at this; omega
   obtain ⟨a, b, q, hT⟩ : ∃ a b q, takeU (l.drop k) = (a, b, q) := ⟨_, _, _, rfl⟩
   have C := rTakeUint_any _ (l.length - k) (c - k) (l.drop k) wr wr.heap.size List.length_drop (by omega) hcut
   rw [hT] at C
   have ha : a < 18446744073709551616 := by have := takeU_lt (l.drop k); rw [hT] at this; exact this
   have hbl : q = 0 → 1 ≤ b ∧ b ≤ l.length - k := fun h => by have := takeU_len (l := l.drop k); rw [hT, List.length_drop] at this; exact this h
   replace C := Lib.hid C
   replace hT := Lib.hid hT
   replace hbl := Lib.hid hbl
   replace hne := Lib.hid hne
   clear hcut
   have hkc : (k : Int) ≤ (c : Int) := by omega
   repeat' (first | go_skip | go_guarded | go_step)
   refine C.out.mono ?_
   clear C
   unfold trip
   rintro e w2 ⟨rfl, rfl⟩
   dsimp only
   by_cases hq0 : q = 0
   ·subst hq0
    obtain ⟨hb1, hb2⟩ := hbl.out rfl
    clear hbl
    by_cases h4 : l.length - k - b < 4
    ·have hlt4 : (l.length : Int) - k - b < 4 := by omega
     have htk : tk (l.drop k) = (4, 0, []) := tk_short hT.out (by rw [List.length_drop]; omega)
     replace htk := Lib.hid htk
     have hlast : RdR (l.drop k) [] 0 (4) := by
      have h9 := RdR.stop hne.out (by rw [htk.out]; decide)
      rw [htk.out] at h9
      exact h9
     have hfin := himp.out [] 0 _ hlast
     rw [List.append_nil, Nat.add_zero] at hfin
     replace hfin := Lib.hid hfin
     clear hlast
     repeat' (first | go_skip | go_guarded | go_step)
     go_ret3
     exact ⟨A5, c5, es, k, _, rfl, hfin.out, (hO.slice rEvR_ok), hbr⟩
    ·have hlt4 : (4 : Int) ≤ (l.length : Int) - k - b := by omega
     have hu4 : IntKind.u64.wrap ((l.length : Int) - k - b - 4) = (l.length : Int) - k - b - 4 := IntWalk.u64_in _ (by omega)
     by_cases hna : l.length - k - b - 4 < a
     ·have hgt : (l.length : Int) - k - b - 4 < (a : Int) := by omega
      have htk : tk (l.drop k) = (4, 0, []) := tk_short hT.out (by rw [List.length_drop]; omega)
      replace htk := Lib.hid htk
      have hlast : RdR (l.drop k) [] 0 (4) := by
       have h9 := RdR.stop hne.out (by rw [htk.out]; decide)
       rw [htk.out] at h9
       exact h9
      have hfin := himp.out [] 0 _ hlast
      rw [List.append_nil, Nat.add_zero] at hfin
      replace hfin := Lib.hid hfin
      clear hlast
      repeat' (first | go_skip | go_guarded | go_step)
      go_ret3
      exact ⟨A5, c5, es, k, _, rfl, hfin.out, (hO.slice rEvR_ok), hbr⟩
     ·have hle : (a : Int) ≤ (l.length : Int) - k - b - 4 := by omega
      have hi64 : IntKind.i64.wrap (a : Int) = (a : Int) := IntWalk.i64_in _ (by omega)
      obtain ⟨f, hf⟩ : ∃ f, f = k + b := ⟨_, rfl⟩
      obtain ⟨m, hm_⟩ : ∃ m, m = f + a := ⟨_, rfl⟩
      have hml : m + 4 ≤ l.length := by omega
      have hkm : k + 1 ≤ m := by omega
      have hfm : (f : Int) ≤ (m : Int) := by omega
      have hmc : (m : Int) ≤ (c : Int) := by omega
      have hfi := Lib.hid (show (k : Int) + b = (f : Int) by omega)
      have hmi := Lib.hid (show (f : Int) + a = (m : Int) by omega)
      replace hf := Lib.hid hf
      replace hm_ := Lib.hid hm_
      go_upto_region 11 with (fail)
      rw [hfi.out]
      go_upto_region 12 with (fail)
      rw [hmi.out]
      replace hf := hf.out
      replace hm_ := hm_.out
      have hX : ((l.drop k).drop b).take a = (l.drop f).take a := by rw [List.drop_drop, hf]
      have hX4 : (((l.drop k).drop b).drop a).take 4 = (l.drop m).take 4 := by rw [List.drop_drop, List.drop_drop, show k + (b + a) = m by omega]
      obtain ⟨d0, d1, d2, d3, hD⟩ := list4 (l := (l.drop m).take 4) (by rw [List.length_take, List.length_drop]; omega)
      have hok : [d0, d1, d2, d3] = sum4 (crc ((l.drop f).take a)) → tk (l.drop k) = (0, b + a + 4, (l.drop f).take a) := fun h => by rw [← hX]; exact tk_ok hT.out (by rw [List.length_drop]; omega) (by rw [hX4, hX, hD]; exact h)
      have hno : [d0, d1, d2, d3] ≠ sum4 (crc ((l.drop f).take a)) → tk (l.drop k) = (6, 0, []) := fun h => tk_sum hT.out (by rw [List.length_drop]; omega) (by rw [hX4, hX, hD]; exact h)
      have hsx := hsr.sub1 (lo := f) (hi := m) (by omega) (by omega) hc
      rw [← List.map_drop, ← List.map_take, if_neg (by omega)] at hsx
      have hXa : (l.drop f).take (m - f) = (l.drop f).take a := by rw [show m - f = a by omega]
      rw [hXa] at hsx
      have hXl : ((l.drop f).take a).length = m - f := by rw [List.length_take, List.length_drop]; omega
      obtain ⟨X, hXX⟩ : ∃ X, X = (l.drop f).take a := ⟨_, rfl⟩
      rw [← hXX] at hok hno hsx hXl
      replace hok := Lib.hid hok
      replace hno := Lib.hid hno
      replace hXl := Lib.hid hXl
      replace hD := Lib.hid hD
      replace hT := Lib.hid hT
      replace hf := Lib.hid hf
      replace hm_ := Lib.hid hm_
      clear hX hX4 hXX hXa hfi hmi hle hlt4 hu4 hi64
      have hcr : crc X < 4294967296 := crc_lt X
      obtain ⟨g0, o0, rfl, hg0, hc0⟩ := hsr.2 (by omega)
      replace hc0 := Lib.hid hc0
      have hsx : Seq wr wr.heap.size 1 (some ⟨g0, o0 + f, none⟩) (m - f) (X.map bv) := by rw [Option.map_some, Addr.add_mid] at hsx; exact hsx
      repeat' (first | go_skip | go_guarded | go_step)
      go_loop [13, 14] (fun u13 u14 => ∃ (j : Nat) (x : Int), j ≤ 4 ∧ u14 = .int .i64 x ∧ x = (j : Int) - 1 ∧ u13 = .int .i64 (nm4 d0 d1 d2 d3 j : Int)) (fun _ u14 => (intOf u14 + 1).toNat)
      case atStart => exact ⟨4, 3, by omega, rfl, rfl, rfl⟩
      case round =>
       obtain ⟨j, x, hj, rfl, hx, rfl⟩ := hrel
       by_cases hj0 : j = 0
       ·subst hj0
        obtain rfl : x = -1 := by omega
        clear hx
        have e0 : nm4 d0 d1 d2 d3 0 = num4 d0 d1 d2 d3 := rfl
        rw [e0]
        have hn4 : num4 d0 d1 d2 d3 < 4294967296 := nm4_lt 0
        have hCk := Lib.hid (rCheck_any _ (m - f) (c - f) X wr wr.heap.size hXl.out (by omega) hsx)
        clear e0
        repeat' (first | go_skip | go_guarded | go_step)
        refine hCk.out.mono ?_
        clear hCk
        rintro e w3 ⟨rfl, rfl⟩
        dsimp only
        by_cases hse : crc X = num4 d0 d1 d2 d3
        ·have z1 : ((crc X : Int) == (num4 d0 d1 d2 d3 : Int)) = true := beq_iff_eq.2 (by omega)
         have z2 : ((crc X : Int) != (num4 d0 d1 d2 d3 : Int)) = false := bne_eq_false_iff_eq.2 (by omega)
         have htk := Lib.hid (hok.out ((sum4_iff hcr).2 hse))
         have C := Lib.hid (rdec_any X _ (m - f) (c - f) wr wr.heap.size hXl.out (by omega) (by omega) (Nat.le_refl _) hsx)
         replace hse := Lib.hid hse
         clear hok hno
         repeat' (first | go_skip | go_guarded | go_step)
         refine C.out.mono ?_
         clear C
         rintro e w2 ⟨E, code, rfl, hb2_, hcase⟩
         dsimp only
         have hE42 : E.length = 42 := by
          rcases hcase with ⟨_, fs, _, hR⟩ | ⟨_, _, rfl⟩
          ·exact (hR.len evC_ok).1
          ·exact evZ_len
         have hE1 : E.toArray.all (·.oneCell') = true := by
          rcases hcase with ⟨_, fs, _, hR⟩ | ⟨_, _, rfl⟩
          ·simpa using hR.one evC_ok
          ·exact evZ_one
         replace hcase := Lib.hid hcase
         have hiE := Lib.hid (ev_info hE42)
         replace hE42 := Lib.hid hE42
         have hT_ : Tgt (w2.alloc (.cells evZ.toArray 43)) w2.heap.size 0 evZ := Tgt.new w2 evZ.toArray _
         have hb5 : Below w2.heap.size w2 (w2.alloc (.cells evZ.toArray 43)) := (Below.refl _ _).alloc (Nat.le_refl _) _
         have hthT := hT_.there (n := E.toArray.size) (by rw [List.size_toArray, hE42.out]; decide)
         have hA : ((w2.alloc (.cells evZ.toArray 43)).setCells w2.heap.size 0 E.toArray.toList).rangeAt w2.heap.size 0 E := World.rangeAt_setCells_same _ w2.heap.size 0 E hthT
         have hbE : Below w2.heap.size w2 ((w2.alloc (.cells evZ.toArray 43)).setCells w2.heap.size 0 E.toArray.toList) := setCells_below (Nat.le_refl _) _ _ _ hb5
         go_upto_region 20 with (first | (refine wpList_store_mid rfl 43 _ _ rfl w2.heap.size 0 E.toArray rfl rfl hthT hiE.out hE1 ?_))
         generalize hx_ : World.setCells _ _ _ _ = w3
         have hx2 : (w2.alloc (.cells evZ.toArray 43)).setCells w2.heap.size 0 E.toArray.toList = w3 := hx_
         rw [hx2] at hA hbE
         clear hx2 hx_ hthT hT_ hb5
         have hb23 : Below wr.heap.size wr w3 := hb2_.trans (hbE.mono hb2_.size)
         by_cases h0 : code = 0
         ·obtain ⟨fs, hDr, hR⟩ : ∃ fs, DecR X (.inr fs) ∧ RecL evC w2 (Fresh wr w2) fs E := by
           rcases hcase.out with ⟨_, h2⟩ | ⟨h1, _⟩
           ·exact h2
           ·exact absurd h0 h1
          have hsz := dec_small hDr
          have hstep : ∀ es2 m2 q, RdR (l.drop (m + 4)) es2 m2 q → RdR l ((es ++ [fs]) ++ es2) (m + 4 + m2) q := fun es2 m2 q h => by
           have h2 := himp.out (fs :: es2) _ _ (RdR.more hne.out (by rw [htk.out]) (by rw [htk.out]; exact hDr) (by rw [htk.out, List.drop_drop, show k + (b + a + 4) = m + 4 by have := hf.out; have := hm_.out; omega]; exact h))
           rw [htk.out] at h2
           rw [List.append_assoc, show m + 4 + m2 = k + (b + a + 4 + m2) by have := hf.out; have := hm_.out; omega]
           exact h2
          have hx : rEvR w3 (Beh w3 (.slice A5 es.length c5)) fs E.toArray.toList := ⟨hR.map evC_ok (fun p hp => hbE.cell hp.2) (fun b hb => beh_lo hO hb.1 (Nat.lt_of_lt_of_le hb.2 hbE.size)), by have := hXl.out; omega⟩
          subst h0
          replace hstep := Lib.hid hstep
          have hnb : (es.length + 1) * 584 ≤ 140737488355328 := by omega
          clear hcase hDr hR hsz
          repeat' ((fail_if_success at_builtin); (first | (refine wpList_load_mid rfl 43 _ rfl w2.heap.size 0 rfl E _ hA Tryz.underlying43 rfl hiE.out ?_) | (refine wpList_slice1 rfl 58 43 _ rfl E rfl Tryz.underlying58 hiE.out (by kernel_rfl) (by rw [hE42.out]; decide) (by rw [hE42.out]; decide) ?_) | go_skip | go_guarded | go_step))
          refine wp_appR1 rEvR_ok hO hb23 hx Tryz.underlying58 ev_inf hnb ?_ (hcs := by rw [List.size_toArray]; exact hE42.out) (h1 := by simpa using hE1)
          intro v5 w5 hO5
          obtain ⟨A6, c6, rfl⟩ := hO5.form
          repeat' (first | go_skip | go_guarded | go_step)
          go_roundw
          case rel => exact ⟨es ++ [fs], m + 4, by omega, by go_num, (by rw [List.length_append] at hO5; exact hO5), by rw [List.length_append]; simp only [List.length_cons, List.length_nil]; omega, hstep.out⟩
          case measure => simp [intOf]; omega
         ·have z3 : (code == 0) = false := by simpa using h0
          have z4 : (code != 0) = true := by simpa using h0
          have hlast : RdR (l.drop k) [] 0 code := by
           rcases hcase.out with ⟨h1, _⟩ | ⟨_, h2, _⟩
           ·exact absurd h1 h0
           ·exact RdR.bad hne.out (by rw [htk.out]) (by rw [htk.out]; exact h2)
          have hfin := himp.out [] 0 code hlast
          rw [List.append_nil, Nat.add_zero] at hfin
          replace hfin := Lib.hid hfin
          clear hlast hcase
          repeat' (first | go_skip | go_guarded | go_step)
          go_ret3
          exact ⟨A5, c5, es, k, code, rfl, hfin.out, (EvQ.up (hO.slice rEvR_ok) hb23), hbr.trans (hb23.mono hbr.size)⟩
        ·have z1 : ((crc X : Int) == (num4 d0 d1 d2 d3 : Int)) = false := beq_eq_false_iff_ne.2 (by omega)
         have z2 : ((crc X : Int) != (num4 d0 d1 d2 d3 : Int)) = true := bne_iff_ne.2 (by omega)
         have htk := Lib.hid (hno.out (fun h => hse ((sum4_iff hcr).1 h)))
         clear hok hno
         have hlast : RdR (l.drop k) [] 0 (6) := by
          have h9 := RdR.stop hne.out (by rw [htk.out]; decide)
          rw [htk.out] at h9
          exact h9
         have hfin := himp.out [] 0 _ hlast
         rw [List.append_nil, Nat.add_zero] at hfin
         replace hfin := Lib.hid hfin
         clear hlast
         repeat' (first | go_skip | go_guarded | go_step)
         go_ret3
         exact ⟨A5, c5, es, k, _, rfl, hfin.out, (hO.slice rEvR_ok), hbr⟩
       ·obtain ⟨i, rfl⟩ : ∃ i, j = i + 1 := ⟨j - 1, by omega⟩
        obtain rfl : x = (i : Int) := by omega
        clear hx
        have hi4 : i < 4 := by omega
        obtain ⟨d, hdi⟩ : ∃ d, ((l.drop m).take 4)[i]? = some d := ⟨((l.drop m).take 4)[i]'(by rw [List.length_take, List.length_drop]; omega), List.getElem?_eq_getElem _⟩
        have hli : l[m + i]? = some d := by rw [List.getElem?_take, if_pos hi4, List.getElem?_drop] at hdi; exact hdi
        rw [hD.out] at hdi
        have hst := nm4_step hdi
        have hlt2 := nm4_lt (d0 := d0) (d1 := d1) (d2 := d2) (d3 := d3) (i + 1)
        have hcell : wr.cell? ⟨g0, o0 + (m + i), none⟩ = some (bv d) := hc0.out (m + i) (bv d) (by rw [List.getElem?_map, hli]; rfl)
        have hd256 : (d.toNat : Int) < 256 := by have := d.toNat_lt; omega
        generalize nm4 d0 d1 d2 d3 (i + 1) = s1 at *
        replace hst := Lib.hid hst
        clear hdi hli
        repeat' (first | go_skip | go_guarded | go_step)
        go_round
        case rel => exact ⟨i, (i : Int) - 1, by omega, rfl, rfl, by rw [hst.out]; go_num⟩
        case measure => simp [intOf]
   ·have z1 : ((q : Int) == 0) = false := by simp; omega
    have z2 : ((q : Int) != 0) = true := by simp; omega
    have htk : tk (l.drop k) = (q, 0, []) := tk_err hT.out hq0
    replace htk := Lib.hid htk
    have hlast : RdR (l.drop k) [] 0 ((q : Int)) := by
     have h9 := RdR.stop hne.out (by rw [htk.out]; exact hq0)
     rw [htk.out] at h9
     exact h9
    have hfin := himp.out [] 0 _ hlast
    rw [List.append_nil, Nat.add_zero] at hfin
    replace hfin := Lib.hid hfin
    clear hlast
    repeat' (first | go_skip | go_guarded | go_step)
    go_ret3
    exact ⟨A5, c5, es, k, _, rfl, hfin.out, (hO.slice rEvR_ok), hbr⟩
  ·have hd : (decide ((k : Int) < l.length)) = false := by simp; omega
   have hfin := himp.out [] 0 0 (by rw [List.drop_of_length_le (by omega)]; exact RdR.nil)
   rw [List.append_nil, Nat.add_zero] at hfin
   replace hfin := Lib.hid hfin
   have hk0 : k = l.length := by omega
   repeat' (first | go_skip | go_guarded | go_step)
   go_ret3
   exact ⟨A5, c5, es, k, 0, rfl, hfin.out, (hO.slice rEvR_ok), hO.bel⟩
end Go.Proofs.YtgdapkglofchjaaGreatDoor
