/- octets.PutUint: its contract. -/
import Derived.Test.YtjipnomokggcfaaProg
import Derived.Test.YtjipnomokggcfaaMem
import Derived.Lib.Varint
import Derived.Lib.VarintMem
namespace Go.Proofs.Ytjipnomokggcfaa
open Go.RowKit
theorem u8_info : Info Try.prog 5 (.int .u8 0) 1 1 := by unfold Info; kernel_rfl
def Bytes (w0 w : World) (v : Value) (l : List UInt8) : Prop := Own w0 w 5 1 v l.length (l.map bv)
theorem Bytes.snoc {w0 w : World} {v : Value} {l : List UInt8} {x : Value} {c : UInt8} (h : Own w0 w 5 1 v (l.length + 1) (l.map bv ++ #[x].toList)) (hx : x = bv c) : Bytes w0 w v (l ++ [c]) := by
  subst hx
  unfold Bytes
  simpa using h
@[irreducible] def U64 (m : Nat) : Prop := m < 18446744073709551616
theorem U64.div {m : Nat} (h : U64 m) (k : Nat) : U64 (m / k) := by
  unfold U64 at h ⊢
  exact Nat.lt_of_le_of_lt (Nat.div_le_self _ _) h
theorem U64.lt {m : Nat} (h : U64 m) : m < 18446744073709551616 := by unfold U64 at h; exact h
theorem U64.mk {m : Nat} (h : m < 18446744073709551616) : U64 m := by unfold U64; exact h
theorem U64.wrap_div {m : Nat} (h : U64 m) : IntKind.u64.wrap ((m : Int) / 128) = (m : Int) / 128 := by
  have := h.lt
  exact IntWalk.u64_in _ (by omega)


/-- a result that is a slice of bytes of the call's own -/
def RetBytes (w : World) (l : List UInt8) (e : Ending) (w' : World) : Prop := ∃ A c, e = .returned (.slice A l.length c) ∧ Bytes w w' (.slice A l.length c) l
theorem Bytes.ret {w w' : World} {v : Value} {l : List UInt8} (h : Bytes w w' v l) : RetBytes w l (.returned v) w' := by
  obtain ⟨A, c, rfl⟩ := Own.slice_form h
  exact ⟨A, c, rfl, h⟩
theorem Bytes.seq {w w' : World} {A : Option Addr} {n c : Nat} {l : List UInt8} (h : Bytes w w' (.slice A n c) l) : Seq w' w'.heap.size 1 A l.length (l.map bv) := by
  obtain ⟨A', c', he⟩ := Own.slice_form h
  injection he with h1 h2 h3
  subst h1 h2 h3
  exact Own.seq h

set_option maxRecDepth 100000 in
set_option maxHeartbeats 400000 in
theorem putUint_any (n : Nat) (w : World) (hn : U64 n) :
    Calls Try.prog 15 #[.int .u64 (n : Int)] w (RetBytes w (Lib.uvarint n)) := by
  go_enter Try.func15, Try.ntmps15
  repeat' (first | go_skip | go_guarded | go_step)
  go_loopw [0, 3] (fun u0 u3 wr => ∃ (m : Nat) (pre : List UInt8), U64 m ∧ pre.length + (Lib.uvarint m).length ≤ 10 ∧ u0 = .int .u64 (m : Int) ∧ Bytes w wr u3 pre ∧ pre ++ Lib.uvarint m = Lib.uvarint n) (fun u0 _ _ => (intOf u0).toNat)
  case atStart => exact ⟨n, [], hn, by simpa using Lib.uvarint_length64 (by unfold U64 at hn; exact hn), rfl, Own.nil_ _ _ _, rfl⟩
  case round =>
    obtain ⟨m, pre, hm, hlen, rfl, hown, hpre⟩ := hrel
    have hb : (pre.length + 1) * 1 ≤ 140737488355328 := by have := Lib.uvarint_pos m; omega
    have Hpre := Lib.hid hpre; clear hpre
    have Hlen := Lib.hid hlen; clear hlen
    repeat' (first | (at_builtin; go_loud (refine wp_app1 hown Try.underlying30 u8_info hb ?_); intro v1 w1 hown1 _) | go_skip | go_guarded | go_step)
    · have hge : (128 : Int) ≤ m := by assumption
      go_roundw
      case rel =>
        refine ⟨m / 128, pre ++ [(m % 128 + 128).toUInt8], hm.div _, ?_, by go_num, Bytes.snoc hown1 ?_, ?_⟩
        · have := Hlen.out; rw [Lib.uvarint_big (by omega)] at this; simp at this ⊢; omega
        · rw [Lib.u8_or128_any _ (by omega) (by omega)]
          simp only [bv]
          rw [Lib.toUInt8_toNat (by omega)]
          go_num
        · rw [← Hpre.out, Lib.uvarint_big (x := m) (by omega)]; simp
      case measure => simp [intOf]; omega
    · have hlt : (m : Int) < 128 := by assumption
      go_ret
      refine Bytes.ret ?_
      rw [← Hpre.out, Lib.uvarint_small (by omega)]
      refine Bytes.snoc hown1 ?_
      simp only [bv]
      rw [Lib.toUInt8_toNat (by omega)]
set_option maxRecDepth 100000 in
set_option maxHeartbeats 400000 in
theorem rPutUint_any (n : Nat) (w : World) (hn : U64 n) :
    Calls Try.prog 17 #[.int .u64 (n : Int)] w (RetBytes w (Lib.uvarint n)) := by
  go_enter Try.func17, Try.ntmps17
  repeat' (first | go_skip | go_guarded | go_step)
  go_loopw [0, 3] (fun u0 u3 wr => ∃ (m : Nat) (pre : List UInt8), U64 m ∧ pre.length + (Lib.uvarint m).length ≤ 10 ∧ u0 = .int .u64 (m : Int) ∧ Bytes w wr u3 pre ∧ pre ++ Lib.uvarint m = Lib.uvarint n) (fun u0 _ _ => (intOf u0).toNat)
  case atStart => exact ⟨n, [], hn, by simpa using Lib.uvarint_length64 (by unfold U64 at hn; exact hn), rfl, Own.nil_ _ _ _, rfl⟩
  case round =>
    obtain ⟨m, pre, hm, hlen, rfl, hown, hpre⟩ := hrel
    have hb : (pre.length + 1) * 1 ≤ 140737488355328 := by have := Lib.uvarint_pos m; omega
    have hw := hm.wrap_div
    have Hpre := Lib.hid hpre; clear hpre
    have Hlen := Lib.hid hlen; clear hlen
    repeat' (first | (at_builtin; go_loud (refine wp_app1 hown Try.underlying30 u8_info hb ?_); intro v1 w1 hown1 _) | go_skip | go_guarded | go_step)
    · have hge : (127 : Int) < m := by assumption
      go_roundw
      case rel =>
        refine ⟨m / 128, pre ++ [(m % 128 + 128).toUInt8], hm.div _, ?_, by go_num, Bytes.snoc hown1 ?_, ?_⟩
        · have := Hlen.out; rw [Lib.uvarint_big (by omega)] at this; simp at this ⊢; omega
        · simp only [bv]
          rw [Lib.toUInt8_toNat (by omega)]
          go_num
        · rw [← Hpre.out, Lib.uvarint_big (x := m) (by omega)]; simp
      case measure => simp [intOf]; omega
    · have hlt : (m : Int) ≤ 127 := by assumption
      go_ret
      refine Bytes.ret ?_
      rw [← Hpre.out, Lib.uvarint_small (by omega)]
      refine Bytes.snoc hown1 ?_
      simp only [bv]
      rw [Lib.toUInt8_toNat (by omega)]
end Go.Proofs.Ytjipnomokggcfaa
