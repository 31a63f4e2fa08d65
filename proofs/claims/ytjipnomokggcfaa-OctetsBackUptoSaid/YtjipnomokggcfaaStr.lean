/- PutString, TakeString of both, Bytes: contracts. -/
import Derived.Test.YtjipnomokggcfaaNum
namespace Go.Proofs.Ytjipnomokggcfaa
open Go.RowKit
def strip (t : List UInt8 × Nat × Nat) : Ending := .returned (.tuple #[.string ⟨t.1.toArray⟩, .int .i64 (t.2.1 : Int), .int .i64 (t.2.2 : Int)])
theorem strip_of {t : List UInt8 × Nat × Nat} {s : ByteArray} {b c : Int} {x : List UInt8} {y z : Nat} (h : t = (x, y, z)) (h1 : s = ⟨x.toArray⟩) (h2 : b = y) (h3 : c = z) : Ending.returned (.tuple #[.string s, .int .i64 b, .int .i64 c]) = strip t := by
  subst h h1 h2 h3; rfl
set_option maxRecDepth 100000 in
set_option maxHeartbeats 400000 in
theorem takeStr_any (A : Option Addr) (n c : Nat) (l : List UInt8) (w : World) (B : Nat) (hl : l.length = n) (hm : n ≤ 1000000000) (hc : n ≤ c) (hs : Seq w B 1 A n (l.map bv)) :
    Calls Try.prog 22 #[.slice A n c] w fun e w' => e = strip (takeS l) ∧ w = w' := by
  have hT := takeU_lt l
  have hK := @takeU_len l
  unfold takeS
  have C := takeUint_any A n c l w B hl hm hs
  generalize takeU l = T at hT hK C ⊢
  obtain ⟨a, b, k⟩ := T
  dsimp only at hT hK ⊢
  have HT := Lib.hid hT; clear hT
  have HK := Lib.hid hK; clear hK
  by_cases hk : k = 0
  · subst hk
    have hb := HK.out rfl
    have hsub : IntKind.i64.wrap ((n : Int) - b) = (n : Int) - b := IntWalk.i64_in _ (by omega)
    have hsub2 : IntKind.u64.wrap ((n : Int) - b) = (n : Int) - b := IntWalk.u64_in _ (by omega)
    go_enter Try.func22, Try.ntmps22
    repeat' (first | go_skip | go_guarded | go_step)
    refine C.mono ?_; unfold trip; rintro e w' ⟨rfl, rfl⟩; dsimp only
    repeat' (first | (with_reducible (show wpList _ _ _ (_ :: _) _ _)); refine wp_bytes_str (B := B) (l := (l.drop b).take a) Try.underlying30 Try.underlying5 Try.underlying9 ?_ ?_ | go_skip | go_guarded | go_step)
    · go_ret3
      have hlt : (n : Int) - b < a := by assumption
      exact ⟨strip_of (x := []) (by rw [if_neg (by simp), if_pos (by omega)]) rfl rfl rfl, rfl⟩
    · have hle : (a : Int) ≤ n - b := by assumption
      have := hs.sub1 (lo := b) (hi := b + a) (by omega) (by omega) hc
      rw [← List.map_drop, ← List.map_take, show b + a - b = a from by omega] at this
      rw [show b + a - b = a from by omega]
      exact this
    · go_ret3
      have hle : (a : Int) ≤ n - b := by assumption
      exact ⟨strip_of (x := (l.drop b).take a) (by rw [if_neg (by simp), if_neg (by omega)]) rfl rfl rfl, rfl⟩
  · have hk' : ((k : Int) == 0) = false := by simp; omega
    go_enter Try.func22, Try.ntmps22
    repeat' (first | go_skip | go_guarded | go_step)
    refine C.mono ?_; unfold trip; rintro e w' ⟨rfl, rfl⟩; dsimp only
    repeat' (first | go_skip | go_guarded | go_step)
    all_goals first | (exfalso; simp_all; done) | skip
    go_ret3
    exact ⟨strip_of (x := []) (by rw [if_pos hk]) rfl rfl rfl, rfl⟩
set_option maxRecDepth 100000 in
set_option maxHeartbeats 400000 in
theorem rTakeStr_any (A : Option Addr) (n c : Nat) (l : List UInt8) (w : World) (B : Nat) (hl : l.length = n) (hm : n ≤ 1000000000) (hc : n ≤ c) (hs : Seq w B 1 A n (l.map bv)) :
    Calls Try.prog 26 #[.slice A n c] w fun e w' => e = strip (takeS l) ∧ w = w' := by
  have hT := takeU_lt l
  have hK := @takeU_len l
  unfold takeS
  have C := rTakeUint_any A n c l w B hl hm hs
  generalize takeU l = T at hT hK C ⊢
  obtain ⟨a, b, k⟩ := T
  dsimp only at hT hK ⊢
  have HT := Lib.hid hT; clear hT
  have HK := Lib.hid hK; clear hK
  by_cases hk : k = 0
  · subst hk
    have hb := HK.out rfl
    have hsub : IntKind.i64.wrap ((n : Int) - b) = (n : Int) - b := IntWalk.i64_in _ (by omega)
    have hsub2 : IntKind.u64.wrap ((n : Int) - b) = (n : Int) - b := IntWalk.u64_in _ (by omega)
    go_enter Try.func26, Try.ntmps26
    repeat' (first | go_skip | go_guarded | go_step)
    refine C.mono ?_; unfold trip; rintro e w' ⟨rfl, rfl⟩; dsimp only
    repeat' (first | (with_reducible (show wpList _ _ _ (_ :: _) _ _)); refine wp_bytes_str (B := B) (l := (l.drop b).take a) Try.underlying30 Try.underlying5 Try.underlying9 ?_ ?_ | go_skip | go_guarded | go_step)
    · go_ret3
      have hlt : (n : Int) - b < a := by assumption
      exact ⟨strip_of (x := []) (by rw [if_neg (by simp), if_pos (by omega)]) rfl rfl rfl, rfl⟩
    · have hle : (a : Int) ≤ n - b := by assumption
      have := hs.sub1 (lo := b) (hi := b + a) (by omega) (by omega) hc
      rw [← List.map_drop, ← List.map_take, show b + a - b = a from by omega] at this
      rw [show b + a - b = a from by omega]
      exact this
    · go_ret3
      have hle : (a : Int) ≤ n - b := by assumption
      exact ⟨strip_of (x := (l.drop b).take a) (by rw [if_neg (by simp), if_neg (by omega)]) rfl rfl rfl, rfl⟩
  · have hk' : ((k : Int) == 0) = false := by simp; omega
    go_enter Try.func26, Try.ntmps26
    repeat' (first | go_skip | go_guarded | go_step)
    refine C.mono ?_; unfold trip; rintro e w' ⟨rfl, rfl⟩; dsimp only
    repeat' (first | go_skip | go_guarded | go_step)
    all_goals first | (exfalso; simp_all; done) | skip
    go_ret3
    exact ⟨strip_of (x := []) (by rw [if_pos hk]) rfl rfl rfl, rfl⟩
theorem Bytes.app {w0 w : World} {v : Value} {l m : List UInt8} {k : Nat} (h : Own w0 w 5 1 v (l.length + k) (l.map bv ++ m.map bv)) (hk : k = m.length) : Bytes w0 w v (l ++ m) := by
  subst hk
  unfold Bytes
  simpa using h
set_option maxRecDepth 100000 in
set_option maxHeartbeats 400000 in
theorem putStr_any (s : ByteArray) (w : World) (hm : s.size ≤ 1000000000000) :
    Calls Try.prog 21 #[.string s] w (RetBytes w (Lib.uvarint s.size ++ s.data.toList)) := by
  have hb := Lib.uvarint_length64 (x := s.size) (by omega)
  have Hb := Lib.hid hb; clear hb
  go_enter Try.func21, Try.ntmps21
  repeat' (first | go_skip | go_guarded | go_step)
  refine (putUint_any _ _ (U64.mk (by omega))).mono ?_
  rintro e w1 ⟨A, c, rfl, h⟩
  dsimp only
  have hb : (Lib.uvarint s.size).length + s.size ≤ 140737488355328 := by have := Hb.out; omega
  repeat' (first | (at_builtin; refine wp_appStr h Try.underlying30 Try.underlying9 u8_info hb ?_; intro v2 w2 h2 _) | go_skip | go_guarded | go_step)
  go_ret
  exact Bytes.ret (Bytes.app h2 (by rfl))
set_option maxRecDepth 100000 in
set_option maxHeartbeats 400000 in
theorem rPutStr_any (s : ByteArray) (w : World) (hm : s.size ≤ 1000000000000) :
    Calls Try.prog 23 #[.string s] w (RetBytes w (Lib.uvarint s.size ++ s.data.toList)) := by
  have hb := Lib.uvarint_length64 (x := s.size) (by omega)
  have Hb := Lib.hid hb; clear hb
  go_enter Try.func23, Try.ntmps23
  repeat' (first | go_skip | go_guarded | go_step)
  refine (rPutUint_any _ _ (U64.mk (by omega))).mono ?_
  rintro e w1 ⟨A, c, rfl, h⟩
  dsimp only
  repeat' (first | go_skip | go_guarded | go_step)
  go_loopw [3, 4] (fun u3 u4 wr => ∃ k : Nat, k ≤ s.size ∧ u4 = .int .i64 (k : Int) ∧ Bytes w wr u3 (Lib.uvarint s.size ++ s.data.toList.take k)) (fun _ u4 _ => s.size - (intOf u4).toNat)
  case atStart => exact ⟨0, by omega, rfl, by simpa using h⟩
  case round =>
    obtain ⟨k, hk, rfl, h⟩ := hrel
    have hb : ((Lib.uvarint s.size ++ s.data.toList.take k).length + 1) * 1 ≤ 140737488355328 := by
      have := Hb.out; simp [List.length_take]; omega
    by_cases hlt : k < s.size
    · repeat' (first | (at_builtin; refine wp_app1 h Try.underlying30 u8_info hb ?_; intro v2 w2 h2 _) | go_skip | go_guarded | go_step)
      go_roundw
      case rel =>
        refine ⟨k + 1, by omega, by go_num, ?_⟩
        have hx : s.data.toList.take (k + 1) = s.data.toList.take k ++ [s[k]] := by
          rw [List.take_succ_eq_append_getElem (by simpa using hlt)]; rfl
        rw [hx, ← List.append_assoc]
        exact Bytes.snoc h2 rfl
      case measure => simp [intOf]; omega
    · repeat' (first | go_skip | go_guarded | go_step)
      go_ret
      obtain rfl : k = s.size := by omega
      rw [List.take_of_length_le (by simp)] at h
      exact Bytes.ret h
/-- ref.Bytes: are lists of bytes equal? -/
theorem bytesEq_any (A A' : Option Addr) (n c n' c' : Nat) (l l' : List UInt8) (w : World) (B : Nat) (hs : Seq w B 1 A n (l.map bv)) (hs' : Seq w B 1 A' n' (l'.map bv)) :
    Calls Try.prog 12 #[.slice A n c, .slice A' n' c'] w fun e w' => e = .returned (.bool (l == l')) ∧ w = w' := by
  go_enter Try.func12, Try.ntmps12
  have h1 := fun dst hd => run_bytes_str (P := Try.prog) (src := 30) (dst := dst) (c := c) hs Try.underlying30 Try.underlying5 hd
  have h2 := fun dst hd => run_bytes_str (P := Try.prog) (src := 30) (dst := dst) (c := c') hs' Try.underlying30 Try.underlying5 hd
  have h1 := h1 9 Try.underlying9
  have h2 := h2 9 Try.underlying9
  repeat' (first | go_skip | go_guarded | go_step)
  go_ret
  exact ⟨rfl, rfl⟩
end Go.Proofs.Ytjipnomokggcfaa
