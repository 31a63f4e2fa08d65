/- PutInt, PutString, TakeInt, TakeString of both: contracts. -/
import Derived.Test.YtjipnomokggcfaaTake
namespace Go.Proofs.Ytjipnomokggcfaa
open Go.RowKit
set_option maxRecDepth 100000 in
set_option maxHeartbeats 400000 in
theorem putInt_any (x : Int) (w : World) (h0 : -9223372036854775808 ≤ x) (h1 : x ≤ 9223372036854775807) :
    Calls Try.prog 16 #[.int .i64 x] w (RetBytes w (Lib.uvarint (Lib.zigzag x))) := by
  have H0 := Lib.hid h0; clear h0
  have H1 := Lib.hid h1; clear h1
  go_enter Try.func16, Try.ntmps16
  repeat' (first | go_skip | go_guarded | go_step)
  rw [zig_xor H0.out H1.out]
  refine (putUint_any _ _ (U64.mk (Lib.zigzag_lt H0.out H1.out))).mono ?_
  rintro e w1 ⟨A, c, rfl, h⟩
  dsimp only
  repeat' (first | go_skip | go_guarded | go_step)
  go_ret
  exact ⟨A, c, rfl, h⟩
set_option maxRecDepth 100000 in
set_option maxHeartbeats 400000 in
theorem rPutInt_any (x : Int) (w : World) (h0 : -9223372036854775808 ≤ x) (h1 : x ≤ 9223372036854775807) :
    Calls Try.prog 18 #[.int .i64 x] w (RetBytes w (Lib.uvarint (Lib.zigzag x))) := by
  have H0 := Lib.hid h0; clear h0
  have H1 := Lib.hid h1; clear h1
  go_enter Try.func18, Try.ntmps18
  repeat' (first | go_skip | go_guarded | go_step)
  · have h : x < 0 := by assumption
    rw [zig_neg H0.out h]
    refine (rPutUint_any _ _ (U64.mk (Lib.zigzag_lt H0.out H1.out))).mono ?_
    rintro e w1 ⟨A, c, rfl, h⟩
    dsimp only
    repeat' (first | go_skip | go_guarded | go_step)
    go_ret
    exact ⟨A, c, rfl, h⟩
  · have h : 0 ≤ x := by assumption
    rw [zig_pos h H1.out]
    refine (rPutUint_any _ _ (U64.mk (Lib.zigzag_lt H0.out H1.out))).mono ?_
    rintro e w1 ⟨A, c, rfl, h⟩
    dsimp only
    repeat' (first | go_skip | go_guarded | go_step)
    go_ret
    exact ⟨A, c, rfl, h⟩
def itrip (t : Int × Nat × Nat) : Ending := .returned (.tuple #[.int .i64 t.1, .int .i64 (t.2.1 : Int), .int .i64 (t.2.2 : Int)])
theorem itrip_of {t : Int × Nat × Nat} {a b c x : Int} {y z : Nat} (h : t = (x, y, z)) (h1 : a = x) (h2 : b = y) (h3 : c = z) : Ending.returned (.tuple #[.int .i64 a, .int .i64 b, .int .i64 c]) = itrip t := by
  subst h h1 h2 h3; rfl
set_option maxRecDepth 100000 in
set_option maxHeartbeats 400000 in
theorem takeInt_any (A : Option Addr) (n c : Nat) (l : List UInt8) (w : World) (B : Nat) (hl : l.length = n) (hm : n ≤ 1000000000) (hs : Seq w B 1 A n (l.map bv)) :
    Calls Try.prog 20 #[.slice A n c] w fun e w' => e = itrip (takeI l) ∧ w = w' := by
  have hT := takeU_lt l
  unfold takeI
  have C := takeUint_any A n c l w B hl hm hs
  generalize takeU l = T at hT C ⊢
  obtain ⟨a, b, k⟩ := T
  have HT := Lib.hid hT; clear hT
  go_enter Try.func20, Try.ntmps20
  repeat' (first | go_skip | go_guarded | go_step)
  refine C.mono ?_; unfold trip; rintro e w' ⟨rfl, rfl⟩; dsimp only
  repeat' (first | go_skip | go_guarded | go_step)
  go_ret3
  exact ⟨itrip_of rfl (unzig_xor HT.out) rfl rfl, rfl⟩
set_option maxRecDepth 100000 in
set_option maxHeartbeats 400000 in
theorem rTakeInt_any (A : Option Addr) (n c : Nat) (l : List UInt8) (w : World) (B : Nat) (hl : l.length = n) (hm : n ≤ 1000000000) (hs : Seq w B 1 A n (l.map bv)) :
    Calls Try.prog 25 #[.slice A n c] w fun e w' => e = itrip (takeI l) ∧ w = w' := by
  have hT := takeU_lt l
  unfold takeI
  have C := rTakeUint_any A n c l w B hl hm hs
  generalize takeU l = T at hT C ⊢
  obtain ⟨a, b, k⟩ := T
  have HT := Lib.hid hT; clear hT
  go_enter Try.func25, Try.ntmps25
  repeat' (first | go_skip | go_guarded | go_step)
  refine C.mono ?_; unfold trip; rintro e w' ⟨rfl, rfl⟩; dsimp only
  repeat' (first | go_skip | go_guarded | go_step)
  · go_ret3
    exact ⟨itrip_of rfl (unzig_odd HT.out (by assumption)) rfl rfl, rfl⟩
  · go_ret3
    exact ⟨itrip_of rfl (unzig_even HT.out (by assumption)) rfl rfl, rfl⟩
end Go.Proofs.Ytjipnomokggcfaa
