/- The law on numbers: its walk. -/
import Derived.Test.YtjipnomokggcfaaLaw1
namespace Go.Proofs.Ytjipnomokggcfaa
open Go.RowKit
set_option maxRecDepth 100000 in
set_option maxHeartbeats 800000 in
theorem numbers_law (x : Nat) (y : Int) (A : Option Addr) (n c : Nat) (l : List UInt8) (w : World) (hx : U64 x) (hy : IsInt y) (hl : l.length = n) (hm : n ≤ 9223372036854775807) (hs : Seq w w.heap.size 1 A n (l.map bv)) :
    Calls Try.prog 4 #[.int .u64 (x : Int), .int .i64 y, .slice A n c] w (Holds w) := by
  have Hy := Lib.hid hy; clear hy
  by_cases hn : 1000 < n
  · go_enter Try.func4, Try.ntmps4
    repeat' ((fail_if_success at_builtin); (first | go_skip | go_guarded | go_step))
    refine (lives_any _).mono ?_
    rintro e w1 ⟨rfl, hb⟩
    dsimp only
    repeat' ((fail_if_success at_builtin); (first | go_skip | go_guarded | go_step))
    go_ret
    exact ⟨rfl, hb⟩
  · have T1 := takeU_uvarint hx.lt l
    have T2 := takeI_zigzag Hy.out.1 Hy.out.2 l
    have C1 := fun w => putUint_any x w hx
    have C2 := fun w => rPutUint_any x w hx
    have C3 := fun w => putInt_any y w Hy.out.1 Hy.out.2
    have C4 := fun w => rPutInt_any y w Hy.out.1 Hy.out.2
    have l1 := Lib.uvarint_length64 hx.lt
    have l2 := Lib.uvarint_length64 (Lib.zigzag_lt Hy.out.1 Hy.out.2)
    generalize Lib.uvarint x = L1 at T1 C1 C2 l1
    generalize Lib.uvarint (Lib.zigzag y) = L2 at T2 C3 C4 l2
    replace T1 := Lib.hid T1
    replace T2 := Lib.hid T2
    replace C1 := Lib.hid C1
    replace C2 := Lib.hid C2
    replace C3 := Lib.hid C3
    replace C4 := Lib.hid C4
    go_enter Try.func4, Try.ntmps4
    repeat' ((fail_if_success at_builtin); (first | go_skip | go_guarded | go_step))
    refine (C1.out _).mono ?_
    rintro e w1 ⟨A1, c1, rfl, h1⟩
    dsimp only
    repeat' ((fail_if_success at_builtin); (first | go_skip | go_guarded | go_step))
    refine (C3.out _).mono ?_
    rintro e w2 ⟨A2, c2, rfl, h2⟩
    dsimp only
    repeat' ((fail_if_success at_builtin); (first | go_skip | go_guarded | go_step))
    refine (C2.out _).mono ?_
    rintro e w3 ⟨A3, c3, rfl, h3⟩
    dsimp only
    have b2 := h1.2.trans (h2.2.mono h1.2.size)
    have b3 := b2.trans (h3.2.mono b2.size)
    have s1 := (h1.seq.below h2.2).more h2.2.size
    replace s1 := (s1.below h3.2).more h3.2.size
    have s2 := (h2.seq.below h3.2).more h3.2.size
    have s3 := h3.seq
    clear h1 h2 h3
    repeat' ((fail_if_success at_builtin); (first | go_skip | go_guarded | go_step))
    refine (bytesEq_any A1 A3 _ c1 _ c3 L1 L1 w3 w3.heap.size s1 s3).mono ?_
    rw [BEq.rfl]
    rintro e w' ⟨rfl, rfl⟩
    dsimp only
    repeat' ((fail_if_success at_builtin); (first | go_skip | go_guarded | go_step))
    refine (C4.out _).mono ?_
    rintro e w4 ⟨A4, c4, rfl, h4⟩
    have b4 := b3.trans (h4.2.mono b3.size)
    replace s1 := (s1.below h4.2).more h4.2.size
    replace s2 := (s2.below h4.2).more h4.2.size
    have s4 := h4.seq
    clear h4 s3
    dsimp only
    repeat' ((fail_if_success at_builtin); (first | go_skip | go_guarded | go_step))
    refine (bytesEq_any A2 A4 _ c2 _ c4 L2 L2 w4 w4.heap.size s2 s4).mono ?_
    rw [BEq.rfl]
    rintro e w' ⟨rfl, rfl⟩
    clear s4 b2 b3
    dsimp only
    repeat' ((fail_if_success at_builtin); (first | go_skip | go_guarded | go_step))
    have hba := (Below.refl w4.heap.size w4).alloc (Nat.le_refl _) (.cells #[] 5)
    refine wp_appS (Own.empty_lit w4 5 1) Try.underlying30 u8_info (s1.below hba) (bv_one _) (by omega) ?_
    intro v5 w5 h5 _
    repeat' ((fail_if_success at_builtin); (first | go_skip | go_guarded | go_step))
    have s0 := (hs.below b4).more b4.size
    refine wp_appS h5 Try.underlying30 u8_info (s0.below h5.2) (bv_one _) (by omega) ?_
    intro v6 w6 h6 _
    rw [Nat.zero_add, List.nil_append, ← List.map_append] at h6
    obtain ⟨A6, c6, rfl⟩ := h6.slice_form
    have b6 := b4.trans (h6.2.mono b4.size)
    replace s0 := (s0.below h6.2).more h6.2.size
    replace s2 := (s2.below h6.2).more h6.2.size
    have C7 := takeUint_any A6 _ c6 (L1 ++ l) w6 _ (by rw [List.length_append, hl]) (by omega) h6.seq
    rw [T1.out] at C7
    unfold trip at C7
    replace C7 := Lib.hid C7
    clear h5 h6 hba s1
    repeat' ((fail_if_success at_builtin); (first | go_skip | go_guarded | go_step))
    refine C7.out.mono ?_; rintro e w' ⟨rfl, rfl⟩; dsimp only
    repeat' ((fail_if_success at_builtin); (first | go_skip | go_guarded | go_step))
    have hba := (Below.refl w6.heap.size w6).alloc (Nat.le_refl _) (.cells #[] 5)
    refine wp_appS (Own.empty_lit w6 5 1) Try.underlying30 u8_info (s2.below hba) (bv_one _) (by omega) ?_
    intro v5 w7 h5 _
    repeat' ((fail_if_success at_builtin); (first | go_skip | go_guarded | go_step))
    refine wp_appS h5 Try.underlying30 u8_info (s0.below h5.2) (bv_one _) (by omega) ?_
    intro v6 w8 h6 _
    rw [Nat.zero_add, List.nil_append, ← List.map_append] at h6
    obtain ⟨A8, c8, rfl⟩ := h6.slice_form
    have b8 := b6.trans (h6.2.mono b6.size)
    have C8 := takeInt_any A8 _ c8 (L2 ++ l) w8 _ (by rw [List.length_append, hl]) (by omega) h6.seq
    rw [T2.out] at C8
    unfold itrip at C8
    replace C8 := Lib.hid C8
    clear h5 h6 hba s2 s0
    repeat' ((fail_if_success at_builtin); (first | go_skip | go_guarded | go_step))
    refine C8.out.mono ?_; rintro e w' ⟨rfl, rfl⟩; dsimp only
    repeat' ((fail_if_success at_builtin); (first | go_skip | go_guarded | go_step))
    refine (lives_any _).mono ?_
    rintro e w9 ⟨rfl, hb⟩
    dsimp only
    repeat' ((fail_if_success at_builtin); (first | go_skip | go_guarded | go_step))
    go_ret
    exact ⟨rfl, b8.trans (hb.mono b8.size)⟩
end Go.Proofs.Ytjipnomokggcfaa
