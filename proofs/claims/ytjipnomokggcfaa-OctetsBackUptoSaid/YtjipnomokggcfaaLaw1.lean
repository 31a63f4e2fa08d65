/- The laws on numbers, strings, takes: their walks. -/
import Derived.Test.YtjipnomokggcfaaLives
namespace Go.Proofs.Ytjipnomokggcfaa
open Go.RowKit
def Holds (w : World) (e : Ending) (w' : World) : Prop := e = .returned (.bool true) ∧ Below w.heap.size w w'
set_option maxRecDepth 100000 in
set_option maxHeartbeats 400000 in
theorem strings_law (s : ByteArray) (w : World) (hm : s.size ≤ 9223372036854775807) : Calls Try.prog 5 #[.string s] w (Holds w) := by
  have Hm := Lib.hid hm; clear hm
  by_cases hl : 70000 < s.size
  · go_enter Try.func5, Try.ntmps5
    repeat' ((fail_if_success at_builtin); (first | go_skip | go_guarded | go_step))
    refine (lives_any _).mono ?_
    rintro e w1 ⟨rfl, hb⟩
    dsimp only
    repeat' ((fail_if_success at_builtin); (first | go_skip | go_guarded | go_step))
    go_ret
    exact ⟨rfl, hb⟩
  · have hts := takeS_uvarint (s := s.data.toList) (by simp; omega)
    have hsz : s.data.toList.length = s.size := by simp
    rw [hsz] at hts
    have Hts := Lib.hid hts; clear hts hsz
    have hul := Lib.uvarint_length64 (x := s.size) (by omega)
    have C1 := fun w => putStr_any s w (by omega)
    have C2 := fun w => rPutStr_any s w (by omega)
    have hLl : (Lib.uvarint s.size ++ s.data.toList).length ≤ 80010 := by rw [List.length_append]; simp; omega
    generalize Lib.uvarint s.size ++ s.data.toList = L at C1 C2 Hts hLl
    have HC1 := Lib.hid C1; clear C1
    have HC2 := Lib.hid C2; clear C2 hul
    go_enter Try.func5, Try.ntmps5
    repeat' ((fail_if_success at_builtin); (first | go_skip | go_guarded | go_step))
    refine (HC1.out _).mono ?_
    rintro e w1 ⟨A1, c1, rfl, h1⟩
    dsimp only
    repeat' ((fail_if_success at_builtin); (first | go_skip | go_guarded | go_step))
    refine (takeStr_any A1 L.length c1 L w1 w1.heap.size rfl (by omega) (Own.cap_le h1) h1.seq).mono ?_
    rw [Hts.out]
    unfold strip
    rintro e w' ⟨rfl, rfl⟩
    dsimp only
    repeat' ((fail_if_success at_builtin); (first | go_skip | go_guarded | go_step))
    refine (HC2.out _).mono ?_
    rintro e w2 ⟨A2, c2, rfl, h2⟩
    have hs1 := (h1.seq.below h2.2).more h2.2.size
    dsimp only
    repeat' ((fail_if_success at_builtin); (first | go_skip | go_guarded | go_step))
    have hb2 := Lib.hid (h1.2.trans (h2.2.mono h1.2.size))
    refine (bytesEq_any A1 A2 _ c1 _ c2 L L w2 w2.heap.size hs1 h2.seq).mono ?_
    rw [BEq.rfl]
    rintro e w' ⟨rfl, rfl⟩
    clear hs1 h2 h1
    dsimp only
    repeat' ((fail_if_success at_builtin); (first | go_skip | go_guarded | go_step))
    refine (lives_any _).mono ?_
    rintro e w3 ⟨rfl, hb3⟩
    dsimp only
    repeat' ((fail_if_success at_builtin); (first | go_skip | go_guarded | go_step))
    go_ret
    exact ⟨rfl, hb2.out.trans (hb3.mono hb2.out.size)⟩
set_option maxRecDepth 100000 in
set_option maxHeartbeats 400000 in
theorem takes_law (A : Option Addr) (n c : Nat) (l : List UInt8) (w : World) (hl : l.length = n) (hc : n ≤ c) (hm : n ≤ 9223372036854775807) (hs : Seq w w.heap.size 1 A n (l.map bv)) :
    Calls Try.prog 6 #[.slice A n c] w (Holds w) := by
  by_cases hn : 1000 < n
  · go_enter Try.func6, Try.ntmps6
    repeat' ((fail_if_success at_builtin); (first | go_skip | go_guarded | go_step))
    refine (lives_any _).mono ?_
    rintro e w1 ⟨rfl, hb⟩
    dsimp only
    repeat' ((fail_if_success at_builtin); (first | go_skip | go_guarded | go_step))
    go_ret
    exact ⟨rfl, hb⟩
  · have C1 := takeUint_any A n c l w _ hl (by omega) hs
    have C2 := rTakeUint_any A n c l w _ hl (by omega) hs
    have C3 := takeInt_any A n c l w _ hl (by omega) hs
    have C4 := rTakeInt_any A n c l w _ hl (by omega) hs
    have C5 := takeStr_any A n c l w _ hl (by omega) hc hs
    have C6 := rTakeStr_any A n c l w _ hl (by omega) hc hs
    generalize takeU l = T at C1 C2
    generalize takeI l = U at C3 C4
    generalize takeS l = V at C5 C6
    obtain ⟨t1, t2, t3⟩ := T
    obtain ⟨u1, u2, u3⟩ := U
    obtain ⟨v1, v2, v3⟩ := V
    unfold trip at C1 C2
    unfold itrip at C3 C4
    unfold strip at C5 C6
    dsimp only at C1 C2 C3 C4 C5 C6
    replace C1 := Lib.hid C1
    replace C2 := Lib.hid C2
    replace C3 := Lib.hid C3
    replace C4 := Lib.hid C4
    replace C5 := Lib.hid C5
    replace C6 := Lib.hid C6
    go_enter Try.func6, Try.ntmps6
    repeat' ((fail_if_success at_builtin); (first | go_skip | go_guarded | go_step))
    refine C1.out.mono ?_; rintro e w' ⟨rfl, rfl⟩; dsimp only
    repeat' ((fail_if_success at_builtin); (first | go_skip | go_guarded | go_step))
    refine C2.out.mono ?_; rintro e w' ⟨rfl, rfl⟩; dsimp only
    repeat' ((fail_if_success at_builtin); (first | go_skip | go_guarded | go_step))
    refine C3.out.mono ?_; rintro e w' ⟨rfl, rfl⟩; dsimp only
    repeat' ((fail_if_success at_builtin); (first | go_skip | go_guarded | go_step))
    refine C4.out.mono ?_; rintro e w' ⟨rfl, rfl⟩; dsimp only
    repeat' ((fail_if_success at_builtin); (first | go_skip | go_guarded | go_step))
    refine C5.out.mono ?_; rintro e w' ⟨rfl, rfl⟩; dsimp only
    repeat' ((fail_if_success at_builtin); (first | go_skip | go_guarded | go_step))
    refine C6.out.mono ?_; rintro e w' ⟨rfl, rfl⟩; dsimp only
    repeat' ((fail_if_success at_builtin); (first | go_skip | go_guarded | go_step))
    refine (lives_any _).mono ?_
    rintro e w1 ⟨rfl, hb⟩
    dsimp only
    repeat' ((fail_if_success at_builtin); (first | go_skip | go_guarded | go_step))
    go_ret
    exact ⟨rfl, hb⟩
end Go.Proofs.Ytjipnomokggcfaa
