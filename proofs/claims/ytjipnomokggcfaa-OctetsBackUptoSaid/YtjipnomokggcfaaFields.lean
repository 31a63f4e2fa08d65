/- Fields, both: contracts. -/
import Derived.Test.YtjipnomokggcfaaRead2
import Derived.Test.YtjipnomokggcfaaRList2
namespace Go.Proofs.Ytjipnomokggcfaa
open Go.RowKit
theorem read_all : ∀ F, ReadOK F
  | 0 => fun d l A n c w B hF => by omega
  | F + 1 => read_body F (read_all F)
theorem rlist_all : ∀ F, ListOK F
  | 0 => fun d q l A n c w B hq hF => by omega
  | F + 1 => rlist_body F (rlist_all F)
/-- a list of fields in blocks of the call's own, or nil and the error's number -/
def RetFields (w : World) : Nat ⊕ Flds → Ending → World → Prop
  | .inl er, e, w' => e = .returned (.tuple #[.slice none 0 0, .int .i64 (er : Int)]) ∧ Below w.heap.size w w'
  | .inr f, e, w' => ∃ A c cs, e = .returned (.tuple #[.slice A f.length c, .int .i64 0]) ∧ Own w w' 27 4 (.slice A f.length c) f.length cs ∧ RepP w' (Fresh w w') f cs
set_option maxRecDepth 100000 in
set_option maxHeartbeats 400000 in
theorem fields_any (l : List UInt8) (A : Option Addr) (n c : Nat) (w : World) (B : Nat) (hl : l.length = n) (hm : n ≤ 1000000000) (hc : n ≤ c) (hB : B ≤ w.heap.size) (hs : Seq w B 1 A n (l.map bv)) :
    Calls Try.prog 27 #[.slice A n c] w (RetFields w (fieldsS l)) := by
  subst hl
  have C := read_all (l.length + 1) 1 l A _ c w B (by omega) rfl hm hc hB hs (by omega)
  have hG := rd_good (l.length + 1) 1 l (by omega)
  unfold fieldsS
  generalize rd (l.length + 1) 1 l = T at C hG ⊢
  replace C := Lib.hid C
  cases T with
  | inl er =>
    have he : ((er : Int) != 0) = true := by have := hG.1; simpa using this
    go_enter Try.func27, Try.ntmps27
    repeat' ((fail_if_success at_builtin); (first | go_skip | go_guarded | go_step))
    refine C.out.mono ?_
    rintro e w' ⟨rfl, hb⟩
    dsimp only
    repeat' ((fail_if_success at_builtin); (first | go_skip | go_guarded | go_step))
    go_ret2
    exact ⟨rfl, hb⟩
  | inr p =>
    obtain ⟨f, r⟩ := p
    obtain ⟨k, hk1, hk2, rfl⟩ := hG
    dsimp only
    have hkk : (l.length - (l.drop k).length : Nat) = k := by simp only [List.length_drop]; omega
    replace hkk := Lib.hid hkk
    by_cases hz : k < l.length
    · have hz1 : (l.drop k).length ≠ 0 := by simp only [List.length_drop]; omega
      rw [if_pos hz1]
      clear hz1
      go_enter Try.func27, Try.ntmps27
      repeat' ((fail_if_success at_builtin); (first | go_skip | go_guarded | go_step))
      refine C.out.mono ?_
      rintro e w' ⟨A3, c3, cs3, rfl, hown, hrep⟩
      rw [hkk.out]
      have Hown := Lib.hid hown; clear hown
      have Hrep := Lib.hid hrep; clear hrep
      dsimp only
      have hzz : ((k : Int) < (l.length : Int)) := by omega
      repeat' ((fail_if_success at_builtin); (first | go_skip | go_guarded | go_step))
      go_ret2
      exact ⟨rfl, Hown.out.2⟩
    · have hz1 : ¬ (l.drop k).length ≠ 0 := by simp only [List.length_drop]; omega
      rw [if_neg hz1]
      clear hz1
      go_enter Try.func27, Try.ntmps27
      repeat' ((fail_if_success at_builtin); (first | go_skip | go_guarded | go_step))
      refine C.out.mono ?_
      rintro e w' ⟨A3, c3, cs3, rfl, hown, hrep⟩
      rw [hkk.out]
      have Hown := Lib.hid hown; clear hown
      have Hrep := Lib.hid hrep; clear hrep
      dsimp only
      have hzz : ¬ ((k : Int) < (l.length : Int)) := by omega
      repeat' ((fail_if_success at_builtin); (first | go_skip | go_guarded | go_step))
      go_ret2
      exact ⟨A3, c3, cs3, rfl, Hown.out, Hrep.out⟩
set_option maxRecDepth 100000 in
set_option maxHeartbeats 400000 in
theorem rfields_any (l : List UInt8) (A : Option Addr) (n c : Nat) (w : World) (B : Nat) (hl : l.length = n) (hm : n ≤ 1000000000) (hc : n ≤ c) (hB : B ≤ w.heap.size) (hs : Seq w B 1 A n (l.map bv)) :
    Calls Try.prog 28 #[.slice A n c] w (RetFields w (fieldsS l)) := by
  subst hl
  have C := rlist_all (l.length + 1) 1 0 l A _ c w B (by omega) (by simp) rfl hm hc hB hs (by omega)
  have hG := rd_good (l.length + 1) 1 l (by omega)
  rw [List.drop_zero] at C
  unfold fieldsS
  generalize rd (l.length + 1) 1 l = T at C hG ⊢
  replace C := Lib.hid C
  cases T with
  | inl er =>
    have he : ((er : Int) != 0) = true := by have := hG.1; simpa using this
    go_enter Try.func28, Try.ntmps28
    repeat' ((fail_if_success at_builtin); (first | go_skip | go_guarded | go_step))
    refine C.out.mono ?_
    rintro e w' ⟨⟨k9, hk9, rfl⟩, hb⟩
    dsimp only
    repeat' ((fail_if_success at_builtin); (first | go_skip | go_guarded | go_step))
    go_ret2
    exact ⟨rfl, hb⟩
  | inr p =>
    obtain ⟨f, r⟩ := p
    obtain ⟨k, hk1, hk2, rfl⟩ := hG
    dsimp only
    have hkk : (l.length - (l.drop k).length : Nat) = k := by simp only [List.length_drop]; omega
    replace hkk := Lib.hid hkk
    by_cases hz : k < l.length
    · have hz1 : (l.drop k).length ≠ 0 := by simp only [List.length_drop]; omega
      rw [if_pos hz1]
      clear hz1
      go_enter Try.func28, Try.ntmps28
      repeat' ((fail_if_success at_builtin); (first | go_skip | go_guarded | go_step))
      refine C.out.mono ?_
      rintro e w' ⟨A3, c3, cs3, rfl, hown, hrep⟩
      rw [hkk.out]
      have Hown := Lib.hid hown; clear hown
      have Hrep := Lib.hid hrep; clear hrep
      dsimp only
      have hzz : ((k : Int) < (l.length : Int)) := by omega
      repeat' ((fail_if_success at_builtin); (first | go_skip | go_guarded | go_step))
      go_ret2
      exact ⟨rfl, Hown.out.2⟩
    · have hz1 : ¬ (l.drop k).length ≠ 0 := by simp only [List.length_drop]; omega
      rw [if_neg hz1]
      clear hz1
      go_enter Try.func28, Try.ntmps28
      repeat' ((fail_if_success at_builtin); (first | go_skip | go_guarded | go_step))
      refine C.out.mono ?_
      rintro e w' ⟨A3, c3, cs3, rfl, hown, hrep⟩
      rw [hkk.out]
      have Hown := Lib.hid hown; clear hown
      have Hrep := Lib.hid hrep; clear hrep
      dsimp only
      have hzz : ¬ ((k : Int) < (l.length : Int)) := by omega
      repeat' ((fail_if_success at_builtin); (first | go_skip | go_guarded | go_step))
      go_ret2
      exact ⟨A3, c3, cs3, rfl, Hown.out, Hrep.out⟩
end Go.Proofs.Ytjipnomokggcfaa
