/- Secret: lists of patterns, the text. -/
import Derived.Test.YtgloblokkejgmaaDoorSeG
namespace Go.Proofs.YtgloblokkejgmaaDoor
open Go.RowKit
theorem StrsR.at_ {w : World} {S : Nat → Prop} {A : Option Addr} {c i : Nat} {l : List ByteArray} {s : ByteArray} (h : StrsR w S A c l) (hx : l[i]? = some s) : ∃ b o, A = some ⟨b, o, none⟩ ∧ S b ∧ w.cell? ⟨b, o + i, none⟩ = some (.string s) := by
  have hi := (List.getElem?_eq_some_iff.1 hx).1
  obtain ⟨b, o, hA, hb, hc⟩ := h.seq.2 (by omega)
  exact ⟨b, o, hA, hb, hc i _ (by rw [List.getElem?_map, hx]; rfl)⟩
theorem patE_at {l : List ByteArray} {i : Nat} {s : ByteArray} (h : l[i]? = some s) : patE vgE (l.drop i) = if vgE (patP s.data.toList) ≠ 0 then vgE (patP s.data.toList) else patE vgE (l.drop (i + 1)) := by
  obtain ⟨h1, h2⟩ := List.getElem?_eq_some_iff.1 h
  rw [List.drop_eq_getElem_cons h1, h2]
  rfl
theorem patE_end {l : List ByteArray} {i : Nat} (h : l.length ≤ i) : patE vgE (l.drop i) = 0 := by
  rw [List.drop_of_length_le h]
  rfl
set_option maxRecDepth 100000 in
set_option maxHeartbeats 2000000 in
theorem patterns_any (l : List ByteArray) (A : Option Addr) (c : Nat) (w : World) (h : StrsR w (fun b => b < w.heap.size) A c l) (hl : l.length ≤ 1000000) (hm : ∀ s ∈ l, s.size ≤ 1000000) :
    Calls Tryd.prog 28 #[.slice A l.length c] w fun e w' => e = .returned (.int .i64 (patE vgE l)) ∧ Below w.heap.size w w' := by
  go_enter Tryd.func28, Tryd.ntmps28
  replace hm := Lib.hid hm
  obtain ⟨R, hR⟩ : ∃ R, R = patE vgE l := ⟨_, rfl⟩
  rw [← hR]
  replace hR := Lib.hid hR
  repeat' ((fail_if_success at_builtin); (first | go_skip | go_guarded | go_step))
  go_loopw [8] (fun u8 wr => ∃ i : Nat, i ≤ l.length ∧ u8 = .int .i64 (i : Int) ∧ Below w.heap.size w wr ∧ R = patE vgE (l.drop i)) (fun u8 _ => l.length - (intOf u8).toNat)
  case atStart => exact ⟨0, by omega, rfl, Below.refl _ _, by rw [hR.out]; simp⟩
  case round =>
    clear hR
    obtain ⟨i, hi, rfl, hb, hp⟩ := hrel
    have i0 : (0 : Int) ≤ (i : Int) := by omega
    have i2 : IntKind.i64.wrap ((i : Int) + 1) = (i : Int) + 1 := IntWalk.i64_in _ (by omega)
    by_cases hlt : i < l.length
    · have i1 : (i : Int) < (l.length : Int) := by omega
      obtain ⟨x, hx⟩ : ∃ x, l[i]? = some x := ⟨_, List.getElem?_eq_getElem (by omega)⟩
      obtain ⟨g, o, rfl, hg, hc⟩ := h.at_ hx
      have e0 := (hb.cell (p := ⟨g, o + i, none⟩) hg).trans hc
      have hxs := hm.out x (List.mem_of_getElem? hx)
      rw [patE_at hx] at hp
      have C1 := trim_any x wr (by omega)
      have C2 := gvalid_any (patB x) wr (by have := patB_size x; omega)
      rw [patB_list] at C2
      generalize patB x = y at C1 C2
      generalize vgE (patP x.data.toList) = q at *
      clear hc hx
      replace hp := Lib.hid hp
      replace C1 := Lib.hid C1
      replace C2 := Lib.hid C2
      repeat' ((fail_if_success at_builtin); (first | go_skip | go_guarded | go_step))
      refine C1.out.mono ?_
      clear C1
      rintro e w1 ⟨rfl, rfl⟩
      dsimp only
      repeat' ((fail_if_success at_builtin); (first | go_skip | go_guarded | go_step))
      refine C2.out.mono ?_
      clear C2
      rintro e w2 ⟨rfl, hb2⟩
      dsimp only
      have hb3 := hb.trans (hb2.mono hb.size)
      by_cases hq : q = 0
      · subst hq
        have hr := hp.out
        rw [if_neg (by simp)] at hr
        replace hr := Lib.hid hr
        repeat' ((fail_if_success at_builtin); (first | go_skip | go_guarded | go_step))
        go_roundw
        case rel => exact ⟨i + 1, by omega, by first | rfl | go_num, hb3, hr.out⟩
        case measure => (try go_num); (try simp [intOf]); (try omega)
      · have hr := hp.out
        rw [if_pos hq] at hr
        have hq' : (q == 0) = false := by simpa using hq
        replace hr := Lib.hid hr
        repeat' ((fail_if_success at_builtin); (first | go_skip | go_guarded | go_step))
        go_ret
        exact ⟨by rw [hr.out]; rfl, hb3⟩
    · have i1 : ¬ (i : Int) < (l.length : Int) := by omega
      rw [patE_end (by omega)] at hp
      replace hp := Lib.hid hp
      repeat' ((fail_if_success at_builtin); (first | go_skip | go_guarded | go_step))
      go_ret
      exact ⟨by rw [hp.out]; rfl, hb⟩
set_option maxRecDepth 100000 in
set_option maxHeartbeats 2000000 in
theorem refPatterns_any (l : List ByteArray) (A : Option Addr) (c : Nat) (w : World) (h : StrsR w (fun b => b < w.heap.size) A c l) (hl : l.length ≤ 1000000) (hm : ∀ s ∈ l, s.size ≤ 800000) :
    Calls Tryd.prog 31 #[.slice A l.length c] w fun e w' => e = .returned (.int .i64 (patE vgE l)) ∧ Below w.heap.size w w' := by
  go_enter Tryd.func31, Tryd.ntmps31
  replace hm := Lib.hid hm
  obtain ⟨R, hR⟩ : ∃ R, R = patE vgE l := ⟨_, rfl⟩
  rw [← hR]
  replace hR := Lib.hid hR
  repeat' ((fail_if_success at_builtin); (first | go_skip | go_guarded | go_step))
  go_loopw [3] (fun u8 wr => ∃ i : Nat, i ≤ l.length ∧ u8 = .int .i64 (i : Int) ∧ Below w.heap.size w wr ∧ R = patE vgE (l.drop i)) (fun u8 _ => l.length - (intOf u8).toNat)
  case atStart => exact ⟨0, by omega, rfl, Below.refl _ _, by rw [hR.out]; simp⟩
  case round =>
    clear hR
    obtain ⟨i, hi, rfl, hb, hp⟩ := hrel
    have i0 : (0 : Int) ≤ (i : Int) := by omega
    have i2 : IntKind.i64.wrap ((i : Int) + 1) = (i : Int) + 1 := IntWalk.i64_in _ (by omega)
    by_cases hlt : i < l.length
    · have i1 : (i : Int) < (l.length : Int) := by omega
      obtain ⟨x, hx⟩ : ∃ x, l[i]? = some x := ⟨_, List.getElem?_eq_getElem (by omega)⟩
      obtain ⟨g, o, rfl, hg, hc⟩ := h.at_ hx
      have e0 := (hb.cell (p := ⟨g, o + i, none⟩) hg).trans hc
      have hxs := hm.out x (List.mem_of_getElem? hx)
      rw [patE_at hx] at hp
      have C1 := pattern_any x wr (by omega)
      have C2 := rgvalid_any (patB x) wr (by have := patB_size x; omega)
      rw [patB_list] at C2
      generalize patB x = y at C1 C2
      generalize vgE (patP x.data.toList) = q at *
      clear hc hx
      replace hp := Lib.hid hp
      replace C1 := Lib.hid C1
      replace C2 := Lib.hid C2
      repeat' ((fail_if_success at_builtin); (first | go_skip | go_guarded | go_step))
      refine C1.out.mono ?_
      clear C1
      rintro e w1 ⟨rfl, rfl⟩
      dsimp only
      repeat' ((fail_if_success at_builtin); (first | go_skip | go_guarded | go_step))
      refine C2.out.mono ?_
      clear C2
      rintro e w2 ⟨rfl, hb2⟩
      dsimp only
      have hb3 := hb.trans (hb2.mono hb.size)
      by_cases hq : q = 0
      · subst hq
        have hr := hp.out
        rw [if_neg (by simp)] at hr
        replace hr := Lib.hid hr
        repeat' ((fail_if_success at_builtin); (first | go_skip | go_guarded | go_step))
        go_roundw
        case rel => exact ⟨i + 1, by omega, by first | rfl | go_num, hb3, hr.out⟩
        case measure => (try go_num); (try simp [intOf]); (try omega)
      · have hr := hp.out
        rw [if_pos hq] at hr
        have hq' : (q == 0) = false := by simpa using hq
        replace hr := Lib.hid hr
        repeat' ((fail_if_success at_builtin); (first | go_skip | go_guarded | go_step))
        go_ret
        exact ⟨by rw [hr.out]; rfl, hb3⟩
    · have i1 : ¬ (i : Int) < (l.length : Int) := by omega
      rw [patE_end (by omega)] at hp
      replace hp := Lib.hid hp
      repeat' ((fail_if_success at_builtin); (first | go_skip | go_guarded | go_step))
      go_ret
      exact ⟨by rw [hp.out]; rfl, hb⟩
def chL (c : Nat) : Bool := decide (33 ≤ c) && (decide (c ≤ 126) && decide (c ≠ 42))
theorem textL_at {l : List UInt8} {i : Nat} {c : UInt8} (h : l[i]? = some c) : textL (l.drop i) = (chL c.toNat && textL (l.drop (i + 1))) := by
  obtain ⟨h1, h2⟩ := List.getElem?_eq_some_iff.1 h
  rw [List.drop_eq_getElem_cons h1, h2]
  rfl
theorem textL_end {l : List UInt8} {i : Nat} (h : l.length ≤ i) : textL (l.drop i) = true := by
  rw [List.drop_of_length_le h]
  rfl
theorem chL_t {c : Nat} (h1 : 33 ≤ c) (h2 : c ≤ 126) (h3 : c ≠ 42) : chL c = true := by unfold chL; rw [decide_eq_true h1, decide_eq_true h2, decide_eq_true h3]; rfl
theorem chL_f {c : Nat} (h : c < 33 ∨ 126 < c ∨ c = 42) : chL c = false := by
  unfold chL
  rcases h with h | h | h
  · rw [decide_eq_false (by omega)]; rfl
  · rw [decide_eq_false (p := c ≤ 126) (by omega), Bool.false_and, Bool.and_false]
  · rw [decide_eq_false (p := c ≠ 42) (by omega), Bool.and_false, Bool.and_false]
set_option maxRecDepth 100000 in
set_option maxHeartbeats 2000000 in
theorem text_any (s : ByteArray) (w : World) (hs : s.size ≤ 1000000) : Calls Tryd.prog 30 #[.string s] w fun e w' => e = .returned (.bool (textL s.data.toList)) ∧ Below w.heap.size w w' := by
  have hsz := list_size s
  go_enter Tryd.func30, Tryd.ntmps30
  obtain ⟨R, hR⟩ : ∃ R, R = textL s.data.toList := ⟨_, rfl⟩
  rw [← hR]
  replace hR := Lib.hid hR
  repeat' ((fail_if_success at_builtin); (first | go_skip | go_guarded | go_step))
  go_loopw [3] (fun u3 wr => ∃ i : Nat, i ≤ s.size ∧ u3 = .int .i64 (i : Int) ∧ Below w.heap.size w wr ∧ R = textL (s.data.toList.drop i)) (fun u3 _ => s.size - (intOf u3).toNat)
  case atStart => exact ⟨0, by omega, rfl, Below.refl _ _, by rw [hR.out]; simp⟩
  case round =>
    clear hR
    obtain ⟨i, hi, rfl, hb, hp⟩ := hrel
    have i0 : (0 : Int) ≤ (i : Int) := by omega
    have i2 : IntKind.i64.wrap ((i : Int) + 1) = (i : Int) + 1 := IntWalk.i64_in _ (by omega)
    by_cases hlt : i < s.size
    · have i1 : (i : Int) < (s.size : Int) := by omega
      have hci := str_at hlt
      rw [textL_at hci] at hp
      clear hci
      by_cases q1 : s[i].toNat < 33
      · have hch := chL_f (.inl q1)
        have p1 : (s[i].toNat : Int) < 33 := by omega
        rw [hch, Bool.false_and] at hp
        clear hch
        replace hp := Lib.hid hp
        repeat' ((fail_if_success at_builtin); (first | go_skip | go_guarded | go_step))
        go_ret
        exact ⟨by rw [hp.out]; rfl, hb⟩
      by_cases q2 : 126 < s[i].toNat
      · have hch := chL_f (.inr (.inl q2))
        have p1 : ¬ (s[i].toNat : Int) < 33 := by omega
        have p2 : (126 : Int) < (s[i].toNat : Int) := by omega
        rw [hch, Bool.false_and] at hp
        clear hch
        replace hp := Lib.hid hp
        repeat' ((fail_if_success at_builtin); (first | go_skip | go_guarded | go_step))
        go_ret
        exact ⟨by rw [hp.out]; rfl, hb⟩
      by_cases q3 : s[i].toNat = 42
      · have hch := chL_f (.inr (.inr q3))
        have p1 : ¬ (s[i].toNat : Int) < 33 := by omega
        have p2 : ¬ (126 : Int) < (s[i].toNat : Int) := by omega
        have p3 : ((s[i].toNat : Int) == 42) = true := by simp; omega
        rw [hch, Bool.false_and] at hp
        clear hch
        replace hp := Lib.hid hp
        repeat' ((fail_if_success at_builtin); (first | go_skip | go_guarded | go_step))
        go_ret
        exact ⟨by rw [hp.out]; rfl, hb⟩
      have hch := chL_t (by omega) (by omega) q3
      have p1 : ¬ (s[i].toNat : Int) < 33 := by omega
      have p2 : ¬ (126 : Int) < (s[i].toNat : Int) := by omega
      have p3 : ((s[i].toNat : Int) == 42) = false := by simp; omega
      rw [hch, Bool.true_and] at hp
      clear hch
      replace hp := Lib.hid hp
      repeat' ((fail_if_success at_builtin); (first | go_skip | go_guarded | go_step))
      go_roundw
      case rel => exact ⟨i + 1, by omega, by first | rfl | go_num, hb, hp.out⟩
      case measure => (try go_num); (try simp [intOf]); (try omega)
    · have i1 : ¬ (i : Int) < (s.size : Int) := by omega
      rw [textL_end (by omega)] at hp
      replace hp := Lib.hid hp
      repeat' ((fail_if_success at_builtin); (first | go_skip | go_guarded | go_step))
      go_ret
      exact ⟨by rw [hp.out]; rfl, hb⟩
end Go.Proofs.YtgloblokkejgmaaDoor
