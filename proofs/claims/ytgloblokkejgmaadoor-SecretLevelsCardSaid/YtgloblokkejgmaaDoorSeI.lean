/- Secret: IndexFunc, ContainsFunc, closures. -/
import Derived.Test.YtgloblokkejgmaaDoorSeA
import Derived.Shelf.Abstract
namespace Go.Proofs.YtgloblokkejgmaaDoor
open Go.RowKit
theorem sameN_def (s : ByteArray) (x : Sec) : sameN s.data.toList x = (x.name.toList == s.toList) := by unfold sameN; rw [ByteArray.toList_eq, ByteArray.toList_eq]
def posI {α : Type} (f : α → Bool) (l : List α) : Int := if posA f l < l.length then (posA f l : Int) else -1
theorem posA_hit {α : Type} {f : α → Bool} {l : List α} {i : Nat} {x : α} (hx : l[i]? = some x) (h : posA f l = i + posA f (l.drop i)) (hf : f x = true) : posI f l = (i : Int) := by
  have hi := (List.getElem?_eq_some_iff.1 hx).1
  have e : posA f (l.drop i) = 0 := by
    rw [List.drop_eq_getElem_cons hi, (List.getElem?_eq_some_iff.1 hx).2]
    unfold posA
    rw [if_pos hf]
  unfold posI
  rw [h, e, Nat.add_zero, if_pos hi]
theorem posA_miss {α : Type} {f : α → Bool} {l : List α} {i : Nat} {x : α} (hx : l[i]? = some x) (h : posA f l = i + posA f (l.drop i)) (hf : f x = false) : posA f l = (i + 1) + posA f (l.drop (i + 1)) := by
  have hi := (List.getElem?_eq_some_iff.1 hx).1
  have e : posA f (l.drop i) = posA f (l.drop (i + 1)) + 1 := by
    rw [List.drop_eq_getElem_cons hi, (List.getElem?_eq_some_iff.1 hx).2]
    show (if f x = true then 0 else _) = _
    rw [if_neg (by rw [hf]; simp)]
  omega
theorem posA_end {α : Type} {f : α → Bool} {l : List α} {i : Nat} (hi : l.length ≤ i) (h : posA f l = i + posA f (l.drop i)) : posI f l = -1 := by
  unfold posI
  rw [if_neg (by omega)]
theorem posI_nonneg {α : Type} (f : α → Bool) (l : List α) : decide (0 ≤ posI f l) = l.any f := by
  rw [Bool.eq_iff_iff, decide_eq_true_eq, List.any_eq_true, ← posA_lt]
  unfold posI
  split <;> rename_i h
  · exact ⟨fun _ => h, fun _ => by omega⟩
  · exact ⟨fun h => by omega, fun h2 => absurd h2 h⟩
set_option maxRecDepth 100000 in
set_option maxHeartbeats 2000000 in
theorem idxS_any (fn p : Nat) (eg : ∀ args w, (callFunc fn args).run Tryd.prog w = .ok (.enter fn args) w) (f : Sec → Bool) (l : List Sec) (A : Option Addr) (n c : Nat) (w : World) (h : Secs w A n c l)
    (hf : ∀ x ∈ l, ∀ A1 c1 A2 c2 w', Below w.heap.size w w' → Calls Tryd.prog fn #[.agg #[.string x.name, .string x.text, .int .i64 x.level, .slice A1 x.refs.length c1, .slice A2 x.envs.length c2], .pointer (some ⟨p, 0, none⟩)] w' fun e w2 => e = .returned (.bool (f x)) ∧ Below w'.heap.size w' w2) :
    Calls Tryd.prog 33 #[.slice A n c, .func (.func fn) #[] #[.pointer (some ⟨p, 0, none⟩)]] w fun e w' => e = .returned (.int .i64 (posI f l)) ∧ Below w.heap.size w w' := by
  go_enter Tryd.func33, Tryd.ntmps33
  have hn := h.n
  have hl := h.len
  replace hn := Lib.hid hn
  replace hf := Lib.hid hf
  repeat' ((fail_if_success at_builtin); (first | go_skip | go_guarded | go_step))
  go_loopw [8] (fun u8 wr => ∃ i : Nat, i ≤ n ∧ u8 = .int .i64 (i : Int) ∧ Below w.heap.size w wr ∧ posA f l = i + posA f (l.drop i)) (fun u8 _ => n - (intOf u8).toNat)
  case atStart => exact ⟨0, by omega, rfl, Below.refl _ _, by simp⟩
  case round =>
    obtain ⟨i, hi, rfl, hb, hp⟩ := hrel
    replace hp := Lib.hid hp
    have i0 : (0 : Int) ≤ (i : Int) := by omega
    have i2 : IntKind.i64.wrap ((i : Int) + 1) = (i : Int) + 1 := IntWalk.i64_in _ (by have := hn.out; omega)
    by_cases hlt : i < n
    · have i1 : (i : Int) < (n : Int) := by omega
      obtain ⟨x, hx⟩ : ∃ x, l[i]? = some x := ⟨_, List.getElem?_eq_getElem (by have := hn.out; omega)⟩
      obtain ⟨g, o, A1, c1, A2, c2, rfl, hg, hS⟩ := sec_at h.rd hx
      have hS2 := hS.below hg hb
      have C := hf.out x (List.mem_of_getElem? hx) A1 c1 A2 c2 wr hb
      have e0 := hS2.e0
      have e1 := hS2.e1
      have e2 := hS2.e2
      have e3 := hS2.e3
      have e4 := hS2.e4
      clear hS hS2 hf
      replace C := Lib.hid C
      replace hx := Lib.hid hx
      repeat' ((fail_if_success at_builtin); (first | go_skip | go_guarded | go_step))
      refine C.out.mono ?_
      clear C
      rintro e w2 ⟨rfl, hb2⟩
      dsimp only
      have hb3 := hb.trans (hb2.mono hb.size)
      cases hv : f x with
      | true =>
        have hr := posA_hit hx.out hp.out hv
        replace hr := Lib.hid hr
        repeat' ((fail_if_success at_builtin); (first | go_skip | go_guarded | go_step))
        go_ret
        exact ⟨by rw [hr.out]; rfl, hb3⟩
      | false =>
        have hr := posA_miss hx.out hp.out hv
        replace hr := Lib.hid hr
        repeat' ((fail_if_success at_builtin); (first | go_skip | go_guarded | go_step))
        go_roundw
        case rel => exact ⟨i + 1, by omega, by first | rfl | go_num, hb3, hr.out⟩
        case measure => (try go_num); (try simp [intOf]); (try omega)
    · have i1 : ¬ (i : Int) < (n : Int) := by omega
      have hr := posA_end (by rw [hn.out]; omega) hp.out
      replace hr := Lib.hid hr
      repeat' ((fail_if_success at_builtin); (first | go_skip | go_guarded | go_step))
      go_ret
      exact ⟨by rw [hr.out]; rfl, hb⟩
set_option maxRecDepth 100000 in
set_option maxHeartbeats 2000000 in
theorem cfS_any (fn p : Nat) (eg : ∀ args w, (callFunc fn args).run Tryd.prog w = .ok (.enter fn args) w) (f : Sec → Bool) (l : List Sec) (A : Option Addr) (n c : Nat) (w : World) (h : Secs w A n c l)
    (hf : ∀ x ∈ l, ∀ A1 c1 A2 c2 w', Below w.heap.size w w' → Calls Tryd.prog fn #[.agg #[.string x.name, .string x.text, .int .i64 x.level, .slice A1 x.refs.length c1, .slice A2 x.envs.length c2], .pointer (some ⟨p, 0, none⟩)] w' fun e w2 => e = .returned (.bool (f x)) ∧ Below w'.heap.size w' w2) :
    Calls Tryd.prog 48 #[.slice A n c, .func (.func fn) #[] #[.pointer (some ⟨p, 0, none⟩)]] w fun e w' => e = .returned (.bool (l.any f)) ∧ Below w.heap.size w w' := by
  have C := idxS_any fn p eg f l A n c w h hf
  have hr := posI_nonneg f l
  generalize posI f l = q at C hr
  replace C := Lib.hid C
  replace hr := Lib.hid hr
  clear hf
  go_enter Tryd.func48, Tryd.ntmps48
  repeat' ((fail_if_success at_builtin); (first | go_skip | go_guarded | go_step))
  refine C.out.mono ?_
  clear C
  rintro e w1 ⟨rfl, hb1⟩
  dsimp only
  repeat' ((fail_if_success at_builtin); (first | go_skip | go_guarded | go_step))
  go_ret
  exact ⟨by rw [← hr.out]; first | rfl | simp [ge_iff_le], hb1⟩
set_option maxRecDepth 100000 in
set_option maxHeartbeats 2000000 in
theorem put1_any (x : Sec) (A1 : Option Addr) (c1 : Nat) (A2 : Option Addr) (c2 : Nat) (s : ByteArray) (p : Nat) (w : World) (hp : w.cell? ⟨p, 0, none⟩ = some (.string s)) :
    Calls Tryd.prog 34 #[.agg #[.string x.name, .string x.text, .int .i64 x.level, .slice A1 x.refs.length c1, .slice A2 x.envs.length c2], .pointer (some ⟨p, 0, none⟩)] w fun e w' => e = .returned (.bool (sameN s.data.toList x)) ∧ Below w.heap.size w w' := by
  have hp0 : p < w.heap.size := World.block_lt_of_cell? w _ hp
  have hb0 := (Below.refl w.heap.size w).alloc (Nat.le_refl _) (.cells #[.string x.name, .string x.text, .int .i64 x.level, .slice A1 x.refs.length c1, .slice A2 x.envs.length c2] secT)
  have q0 := (hb0.cell (p := ⟨p, 0, none⟩) hp0).trans hp
  have e0 := (CellsAt.new w #[.string x.name, .string x.text, .int .i64 x.level, .slice A1 x.refs.length c1, .slice A2 x.envs.length c2] secT).cell 0 _ rfl
  go_enter Tryd.func34, Tryd.ntmps34
  go_upto_region 1 with (fail)
  generalize World.alloc w _ = w1 at *
  clear hp
  repeat' ((fail_if_success at_builtin); (first | go_skip | go_guarded | go_step))
  go_ret
  exact ⟨by rw [sameN_def]; rfl, hb0⟩
set_option maxRecDepth 100000 in
set_option maxHeartbeats 2000000 in
theorem put2_any (x : Sec) (A1 : Option Addr) (c1 : Nat) (A2 : Option Addr) (c2 : Nat) (s : ByteArray) (p : Nat) (w : World) (hp : w.cell? ⟨p, 0, none⟩ = some (.string s)) (h1 : x.name.size ≤ 4611686018427387904) (h2 : s.size ≤ 4611686018427387904) :
    Calls Tryd.prog 36 #[.agg #[.string x.name, .string x.text, .int .i64 x.level, .slice A1 x.refs.length c1, .slice A2 x.envs.length c2], .pointer (some ⟨p, 0, none⟩)] w fun e w' => e = .returned (.bool (aftN s.data.toList x)) ∧ Below w.heap.size w w' := by
  have hp0 : p < w.heap.size := World.block_lt_of_cell? w _ hp
  have hb0 := (Below.refl w.heap.size w).alloc (Nat.le_refl _) (.cells #[.string x.name, .string x.text, .int .i64 x.level, .slice A1 x.refs.length c1, .slice A2 x.envs.length c2] secT)
  have q0 := (hb0.cell (p := ⟨p, 0, none⟩) hp0).trans hp
  have e0 := (CellsAt.new w #[.string x.name, .string x.text, .int .i64 x.level, .slice A1 x.refs.length c1, .slice A2 x.envs.length c2] secT).cell 0 _ rfl
  go_enter Tryd.func36, Tryd.ntmps36
  go_upto_region 1 with (fail)
  generalize World.alloc w _ = w1 at *
  clear hp
  repeat' ((fail_if_success at_builtin); (first | go_skip | go_guarded | go_step))
  refine (compare_any x.name s w1 h1 h2).mono ?_
  rintro e w2 ⟨rfl, hb2⟩
  dsimp only
  repeat' ((fail_if_success at_builtin); (first | go_skip | go_guarded | go_step))
  go_ret
  exact ⟨by first | rfl | (unfold aftN; rfl), hb0.trans (hb2.mono hb0.size)⟩
set_option maxRecDepth 100000 in
set_option maxHeartbeats 2000000 in
theorem miss1_any (x : Sec) (A1 : Option Addr) (c1 : Nat) (A2 : Option Addr) (c2 : Nat) (s : ByteArray) (p : Nat) (w : World) (hp : w.cell? ⟨p, 0, none⟩ = some (.string s)) :
    Calls Tryd.prog 49 #[.agg #[.string x.name, .string x.text, .int .i64 x.level, .slice A1 x.refs.length c1, .slice A2 x.envs.length c2], .pointer (some ⟨p, 0, none⟩)] w fun e w' => e = .returned (.bool (sameN s.data.toList x)) ∧ Below w.heap.size w w' := by
  have hp0 : p < w.heap.size := World.block_lt_of_cell? w _ hp
  have hb0 := (Below.refl w.heap.size w).alloc (Nat.le_refl _) (.cells #[.string x.name, .string x.text, .int .i64 x.level, .slice A1 x.refs.length c1, .slice A2 x.envs.length c2] secT)
  have q0 := (hb0.cell (p := ⟨p, 0, none⟩) hp0).trans hp
  have e0 := (CellsAt.new w #[.string x.name, .string x.text, .int .i64 x.level, .slice A1 x.refs.length c1, .slice A2 x.envs.length c2] secT).cell 0 _ rfl
  go_enter Tryd.func49, Tryd.ntmps49
  go_upto_region 1 with (fail)
  generalize World.alloc w _ = w1 at *
  clear hp
  repeat' ((fail_if_success at_builtin); (first | go_skip | go_guarded | go_step))
  go_ret
  exact ⟨by rw [sameN_def]; rfl, hb0⟩
end Go.Proofs.YtgloblokkejgmaaDoor
