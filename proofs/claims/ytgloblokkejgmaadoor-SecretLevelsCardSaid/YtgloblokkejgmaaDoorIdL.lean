/- Lists of names: is one of them equal to a string, are two lists equal, do they ascend: both sides. -/
import Derived.Test.YtgloblokkejgmaaDoorCmpW
namespace Go.Proofs.YtgloblokkejgmaaDoor
open Go.RowKit
abbrev toLs (l : List ByteArray) : List (List UInt8) := l.map fun p => p.data.toList
abbrev cellsS (l : List ByteArray) : List Value := l.map Value.string
/-- are two lists equal -/
def sameL : List ByteArray → List ByteArray → Bool
  | [], [] => true
  | a :: l, b :: m => a.toList == b.toList && sameL l m
  | _, _ => false
/-- does a list hold a string -/
def hasL : List ByteArray → ByteArray → Bool
  | [], _ => false
  | a :: l, s => a.toList == s.toList || hasL l s
/-- does a list ascend -/
def ascL : List ByteArray → Bool
  | [] => true
  | [_] => true
  | a :: b :: l => decide (cmpN a.data.toList b.data.toList < 0) && ascL (b :: l)
theorem list_cons {α : Type} {l : List α} {i : Nat} (h : i < l.length) : l.drop i = l[i] :: l.drop (i + 1) := List.drop_eq_getElem_cons h
theorem sameL_eq : ∀ {l m : List ByteArray}, sameL l m = true ↔ l = m
  | [], [] => by simp [sameL]
  | [], _ :: _ => by simp [sameL]
  | _ :: _, [] => by simp [sameL]
  | a :: l, b :: m => by
    unfold sameL
    rw [Bool.and_eq_true_iff, sameL_eq]
    constructor
    · rintro ⟨h1, h2⟩
      have h3 : a.toList = b.toList := by simpa using h1
      rw [ByteArray.toList_eq, ByteArray.toList_eq] at h3
      rw [h2]
      congr 1
      cases a; cases b
      simp only [Array.toList_inj] at h3
      rw [h3]
    · intro h
      injection h with h1 h2
      exact ⟨by simp [h1], h2⟩
theorem sameL_len : ∀ {l m : List ByteArray}, l.length ≠ m.length → sameL l m = false := fun {l m} h => by
  cases hq : sameL l m with
  | false => rfl
  | true => exact absurd (by rw [sameL_eq.1 hq]) h
theorem sameL_refl (l : List ByteArray) : sameL l l = true := sameL_eq.2 rfl
theorem hasL_mem {l : List ByteArray} {s : ByteArray} : hasL l s = true ↔ s ∈ l := by
  induction l with
  | nil => simp [hasL]
  | cons a l ih =>
    unfold hasL
    rw [Bool.or_eq_true, ih, List.mem_cons]
    constructor
    · rintro (h | h)
      · have h3 : a.toList = s.toList := by simpa using h
        rw [ByteArray.toList_eq, ByteArray.toList_eq] at h3
        left
        cases a; cases s
        simp only [Array.toList_inj] at h3
        rw [h3]
      · exact .inr h
    · rintro (h | h)
      · left; simp [h]
      · exact .inr h
set_option maxRecDepth 100000 in
theorem refHas_any (l : List ByteArray) (s : ByteArray) (A : Option Addr) (c B : Nat) (w : World) (hs : Seq w B 1 A l.length (cellsS l)) (hl : l.length ≤ 9223372036854775807) :
    Calls Tryd.prog 25 #[.slice A l.length c, .string s] w fun e w' => e = .returned (.bool (hasL l s)) ∧ w' = w := by
  go_enter Tryd.func25, Tryd.ntmps25
  repeat' ((fail_if_success at_builtin); (first | go_skip | go_guarded | go_step))
  go_loopw [5] (fun u5 wr => ∃ i : Nat, i ≤ l.length ∧ u5 = .int .i64 (i : Int) ∧ wr = w ∧ hasL l s = hasL (l.drop i) s) (fun u5 _ => l.length - (intOf u5).toNat)
  case atStart => exact ⟨0, by omega, rfl, rfl, rfl⟩
  case round =>
    obtain ⟨i, hi, rfl, rfl, hall⟩ := hrel
    by_cases hlt : i < l.length
    · obtain ⟨b, o, rfl, hbB, hcell⟩ := hs.2 (by omega)
      have hci : l[i]? = some l[i] := List.getElem?_eq_getElem hlt
      have e1 := hcell i (.string l[i]) (by rw [List.getElem?_map, hci]; rfl)
      rw [list_cons hlt, hasL] at hall
      have i0 : (0 : Int) ≤ (i : Int) := by omega
      have i1 : (i : Int) < (l.length : Int) := by omega
      generalize l[i] = x at e1 hall
      clear hci hcell
      cases hx : x.toList == s.toList with
      | true =>
        rw [hx, Bool.true_or] at hall
        replace hall := Lib.hid hall
        repeat' ((fail_if_success at_builtin); (first | go_skip | go_guarded | go_step))
        go_ret
        exact ⟨by rw [hall.out]; rfl, rfl⟩
      | false =>
        rw [hx, Bool.false_or] at hall
        replace hall := Lib.hid hall
        repeat' ((fail_if_success at_builtin); (first | go_skip | go_guarded | go_step))
        go_roundw
        case rel => exact ⟨i + 1, by omega, by go_num, trivial, hall.out⟩
        case measure => simp [intOf]; omega
    · rw [List.drop_of_length_le (by omega)] at hall
      have i1 : ¬ ((i : Int) < (l.length : Int)) := by omega
      replace hall := Lib.hid hall
      repeat' ((fail_if_success at_builtin); (first | go_skip | go_guarded | go_step))
      go_ret
      exact ⟨by rw [hall.out]; rfl, rfl⟩
set_option maxRecDepth 100000 in
theorem refSame_any (l m : List ByteArray) (A A' : Option Addr) (c c' B B' : Nat) (w : World) (hs : Seq w B 1 A l.length (cellsS l)) (hs' : Seq w B' 1 A' m.length (cellsS m)) (hl : l.length ≤ 9223372036854775807) :
    Calls Tryd.prog 22 #[.slice A l.length c, .slice A' m.length c'] w fun e w' => e = .returned (.bool (sameL l m)) ∧ Below w.heap.size w w' := by
  by_cases hlen : l.length = m.length
  · have hq : ((l.length : Int) != (m.length : Int)) = false := by simp [hlen]
    rw [← hlen] at hs'
    go_enter Tryd.func22, Tryd.ntmps22
    repeat' ((fail_if_success at_builtin); (first | go_skip | go_guarded | go_step))
    go_loopw [5] (fun u5 wr => ∃ i : Nat, i ≤ l.length ∧ u5 = .int .i64 (i : Int) ∧ Below w.heap.size w wr ∧ (∀ p : Addr, wr.cell? p = w.cell? p) ∧ sameL l m = sameL (l.drop i) (m.drop i)) (fun u5 _ => l.length - (intOf u5).toNat)
    case atStart => exact ⟨0, by omega, rfl, Below.refl _ _, fun _ => rfl, rfl⟩
    case round =>
      obtain ⟨i, hi, rfl, hbw, hk, hall⟩ := hrel
      obtain ⟨wx, hwx⟩ : ∃ wx : World, wx = wr := ⟨wr, rfl⟩
      subst hwx
      by_cases hlt : i < l.length
      · obtain ⟨b, o, rfl, hbB, hcell⟩ := hs.2 (by omega)
        obtain ⟨b', o', rfl, hbB', hcell'⟩ := hs'.2 (by omega)
        have hlt' : i < m.length := by omega
        have hci : l[i]? = some l[i] := List.getElem?_eq_getElem hlt
        have hci' : m[i]? = some m[i] := List.getElem?_eq_getElem hlt'
        have e1 := (hk ⟨b, o + i, none⟩).trans (hcell i (.string l[i]) (by rw [List.getElem?_map, hci]; rfl))
        have e2 := (hk ⟨b', o' + i, none⟩).trans (hcell' i (.string m[i]) (by rw [List.getElem?_map, hci']; rfl))
        rw [list_cons hlt, list_cons hlt', sameL] at hall
        have i0 : (0 : Int) ≤ (i : Int) := by omega
        have i1 : (i : Int) < (l.length : Int) := by omega
        have i2 : (i : Int) < (m.length : Int) := by omega
        generalize l[i] = x at e1 hall
        generalize m[i] = y at e2 hall
        clear hci hcell hci' hcell'
        replace hk := Lib.hid hk
        cases hx : x.toList == y.toList with
        | true =>
          rw [hx, Bool.true_and] at hall
          replace hall := Lib.hid hall
          repeat' ((fail_if_success at_builtin); (first | go_skip | go_guarded | go_step))
          go_quiet (fail)
          have hbz := hbw.trans (Below.mono (Below.drewN wx nq) hbw.size)
          have hkz : ∀ p : Addr, (wx.drewN nq).cell? p = w.cell? p := fun p => hk.out p
          generalize wx.drewN nq = wz at *
          repeat' ((fail_if_success at_builtin); (first | go_skip | go_guarded | go_step))
          go_roundw
          case rel => exact ⟨i + 1, by omega, by go_num, hbz, hkz, hall.out⟩
          case measure => simp [intOf]; omega
        | false =>
          rw [hx, Bool.false_and] at hall
          replace hall := Lib.hid hall
          repeat' ((fail_if_success at_builtin); (first | go_skip | go_guarded | go_step))
          go_quiet (fail)
          have hbz := hbw.trans (Below.mono (Below.drewN wx nq) hbw.size)
          generalize wx.drewN nq = wz at *
          repeat' ((fail_if_success at_builtin); (first | go_skip | go_guarded | go_step))
          go_ret
          exact ⟨by rw [hall.out]; rfl, hbz⟩
      · rw [List.drop_of_length_le (by omega), List.drop_of_length_le (by omega)] at hall
        have i1 : ¬ ((i : Int) < (l.length : Int)) := by omega
        replace hall := Lib.hid hall
        replace hk := Lib.hid hk
        repeat' ((fail_if_success at_builtin); (first | go_skip | go_guarded | go_step))
        go_ret
        exact ⟨by rw [hall.out]; rfl, hbw⟩
  · have hq : ((l.length : Int) != (m.length : Int)) = true := by simpa using (by omega : ¬ (l.length : Int) = (m.length : Int))
    have hN := sameL_len hlen
    replace hN := Lib.hid hN
    clear hlen
    go_enter Tryd.func22, Tryd.ntmps22
    repeat' ((fail_if_success at_builtin); (first | go_skip | go_guarded | go_step))
    go_ret
    exact ⟨by rw [hN.out]; rfl, Below.refl _ _⟩
end Go.Proofs.YtgloblokkejgmaaDoor
