/- Lists of names that ascend: both sides. -/
import Derived.Test.YtionchkblgpklaaDoorIdL
namespace Go.Proofs.YtionchkblgpklaaDoor
open Go.RowKit
theorem ascL_at {l : List ByteArray} {j : Nat} (h : j + 1 < l.length) : ascL (l.drop j) = (decide (cmpN l[j].data.toList l[j + 1].data.toList < 0) && ascL (l.drop (j + 1))) := by
  rw [list_cons (i := j) (by omega), list_cons h]
  rfl
theorem ascL_end {l : List ByteArray} {j : Nat} (h : l.length ≤ j + 1) : ascL (l.drop j) = true := by
  by_cases hj : j < l.length
  · rw [list_cons hj, List.drop_of_length_le (by omega)]; rfl
  · rw [List.drop_of_length_le (by omega)]; rfl
set_option maxRecDepth 100000 in
set_option maxHeartbeats 4000000 in
theorem refAsc_any (l : List ByteArray) (A : Option Addr) (c : Nat) (w : World) (hs : Seq w w.heap.size 1 A l.length (cellsS l)) (hl : l.length ≤ 4611686018427387904) (hm : ∀ s ∈ l, s.size ≤ 4611686018427387904) :
    Calls Tryd.prog 25 #[.slice A l.length c] w fun e w' => e = .returned (.bool (ascL l)) ∧ Below w.heap.size w w' := by
  go_enter Tryd.func25, Tryd.ntmps25
  repeat' ((fail_if_success at_builtin); (first | go_skip | go_guarded | go_step))
  go_loopw [3] (fun u3 wr => ∃ i : Nat, 1 ≤ i ∧ i ≤ l.length + 1 ∧ u3 = .int .i64 (i : Int) ∧ Below w.heap.size w wr ∧ ascL l = ascL (l.drop (i - 1))) (fun u3 _ => l.length - (intOf u3).toNat)
  case atStart => exact ⟨1, by omega, by omega, rfl, Below.refl _ _, rfl⟩
  case round =>
    obtain ⟨i, hi0, hi, rfl, hbw, hall⟩ := hrel
    obtain ⟨wx, hwx⟩ : ∃ wx : World, wx = wr := ⟨wr, rfl⟩
    subst hwx
    by_cases hlt : i < l.length
    · obtain ⟨j, hij⟩ : ∃ j, i = j + 1 := ⟨i - 1, by omega⟩
      rw [show i - 1 = j by omega] at hall
      obtain ⟨b, o, rfl, hbB, hcell⟩ := hs.2 (by omega)
      have hlt0 : j + 1 < l.length := by omega
      rw [ascL_at hlt0] at hall
      have m1 := hm l[j] (List.getElem_mem (by omega))
      have m2 := hm l[j + 1] (List.getElem_mem hlt0)
      have hci : l[j]? = some l[j] := List.getElem?_eq_getElem (by omega)
      have hci' : l[j + 1]? = some l[j + 1] := List.getElem?_eq_getElem hlt0
      have e1 := (hbw.cell (p := ⟨b, o + j, none⟩) hbB).trans (hcell j (.string l[j]) (by rw [List.getElem?_map, hci]; rfl))
      have e2 := (hbw.cell (p := ⟨b, o + (j + 1), none⟩) hbB).trans (hcell (j + 1) (.string l[j + 1]) (by rw [List.getElem?_map, hci']; rfl))
      generalize l[j] = x at e1 hall m1
      generalize l[j + 1] = y at e2 hall m2
      clear hci hcell hci'
      have hbx : b < wx.heap.size := Nat.lt_of_lt_of_le hbB hbw.size
      have C := fun w' => refCompare_any x y w' m1 m2
      replace C := Lib.hid C
      generalize hr : cmpN x.data.toList y.data.toList = r at *
      clear hr
      rw [← hij] at e2 hall
      have hij2 : IntKind.i64.wrap ((i : Int) - 1) = (j : Int) := by rw [IntKind.wrap_i64]; omega
      have hlt2 : (i : Int) < (l.length : Int) := by omega
      have hlt3 : (j : Int) < (l.length : Int) := by omega
      have hlt4 : (0 : Int) ≤ (j : Int) := by omega
      have hlt5 : (0 : Int) ≤ (i : Int) := by omega
      replace hall := Lib.hid hall
      clear hij hlt0 hlt m1 m2
      have keepT : ∀ w' w'', (Below wx.heap.size wx w' ∧ w'.cell? ⟨b, o + j, none⟩ = some (.string x) ∧ w'.cell? ⟨b, o + i, none⟩ = some (.string y)) → Below w'.heap.size w' w'' → (Below wx.heap.size wx w'' ∧ w''.cell? ⟨b, o + j, none⟩ = some (.string x) ∧ w''.cell? ⟨b, o + i, none⟩ = some (.string y)) := fun w' w'' h hc =>
        ⟨h.1.trans (hc.mono h.1.size), (hc.cell (p := ⟨b, o + j, none⟩) (Nat.lt_of_lt_of_le hbx h.1.size)).trans h.2.1, (hc.cell (p := ⟨b, o + i, none⟩) (Nat.lt_of_lt_of_le hbx h.1.size)).trans h.2.2⟩
      have hT : Below wx.heap.size wx wx.drew ∧ wx.drew.cell? ⟨b, o + j, none⟩ = some (.string x) ∧ wx.drew.cell? ⟨b, o + i, none⟩ = some (.string y) := ⟨(Below.refl _ _).drew, e1, e2⟩
      have hT0 : Below wx.heap.size wx wx ∧ wx.cell? ⟨b, o + j, none⟩ = some (.string x) ∧ wx.cell? ⟨b, o + i, none⟩ = some (.string y) := ⟨Below.refl _ _, e1, e2⟩
      replace keepT := Lib.hid keepT
      repeat' ((fail_if_success at_builtin); (first | go_skip | go_guarded | go_step))
      go_region_held3 (fun w' => Below wx.heap.size wx w' ∧ w'.cell? ⟨b, o + j, none⟩ = some (.string x) ∧ w'.cell? ⟨b, o + i, none⟩ = some (.string y))
        (first | exact hT | exact hT0 | exact keepT.out _ _ (by assumption) hbq)
        (first
          | (go_at_call 44; refine (C.out _).mono ?_; rintro e w8 ⟨rfl, hbq⟩; dsimp only))
      have hbz := hbw.trans (Below.mono (And.left (by assumption : Below wx.heap.size wx w8 ∧ w8.cell? ⟨b, o + j, none⟩ = some (.string x) ∧ w8.cell? ⟨b, o + i, none⟩ = some (.string y))) hbw.size)
      clear hT hT0 keepT
      by_cases hr : 0 ≤ r
      · have hN := hall.out
        rw [decide_eq_false (by omega), Bool.false_and] at hN
        replace hN := Lib.hid hN
        have hr2 : decide (0 ≤ r) = true := decide_eq_true hr
        repeat' ((fail_if_success at_builtin); (first | go_skip | go_guarded | go_step))
        go_ret
        exact ⟨by rw [hN.out]; rfl, hbz⟩
      · have hN := hall.out
        rw [decide_eq_true (by omega), Bool.true_and] at hN
        replace hN := Lib.hid hN
        have hr2 : decide (0 ≤ r) = false := decide_eq_false hr
        have hr3 : ¬ 0 ≤ r := hr
        repeat' ((fail_if_success at_builtin); (first | go_skip | go_guarded | go_step))
        go_roundw
        case rel => exact ⟨i + 1, by omega, by omega, by go_num, hbz, hN.out⟩
        case measure => simp [intOf]; omega
    · rw [ascL_end (by omega)] at hall
      have i1 : ¬ ((i : Int) < (l.length : Int)) := by omega
      replace hall := Lib.hid hall
      repeat' ((fail_if_success at_builtin); (first | go_skip | go_guarded | go_step))
      go_ret
      exact ⟨by rw [hall.out]; rfl, hbw⟩
set_option maxRecDepth 100000 in
theorem asc1_any (i : Nat) (x y : ByteArray) (l : List ByteArray) (g : Nat) (A : Option Addr) (c : Nat) (w : World) (hg : w.cell? ⟨g, 0, none⟩ = some (.slice A l.length c)) (hs : Seq w w.heap.size 1 A l.length (cellsS l)) (hi : i < l.length) (hl : l.length ≤ 4611686018427387904)
    (hx : 0 < i → l[i - 1]? = some x) (hxz : x.size ≤ 4611686018427387904) (hyz : y.size ≤ 4611686018427387904) :
    Calls Tryd.prog 50 #[.int .i64 (i : Int), .string y, .pointer (some ⟨g, 0, none⟩)] w fun e w' => e = .returned (.bool (decide (i = 0) || decide (cmpN x.data.toList y.data.toList < 0))) ∧ Below w.heap.size w w' := by
  by_cases h0 : i = 0
  · subst h0
    go_enter Tryd.func50, Tryd.ntmps50
    repeat' ((fail_if_success at_builtin); (first | go_skip | go_guarded | go_step))
    go_ret
    exact ⟨rfl, Below.refl _ _⟩
  · obtain ⟨j, hij⟩ : ∃ j, i = j + 1 := ⟨i - 1, by omega⟩
    obtain ⟨b, o, rfl, hbB, hcell⟩ := hs.2 (by omega)
    have hx' := hx (by omega)
    rw [show i - 1 = j by omega] at hx'
    have e1 := hcell j (.string x) (by rw [List.getElem?_map, hx']; rfl)
    have hij2 : IntKind.i64.wrap ((i : Int) - 1) = (j : Int) := by rw [IntKind.wrap_i64]; omega
    have hlt3 : (j : Int) < (l.length : Int) := by omega
    have hlt4 : (0 : Int) ≤ (j : Int) := by omega
    have q0 : ((i : Int) == 0) = false := by simpa using h0
    have C := compare_any x y w hxz hyz
    rw [decide_eq_false h0, Bool.false_or]
    generalize cmpN x.data.toList y.data.toList = r at *
    replace C := Lib.hid C
    clear hij h0 hx hx' hcell hi
    go_enter Tryd.func50, Tryd.ntmps50
    repeat' ((fail_if_success at_builtin); (first | go_skip | go_guarded | go_step))
    refine C.out.mono ?_
    rintro e w1 ⟨rfl, hb1⟩
    dsimp only
    repeat' ((fail_if_success at_builtin); (first | go_skip | go_guarded | go_step))
    go_ret
    exact ⟨rfl, hb1⟩
set_option maxRecDepth 100000 in
theorem everyA_any (l : List ByteArray) (g : Nat) (A : Option Addr) (c : Nat) (w : World) (hg : w.cell? ⟨g, 0, none⟩ = some (.slice A l.length c)) (hgz : g < w.heap.size) (hs : Seq w w.heap.size 1 A l.length (cellsS l)) (hl : l.length ≤ 4611686018427387904) (hm : ∀ s ∈ l, s.size ≤ 4611686018427387904) :
    Calls Tryd.prog 49 #[.slice A l.length c, .func (.func 50) #[] #[.pointer (some ⟨g, 0, none⟩)]] w fun e w' => e = .returned (.bool (ascL l)) ∧ Below w.heap.size w w' := by
  go_enter Tryd.func49, Tryd.ntmps49
  repeat' ((fail_if_success at_builtin); (first | go_skip | go_guarded | go_step))
  go_loopw [9] (fun u9 wr => ∃ i : Nat, i ≤ l.length ∧ u9 = .int .i64 (i : Int) ∧ Below w.heap.size w wr ∧ ascL l = ascL (l.drop (i - 1))) (fun u9 _ => l.length - (intOf u9).toNat)
  case atStart => exact ⟨0, by omega, rfl, Below.refl _ _, rfl⟩
  case round =>
    obtain ⟨i, hi, rfl, hbw, hall⟩ := hrel
    obtain ⟨wx, hwx⟩ : ∃ wx : World, wx = wr := ⟨wr, rfl⟩
    subst hwx
    by_cases hlt : i < l.length
    · have hsx := (hs.below hbw).more hbw.size
      have hgx := (hbw.cell (p := ⟨g, 0, none⟩) hgz).trans hg
      obtain ⟨b, o, rfl, hbB, hcell⟩ := hsx.2 (by omega)
      have hci : l[i]? = some l[i] := List.getElem?_eq_getElem hlt
      have e1 := hcell i (.string l[i]) (by rw [List.getElem?_map, hci]; rfl)
      have m1 := hm l[i] (List.getElem_mem hlt)
      obtain ⟨x, hx, hxz⟩ : ∃ x : ByteArray, (0 < i → l[i - 1]? = some x) ∧ x.size ≤ 4611686018427387904 := by
        by_cases h0 : 0 < i
        · exact ⟨l[i - 1], fun _ => List.getElem?_eq_getElem (by omega), hm _ (List.getElem_mem (by omega))⟩
        · exact ⟨⟨#[]⟩, fun h => absurd h h0, by simp [ByteArray.size]⟩
      have C := asc1_any i x l[i] l g (some ⟨b, o, none⟩) c wx hgx hsx hlt hl hx hxz m1
      have hN : ascL l = ((decide (i = 0) || decide (cmpN x.data.toList l[i].data.toList < 0)) && ascL (l.drop (i + 1 - 1))) := by
        rw [hall, Nat.add_sub_cancel]
        by_cases h0 : i = 0
        · subst h0; simp
        · obtain ⟨j, rfl⟩ : ∃ j, i = j + 1 := ⟨i - 1, by omega⟩
          have := hx (by omega)
          rw [Nat.add_sub_cancel, List.getElem?_eq_getElem (by omega)] at this
          injection this with this
          rw [Nat.add_sub_cancel, ascL_at hlt, this, decide_eq_false h0, Bool.false_or]
      have i0 : (0 : Int) ≤ (i : Int) := by omega
      have i1 : (i : Int) < (l.length : Int) := by omega
      generalize (decide (i = 0) || decide (cmpN x.data.toList l[i].data.toList < 0)) = v at *
      generalize l[i] = y at *
      clear hci hcell hx hxz m1 hall hsx hgx
      replace C := Lib.hid C
      replace hN := Lib.hid hN
      repeat' ((fail_if_success at_builtin); (first | go_skip | go_guarded | go_step))
      refine C.out.mono ?_
      rintro e w8 ⟨rfl, hb8⟩
      dsimp only
      have hbz := hbw.trans (hb8.mono hbw.size)
      cases v with
      | true =>
        repeat' ((fail_if_success at_builtin); (first | go_skip | go_guarded | go_step))
        go_roundw
        case rel => exact ⟨i + 1, by omega, by go_num, hbz, by have := hN.out; rwa [Bool.true_and] at this⟩
        case measure => simp [intOf]; omega
      | false =>
        repeat' ((fail_if_success at_builtin); (first | go_skip | go_guarded | go_step))
        go_ret
        exact ⟨by have := hN.out; rw [Bool.false_and] at this; rw [this]; rfl, hbz⟩
    · rw [ascL_end (by omega)] at hall
      have i1 : ¬ ((i : Int) < (l.length : Int)) := by omega
      replace hall := Lib.hid hall
      repeat' ((fail_if_success at_builtin); (first | go_skip | go_guarded | go_step))
      go_ret
      exact ⟨by rw [hall.out]; rfl, hbw⟩
set_option maxRecDepth 100000 in
theorem asc_any (l : List ByteArray) (A : Option Addr) (c : Nat) (w : World) (hs : Seq w w.heap.size 1 A l.length (cellsS l)) (hl : l.length ≤ 4611686018427387904) (hm : ∀ s ∈ l, s.size ≤ 4611686018427387904) :
    Calls Tryd.prog 31 #[.slice A l.length c] w fun e w' => e = .returned (.bool (ascL l)) ∧ Below w.heap.size w w' := by
  have hb1 := (Below.refl w.heap.size w).alloc (Nat.le_refl _) (.cells #[.slice A l.length c] 22)
  have hg : (w.alloc (.cells #[.slice A l.length c] 22)).cell? ⟨w.heap.size, 0, none⟩ = some (.slice A l.length c) := by simp [go_sem]
  have hgz : w.heap.size < (w.alloc (.cells #[.slice A l.length c] 22)).heap.size := by simp
  have hs1 := (hs.below hb1).more hb1.size
  go_enter Tryd.func31, Tryd.ntmps31
  repeat' ((fail_if_success at_builtin); (first | go_skip | go_guarded | go_step))
  generalize w.alloc (.cells #[.slice A l.length c] 22) = w1 at *
  repeat' ((fail_if_success at_builtin); (first | go_skip | go_guarded | go_step))
  refine (everyA_any l w.heap.size A c w1 hg hgz hs1 hl hm).mono ?_
  rintro e w2 ⟨rfl, hb2⟩
  dsimp only
  repeat' ((fail_if_success at_builtin); (first | go_skip | go_guarded | go_step))
  go_ret
  exact ⟨rfl, hb1.trans (hb2.mono hb1.size)⟩
end Go.Proofs.YtionchkblgpklaaDoor
