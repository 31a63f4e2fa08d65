/- The gate's small functions: the first name of a kind, whether a specification is valid. -/
import Derived.Test.YtionchkblgpklaaDoorGtN
namespace Go.Proofs.YtionchkblgpklaaDoor
open Go.RowKit
structure Gs where
  app : Int
  who : List ByteArray
  exp : Int
structure Gt where
  s : Gs
  opened : Int
  yes : List ByteArray
  state : Int
abbrev sarr (s : Gs) (A : Option Addr) (c : Nat) : Array Value := #[.int .i64 s.app, .slice A s.who.length c, .int .i64 s.exp]
abbrev garr (g : Gt) (A : Option Addr) (c : Nat) (A' : Option Addr) (c' : Nat) : Array Value := #[.int .i64 g.s.app, .slice A g.s.who.length c, .int .i64 g.s.exp, .int .i64 g.opened, .slice A' g.yes.length c', .int .i64 g.state]
/-- how many stand ahead of the first that f holds of -/
def posP (f : ByteArray → Bool) : List ByteArray → Nat
  | [] => 0
  | x :: l => if f x then 0 else posP f l + 1
theorem posP_le (f : ByteArray → Bool) : ∀ l : List ByteArray, posP f l ≤ l.length
  | [] => Nat.le_refl _
  | x :: l => by
    have := posP_le f l
    unfold posP
    split <;> simp <;> omega
def namesL (l : List ByteArray) : Bool := l.all fun s => nameS s.data.toList
theorem posP_names : ∀ l : List ByteArray, decide (posP (fun s => !nameS s.data.toList) l < l.length) = !namesL l
  | [] => rfl
  | x :: l => by
    have ih := posP_names l
    unfold namesL at ih ⊢
    rw [List.all_cons]
    unfold posP
    cases hx : nameS x.data.toList with
    | true => simpa using ih
    | false => simp
def validG (s : Gs) : Int := if 16 < s.who.length then 15 else if namesL s.who = false then 1 else if ascL s.who = false then 22 else if s.app < 1 ∨ (s.who.length : Int) < s.app ∨ s.exp < 1 ∨ 1125899906842624 < s.exp then 2 else 0
set_option maxRecDepth 100000 in
set_option maxHeartbeats 2000000 in
theorem idxName_any (l : List ByteArray) (f : ByteArray → Bool) (A : Option Addr) (c : Nat) (w : World) (hs : Seq w w.heap.size 1 A l.length (cellsS l)) (hl : l.length ≤ 4611686018427387904)
    (hf : ∀ x ∈ l, ∀ w', Below w.heap.size w w' → Calls Tryd.prog 29 #[.string x] w' fun e w2 => e = .returned (.bool (f x)) ∧ Below w'.heap.size w' w2) :
    Calls Tryd.prog 36 #[.slice A l.length c, .func (.func 29) #[] #[]] w fun e w' => e = .returned (.int .i64 (if posP f l < l.length then (posP f l : Int) else -1)) ∧ Below w.heap.size w w' := by
  go_enter Tryd.func36, Tryd.ntmps36
  repeat' ((fail_if_success at_builtin); (first | go_skip | go_guarded | go_step))
  go_loopw [8] (fun u8 wr => ∃ i : Nat, i ≤ l.length ∧ u8 = .int .i64 (i : Int) ∧ Below w.heap.size w wr ∧ posP f l = i + posP f (l.drop i)) (fun u8 _ => l.length - (intOf u8).toNat)
  case atStart => exact ⟨0, by omega, rfl, Below.refl _ _, by simp⟩
  case round =>
    obtain ⟨i, hi, rfl, hbw, hall⟩ := hrel
    obtain ⟨wx, hwx⟩ : ∃ wx : World, wx = wr := ⟨wr, rfl⟩
    subst hwx
    by_cases hlt : i < l.length
    · obtain ⟨b, o, rfl, hbB, hcell⟩ := hs.2 (by omega)
      have hci : l[i]? = some l[i] := List.getElem?_eq_getElem hlt
      have e1 := (hbw.cell (p := ⟨b, o + i, none⟩) hbB).trans (hcell i (.string l[i]) (by rw [List.getElem?_map, hci]; rfl))
      have C := hf l[i] (List.getElem_mem hlt) wx hbw
      rw [list_cons hlt, posP] at hall
      have i0 : (0 : Int) ≤ (i : Int) := by omega
      have i1 : (i : Int) < (l.length : Int) := by omega
      generalize l[i] = x at e1 hall C
      clear hci hcell hf
      replace C := Lib.hid C
      replace hall := Lib.hid hall
      repeat' ((fail_if_success at_builtin); (first | go_skip | go_guarded | go_step))
      refine C.out.mono ?_
      rintro e w8 ⟨rfl, hb8⟩
      dsimp only
      have hbz := hbw.trans (hb8.mono hbw.size)
      cases hv : f x with
      | true =>
        repeat' ((fail_if_success at_builtin); (first | go_skip | go_guarded | go_step))
        go_ret
        have h := hall.out
        rw [hv, if_pos rfl, Nat.add_zero] at h
        exact ⟨by rw [h, if_pos hlt]; rfl, hbz⟩
      | false =>
        repeat' ((fail_if_success at_builtin); (first | go_skip | go_guarded | go_step))
        go_roundw
        case rel =>
          have h := hall.out
          rw [hv, if_neg (by simp)] at h
          exact ⟨i + 1, by omega, by go_num, hbz, by omega⟩
        case measure => simp [intOf]; omega
    · rw [List.drop_of_length_le (by omega), posP] at hall
      have i1 : ¬ ((i : Int) < (l.length : Int)) := by omega
      replace hall := Lib.hid hall
      clear hf
      repeat' ((fail_if_success at_builtin); (first | go_skip | go_guarded | go_step))
      go_ret
      exact ⟨by rw [if_neg (by have := hall.out; omega)]; rfl, hbw⟩
set_option maxRecDepth 100000 in
set_option maxHeartbeats 2000000 in
theorem idxAfter_any (l : List ByteArray) (f : ByteArray → Bool) (g : Nat) (A : Option Addr) (c : Nat) (w : World) (hs : Seq w w.heap.size 1 A l.length (cellsS l)) (hl : l.length ≤ 4611686018427387904)
    (hf : ∀ x ∈ l, ∀ w', Below w.heap.size w w' → Calls Tryd.prog 37 #[.string x, .pointer (some ⟨g, 0, none⟩)] w' fun e w2 => e = .returned (.bool (f x)) ∧ Below w'.heap.size w' w2) :
    Calls Tryd.prog 36 #[.slice A l.length c, .func (.func 37) #[] #[.pointer (some ⟨g, 0, none⟩)]] w fun e w' => e = .returned (.int .i64 (if posP f l < l.length then (posP f l : Int) else -1)) ∧ Below w.heap.size w w' := by
  go_enter Tryd.func36, Tryd.ntmps36
  repeat' ((fail_if_success at_builtin); (first | go_skip | go_guarded | go_step))
  go_loopw [8] (fun u8 wr => ∃ i : Nat, i ≤ l.length ∧ u8 = .int .i64 (i : Int) ∧ Below w.heap.size w wr ∧ posP f l = i + posP f (l.drop i)) (fun u8 _ => l.length - (intOf u8).toNat)
  case atStart => exact ⟨0, by omega, rfl, Below.refl _ _, by simp⟩
  case round =>
    obtain ⟨i, hi, rfl, hbw, hall⟩ := hrel
    obtain ⟨wx, hwx⟩ : ∃ wx : World, wx = wr := ⟨wr, rfl⟩
    subst hwx
    by_cases hlt : i < l.length
    · obtain ⟨b, o, rfl, hbB, hcell⟩ := hs.2 (by omega)
      have hci : l[i]? = some l[i] := List.getElem?_eq_getElem hlt
      have e1 := (hbw.cell (p := ⟨b, o + i, none⟩) hbB).trans (hcell i (.string l[i]) (by rw [List.getElem?_map, hci]; rfl))
      have C := hf l[i] (List.getElem_mem hlt) wx hbw
      rw [list_cons hlt, posP] at hall
      have i0 : (0 : Int) ≤ (i : Int) := by omega
      have i1 : (i : Int) < (l.length : Int) := by omega
      generalize l[i] = x at e1 hall C
      clear hci hcell hf
      replace C := Lib.hid C
      replace hall := Lib.hid hall
      repeat' ((fail_if_success at_builtin); (first | go_skip | go_guarded | go_step))
      refine C.out.mono ?_
      rintro e w8 ⟨rfl, hb8⟩
      dsimp only
      have hbz := hbw.trans (hb8.mono hbw.size)
      cases hv : f x with
      | true =>
        repeat' ((fail_if_success at_builtin); (first | go_skip | go_guarded | go_step))
        go_ret
        have h := hall.out
        rw [hv, if_pos rfl, Nat.add_zero] at h
        exact ⟨by rw [h, if_pos hlt]; rfl, hbz⟩
      | false =>
        repeat' ((fail_if_success at_builtin); (first | go_skip | go_guarded | go_step))
        go_roundw
        case rel =>
          have h := hall.out
          rw [hv, if_neg (by simp)] at h
          exact ⟨i + 1, by omega, by go_num, hbz, by omega⟩
        case measure => simp [intOf]; omega
    · rw [List.drop_of_length_le (by omega), posP] at hall
      have i1 : ¬ ((i : Int) < (l.length : Int)) := by omega
      replace hall := Lib.hid hall
      clear hf
      repeat' ((fail_if_success at_builtin); (first | go_skip | go_guarded | go_step))
      go_ret
      exact ⟨by rw [if_neg (by have := hall.out; omega)]; rfl, hbw⟩
set_option maxRecDepth 100000 in
set_option maxHeartbeats 2000000 in
theorem valid1_any (s : ByteArray) (w : World) (hm : s.size ≤ 9223372036854775807) : Calls Tryd.prog 29 #[.string s] w fun e w' => e = .returned (.bool (!nameS s.data.toList)) ∧ Below w.heap.size w w' := by
  go_enter Tryd.func29, Tryd.ntmps29
  repeat' ((fail_if_success at_builtin); (first | go_skip | go_guarded | go_step))
  refine (idName_any s w hm).mono ?_
  rintro e w1 ⟨rfl, hb1⟩
  dsimp only
  repeat' ((fail_if_success at_builtin); (first | go_skip | go_guarded | go_step))
  go_ret
  exact ⟨rfl, hb1⟩
set_option maxRecDepth 100000 in
set_option maxHeartbeats 2000000 in
theorem after1_any (s who : ByteArray) (g : Nat) (w : World) (hg : w.cell? ⟨g, 0, none⟩ = some (.string who)) (h1 : s.size ≤ 4611686018427387904) (h2 : who.size ≤ 4611686018427387904) :
    Calls Tryd.prog 37 #[.string s, .pointer (some ⟨g, 0, none⟩)] w fun e w' => e = .returned (.bool (decide (0 < cmpN s.data.toList who.data.toList))) ∧ Below w.heap.size w w' := by
  go_enter Tryd.func37, Tryd.ntmps37
  repeat' ((fail_if_success at_builtin); (first | go_skip | go_guarded | go_step))
  refine (compare_any s who w h1 h2).mono ?_
  rintro e w1 ⟨rfl, hb1⟩
  dsimp only
  repeat' ((fail_if_success at_builtin); (first | go_skip | go_guarded | go_step))
  go_ret
  exact ⟨rfl, hb1⟩
set_option maxRecDepth 100000 in
set_option maxHeartbeats 2000000 in
theorem cfName_any (l : List ByteArray) (A : Option Addr) (c : Nat) (w : World) (hs : Seq w w.heap.size 1 A l.length (cellsS l)) (hl : l.length ≤ 4611686018427387904) (hm : ∀ s ∈ l, s.size ≤ 4611686018427387904) :
    Calls Tryd.prog 28 #[.slice A l.length c, .func (.func 29) #[] #[]] w fun e w' => e = .returned (.bool (!namesL l)) ∧ Below w.heap.size w w' := by
  have C := idxName_any l (fun s => !nameS s.data.toList) A c w hs hl (fun x hx w' _ => valid1_any x w' (by have := hm x hx; omega))
  have hN := posP_names l
  generalize posP (fun s => !nameS s.data.toList) l = p at *
  have hr : decide (0 ≤ (if p < l.length then (p : Int) else -1)) = !namesL l := by
    rw [← hN]
    by_cases h : p < l.length
    · rw [if_pos h, decide_eq_true h, decide_eq_true (by omega)]
    · rw [if_neg h, decide_eq_false h, decide_eq_false (by omega)]
  generalize (if p < l.length then (p : Int) else -1) = r at *
  replace C := Lib.hid C
  replace hr := Lib.hid hr
  go_enter Tryd.func28, Tryd.ntmps28
  repeat' ((fail_if_success at_builtin); (first | go_skip | go_guarded | go_step))
  refine C.out.mono ?_
  rintro e w1 ⟨rfl, hb1⟩
  dsimp only
  repeat' ((fail_if_success at_builtin); (first | go_skip | go_guarded | go_step))
  go_ret
  exact ⟨by rw [← hr.out]; rfl, hb1⟩
set_option maxRecDepth 100000 in
set_option maxHeartbeats 2000000 in
theorem valid_any (s : Gs) (A : Option Addr) (c : Nat) (w : World) (hs : Seq w w.heap.size 1 A s.who.length (cellsS s.who)) (hl : s.who.length ≤ 4611686018427387904) (hm : ∀ x ∈ s.who, x.size ≤ 4611686018427387904) :
    Calls Tryd.prog 12 #[.agg (sarr s A c)] w fun e w' => e = .returned (.int .i64 (validG s)) ∧ Below w.heap.size w w' := by
  have hb1 := (Below.refl w.heap.size w).alloc (Nat.le_refl _) (.cells (sarr s A c) 24)
  have d0 : (w.alloc (.cells (sarr s A c) 24)).cell? ⟨w.heap.size, 0, none⟩ = some (.int .i64 s.app) := by simp [go_sem]
  have d1 : (w.alloc (.cells (sarr s A c) 24)).cell? ⟨w.heap.size, 1, none⟩ = some (.slice A s.who.length c) := by simp [go_sem]
  have d2 : (w.alloc (.cells (sarr s A c) 24)).cell? ⟨w.heap.size, 2, none⟩ = some (.int .i64 s.exp) := by simp [go_sem]
  have hz : w.heap.size < (w.alloc (.cells (sarr s A c) 24)).heap.size := by simp
  have hN : validG s = validG s := rfl
  conv at hN => rhs; unfold validG
  generalize validG s = r at *
  by_cases h1 : 16 < s.who.length
  · rw [if_pos h1] at hN
    have h1' : (16 : Int) < (s.who.length : Int) := by omega
    replace hN := Lib.hid hN
    clear h1
    go_enter Tryd.func12, Tryd.ntmps12
    repeat' ((fail_if_success at_builtin); (first | go_skip | go_guarded | go_step))
    go_ret
    exact ⟨by rw [hN.out]; rfl, hb1⟩
  · rw [if_neg h1] at hN
    have h1' : ¬ (16 : Int) < (s.who.length : Int) := by omega
    replace hN := Lib.hid hN
    clear h1
    go_enter Tryd.func12, Tryd.ntmps12
    repeat' ((fail_if_success at_builtin); (first | go_skip | go_guarded | go_step))
    generalize w.alloc (.cells (sarr s A c) 24) = w1 at *
    have hs1 := (hs.below hb1).more hb1.size
    have CN := cfName_any s.who A c w1 hs1 hl hm
    have CA := fun w' (h : Below w1.heap.size w1 w') => asc_any s.who A c w' ((hs1.below h).more h.size) hl hm
    replace CN := Lib.hid CN
    replace CA := Lib.hid CA
    refine CN.out.mono ?_
    rintro e w2 ⟨rfl, hb2⟩
    dsimp only
    have e0 := (hb2.cell (p := ⟨w.heap.size, 0, none⟩) hz).trans d0
    have e1 := (hb2.cell (p := ⟨w.heap.size, 1, none⟩) hz).trans d1
    have e2 := (hb2.cell (p := ⟨w.heap.size, 2, none⟩) hz).trans d2
    have hb12 := hb1.trans (hb2.mono hb1.size)
    clear d0 d1 d2 CN
    cases hn : namesL s.who with
    | false =>
      repeat' ((fail_if_success at_builtin); (first | go_skip | go_guarded | go_step))
      go_ret
      have h := hN.out
      rw [if_pos hn] at h
      exact ⟨by rw [h]; rfl, hb12⟩
    | true =>
      repeat' ((fail_if_success at_builtin); (first | go_skip | go_guarded | go_step))
      refine (CA.out _ hb2).mono ?_
      rintro e w3 ⟨rfl, hb3⟩
      dsimp only
      replace e0 := (hb3.cell (p := ⟨w.heap.size, 0, none⟩) (Nat.lt_of_lt_of_le hz hb2.size)).trans e0
      replace e1 := (hb3.cell (p := ⟨w.heap.size, 1, none⟩) (Nat.lt_of_lt_of_le hz hb2.size)).trans e1
      replace e2 := (hb3.cell (p := ⟨w.heap.size, 2, none⟩) (Nat.lt_of_lt_of_le hz hb2.size)).trans e2
      have hbz := hb12.trans (hb3.mono hb12.size)
      cases ha : ascL s.who with
      | false =>
        repeat' ((fail_if_success at_builtin); (first | go_skip | go_guarded | go_step))
        go_ret
        have h := hN.out
        rw [if_neg (by simp [hn]), if_pos ha] at h
        exact ⟨by rw [h]; rfl, hbz⟩
      | true =>
        have hN := hN.out
        rw [if_neg (by simp [hn]), if_neg (by simp [ha])] at hN
        have q : s.app < 1 ∨ (¬ s.app < 1 ∧ (s.who.length : Int) < s.app) ∨ (¬ s.app < 1 ∧ ¬ (s.who.length : Int) < s.app ∧ s.exp < 1) ∨ (¬ s.app < 1 ∧ ¬ (s.who.length : Int) < s.app ∧ ¬ s.exp < 1 ∧ 1125899906842624 < s.exp) ∨ (¬ s.app < 1 ∧ ¬ (s.who.length : Int) < s.app ∧ ¬ s.exp < 1 ∧ ¬ 1125899906842624 < s.exp) := by omega
        rcases q with q1 | ⟨q1, q2⟩ | ⟨q1, q2, q3⟩ | ⟨q1, q2, q3, q4⟩ | ⟨q1, q2, q3, q4⟩
        · rw [if_pos (.inl q1)] at hN
          replace hN := Lib.hid hN
          repeat' ((fail_if_success at_builtin); (first | go_skip | go_guarded | go_step))
          go_ret
          exact ⟨by rw [hN.out]; rfl, hbz⟩
        · rw [if_pos (.inr (.inl q2))] at hN
          replace hN := Lib.hid hN
          repeat' ((fail_if_success at_builtin); (first | go_skip | go_guarded | go_step))
          go_ret
          exact ⟨by rw [hN.out]; rfl, hbz⟩
        · rw [if_pos (.inr (.inr (.inl q3)))] at hN
          replace hN := Lib.hid hN
          repeat' ((fail_if_success at_builtin); (first | go_skip | go_guarded | go_step))
          go_ret
          exact ⟨by rw [hN.out]; rfl, hbz⟩
        · rw [if_pos (.inr (.inr (.inr q4)))] at hN
          replace hN := Lib.hid hN
          repeat' ((fail_if_success at_builtin); (first | go_skip | go_guarded | go_step))
          go_ret
          exact ⟨by rw [hN.out]; rfl, hbz⟩
        · rw [if_neg (by omega)] at hN
          replace hN := Lib.hid hN
          repeat' ((fail_if_success at_builtin); (first | go_skip | go_guarded | go_step))
          go_ret
          exact ⟨by rw [hN.out]; rfl, hbz⟩
set_option maxRecDepth 100000 in
set_option maxHeartbeats 2000000 in
theorem refValid_any (s : Gs) (A : Option Addr) (c : Nat) (w : World) (hs : Seq w w.heap.size 1 A s.who.length (cellsS s.who)) (hl : s.who.length ≤ 4611686018427387904) (hm : ∀ x ∈ s.who, x.size ≤ 4611686018427387904) :
    Calls Tryd.prog 13 #[.agg (sarr s A c)] w fun e w' => e = .returned (.int .i64 (validG s)) ∧ Below w.heap.size w w' := by
  have hb1 := (Below.refl w.heap.size w).alloc (Nat.le_refl _) (.cells (sarr s A c) 24)
  have d0 : (w.alloc (.cells (sarr s A c) 24)).cell? ⟨w.heap.size, 0, none⟩ = some (.int .i64 s.app) := by simp [go_sem]
  have d1 : (w.alloc (.cells (sarr s A c) 24)).cell? ⟨w.heap.size, 1, none⟩ = some (.slice A s.who.length c) := by simp [go_sem]
  have d2 : (w.alloc (.cells (sarr s A c) 24)).cell? ⟨w.heap.size, 2, none⟩ = some (.int .i64 s.exp) := by simp [go_sem]
  have hz : w.heap.size < (w.alloc (.cells (sarr s A c) 24)).heap.size := by simp
  have hN : validG s = validG s := rfl
  conv at hN => rhs; unfold validG
  generalize validG s = r at *
  by_cases h1 : 16 < s.who.length
  · rw [if_pos h1] at hN
    have h1' : (16 : Int) < (s.who.length : Int) := by omega
    replace hN := Lib.hid hN
    clear h1
    go_enter Tryd.func13, Tryd.ntmps13
    repeat' ((fail_if_success at_builtin); (first | go_skip | go_guarded | go_step))
    go_ret
    exact ⟨by rw [hN.out]; rfl, hb1⟩
  · rw [if_neg h1] at hN
    have h1' : ¬ (16 : Int) < (s.who.length : Int) := by omega
    replace hN := Lib.hid hN
    clear h1
    go_enter Tryd.func13, Tryd.ntmps13
    repeat' ((fail_if_success at_builtin); (first | go_skip | go_guarded | go_step))
    generalize w.alloc (.cells (sarr s A c) 24) = w1 at *
    have hs1 := (hs.below hb1).more hb1.size
    have CA := refAsc_any s.who A c w1 hs1 hl hm
    replace CA := Lib.hid CA
    go_loopw [3] (fun u3 wr => ∃ i : Nat, i ≤ s.who.length ∧ u3 = .int .i64 (i : Int) ∧ wr = w1 ∧ namesL s.who = namesL (s.who.drop i)) (fun u3 _ => s.who.length - (intOf u3).toNat)
    case atStart => exact ⟨0, by omega, rfl, rfl, rfl⟩
    case round =>
      obtain ⟨i, hi, rfl, rfl, hall⟩ := hrel
      by_cases hlt : i < s.who.length
      · obtain ⟨b, o, rfl, hbB, hcell⟩ := hs1.2 (by omega)
        have hci : s.who[i]? = some s.who[i] := List.getElem?_eq_getElem hlt
        have e1 := hcell i (.string s.who[i]) (by rw [List.getElem?_map, hci]; rfl)
        have m1 := hm s.who[i] (List.getElem_mem hlt)
        rw [list_cons hlt] at hall
        unfold namesL at hall
        rw [List.all_cons] at hall
        have i0 : (0 : Int) ≤ (i : Int) := by omega
        have i1 : (i : Int) < (s.who.length : Int) := by omega
        generalize s.who[i] = x at e1 hall m1
        clear hci hcell
        replace hall := Lib.hid hall
        repeat' ((fail_if_success at_builtin); (first | go_skip | go_guarded | go_step))
        refine (refName_any x _ (by omega)).mono ?_
        rintro e w8 ⟨rfl, rfl⟩
        dsimp only
        cases hv : nameS x.data.toList with
        | true =>
          repeat' ((fail_if_success at_builtin); (first | go_skip | go_guarded | go_step))
          go_roundw
          case rel =>
            have h := hall.out
            rw [hv, Bool.true_and] at h
            exact ⟨i + 1, by omega, by go_num, trivial, h⟩
          case measure => simp [intOf]; omega
        | false =>
          repeat' ((fail_if_success at_builtin); (first | go_skip | go_guarded | go_step))
          go_ret
          have h := hall.out
          rw [hv, Bool.false_and] at h
          have h2 := hN.out
          rw [if_pos (show namesL s.who = false from h)] at h2
          exact ⟨by rw [h2]; rfl, hb1⟩
      · rw [List.drop_of_length_le (by omega)] at hall
        have hn : namesL s.who = true := hall
        have i1 : ¬ ((i : Int) < (s.who.length : Int)) := by omega
        clear hall
        repeat' ((fail_if_success at_builtin); (first | go_skip | go_guarded | go_step))
        refine CA.out.mono ?_
        rintro e w2 ⟨rfl, hb2⟩
        dsimp only
        have e0 := (hb2.cell (p := ⟨w.heap.size, 0, none⟩) hz).trans d0
        have e1 := (hb2.cell (p := ⟨w.heap.size, 1, none⟩) hz).trans d1
        have e2 := (hb2.cell (p := ⟨w.heap.size, 2, none⟩) hz).trans d2
        have hbz := hb1.trans (hb2.mono hb1.size)
        clear d0 d1 d2
        cases ha : ascL s.who with
        | false =>
          repeat' ((fail_if_success at_builtin); (first | go_skip | go_guarded | go_step))
          go_ret
          have h := hN.out
          rw [if_neg (by simp [hn]), if_pos ha] at h
          exact ⟨by rw [h]; rfl, hbz⟩
        | true =>
          have hN := hN.out
          rw [if_neg (by simp [hn]), if_neg (by simp [ha])] at hN
          have q : s.app < 1 ∨ (¬ s.app < 1 ∧ (s.who.length : Int) < s.app) ∨ (¬ s.app < 1 ∧ ¬ (s.who.length : Int) < s.app ∧ s.exp < 1) ∨ (¬ s.app < 1 ∧ ¬ (s.who.length : Int) < s.app ∧ ¬ s.exp < 1 ∧ 1125899906842624 < s.exp) ∨ (¬ s.app < 1 ∧ ¬ (s.who.length : Int) < s.app ∧ ¬ s.exp < 1 ∧ ¬ 1125899906842624 < s.exp) := by omega
          rcases q with q1 | ⟨q1, q2⟩ | ⟨q1, q2, q3⟩ | ⟨q1, q2, q3, q4⟩ | ⟨q1, q2, q3, q4⟩
          · rw [if_pos (.inl q1)] at hN
            replace hN := Lib.hid hN
            repeat' ((fail_if_success at_builtin); (first | go_skip | go_guarded | go_step))
            go_ret
            exact ⟨by rw [hN.out]; rfl, hbz⟩
          · rw [if_pos (.inr (.inl q2))] at hN
            replace hN := Lib.hid hN
            repeat' ((fail_if_success at_builtin); (first | go_skip | go_guarded | go_step))
            go_ret
            exact ⟨by rw [hN.out]; rfl, hbz⟩
          · rw [if_pos (.inr (.inr (.inl q3)))] at hN
            replace hN := Lib.hid hN
            repeat' ((fail_if_success at_builtin); (first | go_skip | go_guarded | go_step))
            go_ret
            exact ⟨by rw [hN.out]; rfl, hbz⟩
          · rw [if_pos (.inr (.inr (.inr q4)))] at hN
            replace hN := Lib.hid hN
            repeat' ((fail_if_success at_builtin); (first | go_skip | go_guarded | go_step))
            go_ret
            exact ⟨by rw [hN.out]; rfl, hbz⟩
          · rw [if_neg (by omega)] at hN
            replace hN := Lib.hid hN
            repeat' ((fail_if_success at_builtin); (first | go_skip | go_guarded | go_step))
            go_ret
            exact ⟨by rw [hN.out]; rfl, hbz⟩
end Go.Proofs.YtionchkblgpklaaDoor
