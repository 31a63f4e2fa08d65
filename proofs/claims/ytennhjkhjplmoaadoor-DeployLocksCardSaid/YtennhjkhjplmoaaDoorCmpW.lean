/- The natural order: the walks of the program's side. -/
import Derived.Test.YtennhjkhjplmoaaDoorCmpR
import Derived.Test.YtennhjkhjplmoaaDoorShelf
namespace Go.Proofs.YtennhjkhjplmoaaDoor
open Go.RowKit
set_option maxRecDepth 100000 in
theorem runN_any (s : ByteArray) (w : World) (hm : s.size ≤ 9223372036854775807) : Calls Tryd.prog 66 #[.string s] w fun e w' => e = .returned (.int .i64 ((runN s.data.toList : Nat) : Int)) ∧ w' = w := by
  have hsz : s.data.toList.length = s.size := by simp
  go_enter Tryd.func66, Tryd.ntmps66
  repeat' ((fail_if_success at_builtin); (first | go_skip | go_guarded | go_step))
  go_loopw [3] (fun u3 wr => ∃ i : Nat, i ≤ s.size ∧ u3 = .int .i64 (i : Int) ∧ wr = w ∧ runN s.data.toList = i + runN (s.data.toList.drop i)) (fun u3 _ => s.size - (intOf u3).toNat)
  case atStart => exact ⟨0, by omega, rfl, rfl, by simp⟩
  case round =>
    obtain ⟨i, hi, rfl, rfl, hall⟩ := hrel
    by_cases hlt : i < s.size
    · have hci := str_at hlt
      rw [runN_at hci] at hall
      have i0 : (0 : Int) ≤ (i : Int) := by omega
      have i1 : (i : Int) < (s.size : Int) := by omega
      clear hci
      replace hall := Lib.hid hall
      repeat' ((fail_if_success at_builtin); (first | go_skip | go_guarded | go_step))
      refine (digit_any _ _).mono ?_
      rintro e w' ⟨rfl, rfl⟩
      dsimp only
      have hd : (decide (48 ≤ s[i].toNat) && decide (s[i].toNat ≤ 57)) = isDg s[i].toNat := rfl
      rw [hd]
      cases hv : isDg s[i].toNat with
      | true =>
        repeat' ((fail_if_success at_builtin); (first | go_skip | go_guarded | go_step))
        go_roundw
        case rel =>
          have h := hall.out
          rw [hv, if_pos rfl] at h
          exact ⟨i + 1, by omega, by go_num, trivial, by omega⟩
        case measure => simp [intOf]; omega
      | false =>
        repeat' ((fail_if_success at_builtin); (first | go_skip | go_guarded | go_step))
        go_ret
        have h := hall.out
        rw [hv, if_neg (by simp)] at h
        exact ⟨by rw [h]; rfl, rfl⟩
    · have h := hall
      rw [runN_end (by omega : s.data.toList.length ≤ i)] at h
      have i1 : ¬ ((i : Int) < (s.size : Int)) := by omega
      replace h := Lib.hid h
      clear hall
      repeat' ((fail_if_success at_builtin); (first | go_skip | go_guarded | go_step))
      go_ret
      exact ⟨by rw [h.out]; rfl, rfl⟩
set_option maxRecDepth 100000 in
theorem nanB_any (c : Int) (w : World) : Calls Tryd.prog 85 #[.int .u8 c] w fun e w' => e = .returned (.bool false) ∧ w' = w := by
  go_enter Tryd.func85, Tryd.ntmps85
  repeat' ((fail_if_success at_builtin); (first | go_skip | go_guarded | go_step))
  go_ret
  exact ⟨ret_b (by simp), rfl⟩
set_option maxRecDepth 100000 in
theorem nanS_any (s : ByteArray) (w : World) : Calls Tryd.prog 96 #[.string s] w fun e w' => e = .returned (.bool false) ∧ w' = w := by
  go_enter Tryd.func96, Tryd.ntmps96
  repeat' ((fail_if_success at_builtin); (first | go_skip | go_guarded | go_step))
  go_ret
  exact ⟨ret_b (by simp), rfl⟩
set_option maxRecDepth 100000 in
theorem cmpB_any (x y : UInt8) (w : World) : Calls Tryd.prog 68 #[.int .u8 (x.toNat : Int), .int .u8 (y.toNat : Int)] w fun e w' => e = .returned (.int .i64 (natC x.toNat y.toNat)) ∧ w' = w := by
  generalize x.toNat = a
  generalize y.toNat = b
  unfold natC
  go_enter Tryd.func68, Tryd.ntmps68
  repeat' ((fail_if_success at_builtin); (first | go_skip | go_guarded | go_step))
  refine (nanB_any _ _).mono ?_
  rintro e w1 ⟨rfl, rfl⟩
  dsimp only
  repeat' ((fail_if_success at_builtin); (first | go_skip | go_guarded | go_step))
  refine (nanB_any _ _).mono ?_
  rintro e w1 ⟨rfl, rfl⟩
  dsimp only
  by_cases h1 : a < b
  · have i1 : (a : Int) < (b : Int) := by omega
    repeat' ((fail_if_success at_builtin); (first | go_skip | go_guarded | go_step))
    go_ret
    exact ⟨by rw [if_pos h1]; rfl, rfl⟩
  · have i1 : ¬ ((a : Int) < (b : Int)) := by omega
    by_cases h2 : b < a
    · have i2 : (b : Int) < (a : Int) := by omega
      repeat' ((fail_if_success at_builtin); (first | go_skip | go_guarded | go_step))
      go_ret
      exact ⟨by rw [if_neg h1, if_pos h2]; rfl, rfl⟩
    · have i2 : ¬ ((b : Int) < (a : Int)) := by omega
      repeat' ((fail_if_success at_builtin); (first | go_skip | go_guarded | go_step))
      go_ret
      exact ⟨by rw [if_neg h1, if_neg h2]; rfl, rfl⟩
/-- how two strings are ordered, byte for byte -/
def strC (x y : List UInt8) : Int := if Go.Op.bytesLess x y then -1 else if x = y then 0 else 1
set_option maxRecDepth 100000 in
theorem cmpS_any (x y : ByteArray) (w : World) : Calls Tryd.prog 84 #[.string x, .string y] w fun e w' => e = .returned (.int .i64 (strC x.toList y.toList)) ∧ w' = w := by
  unfold strC
  go_enter Tryd.func84, Tryd.ntmps84
  repeat' ((fail_if_success at_builtin); (first | go_skip | go_guarded | go_step))
  refine (nanS_any _ _).mono ?_
  rintro e w1 ⟨rfl, rfl⟩
  dsimp only
  repeat' ((fail_if_success at_builtin); (first | go_skip | go_guarded | go_step))
  refine (nanS_any _ _).mono ?_
  rintro e w1 ⟨rfl, rfl⟩
  dsimp only
  cases h1 : Go.Op.bytesLess x.toList y.toList with
  | true =>
    repeat' ((fail_if_success at_builtin); (first | go_skip | go_guarded | go_step))
    go_ret
    exact ⟨by rw [if_pos h1]; rfl, rfl⟩
  | false =>
    by_cases he : x.toList = y.toList
    · have h2 : (x.toList == y.toList) = true := by simpa using he
      replace he := Lib.hid he
      repeat' ((fail_if_success at_builtin); (first | go_skip | go_guarded | go_step))
      go_ret
      exact ⟨by rw [if_neg (by simp [h1]), if_pos he.out]; rfl, rfl⟩
    · have h2 : (x.toList == y.toList) = false := by simpa using he
      replace he := Lib.hid he
      repeat' ((fail_if_success at_builtin); (first | go_skip | go_guarded | go_step))
      go_ret
      exact ⟨by rw [if_neg (by simp [h1]), if_neg he.out]; rfl, rfl⟩
def slen : Value → Nat
  | .string s => s.size
  | _ => 0
def orL : List Int → Int
  | [] => 0
  | x :: l => if x ≠ 0 then x else orL l
theorem orL_at {l : List Int} {i : Nat} {x : Int} (h : l[i]? = some x) : orL (l.drop i) = if x ≠ 0 then x else orL (l.drop (i + 1)) := by
  obtain ⟨hk, he⟩ := List.getElem?_eq_some_iff.1 h
  rw [List.drop_eq_getElem_cons hk, he]; rfl
set_option maxRecDepth 100000 in
theorem or_any (l : List Int) (A : Option Addr) (c B : Nat) (w : World) (hs : Seq w B 1 A l.length (l.map (Value.int .i64))) (hl : l.length ≤ 100) : Calls Tryd.prog 83 #[.slice A l.length c] w fun e w' => e = .returned (.int .i64 (orL l)) ∧ w' = w := by
  go_enter Tryd.func83, Tryd.ntmps83
  repeat' ((fail_if_success at_builtin); (first | go_skip | go_guarded | go_step))
  go_loopw [8] (fun u8 wr => ∃ i : Nat, i ≤ l.length ∧ u8 = .int .i64 (i : Int) ∧ wr = w ∧ orL l = orL (l.drop i)) (fun u8 _ => l.length - (intOf u8).toNat)
  case atStart => exact ⟨0, by omega, rfl, rfl, rfl⟩
  case round =>
    obtain ⟨i, hi, rfl, rfl, hall⟩ := hrel
    by_cases hlt : i < l.length
    · obtain ⟨b, o, rfl, hbB, hcell⟩ := hs.2 (by omega)
      have hci : l[i]? = some l[i] := List.getElem?_eq_getElem hlt
      have e1 := hcell i (.int .i64 l[i]) (by rw [List.getElem?_map, hci]; rfl)
      rw [orL_at hci] at hall
      have i0 : (0 : Int) ≤ (i : Int) := by omega
      have i1 : (i : Int) < (l.length : Int) := by omega
      generalize l[i] = x at e1 hall
      clear hci hcell
      by_cases hx : x = 0
      · rw [if_neg (by simp [hx])] at hall
        have hx2 : (x != 0) = false := by simp [hx]
        clear hx
        replace hall := Lib.hid hall
        repeat' ((fail_if_success at_builtin); (first | go_skip | go_guarded | go_step))
        go_roundw
        case rel => exact ⟨i + 1, by omega, by go_num, trivial, hall.out⟩
        case measure => simp [intOf]; omega
      · rw [if_pos hx] at hall
        have hx2 : (x != 0) = true := by simp [hx]
        clear hx
        replace hall := Lib.hid hall
        repeat' ((fail_if_success at_builtin); (first | go_skip | go_guarded | go_step))
        go_ret
        exact ⟨by rw [hall.out]; rfl, rfl⟩
    · rw [List.drop_of_length_le (by omega)] at hall
      have i1 : ¬ ((i : Int) < (l.length : Int)) := by omega
      replace hall := Lib.hid hall
      repeat' ((fail_if_success at_builtin); (first | go_skip | go_guarded | go_step))
      go_ret
      exact ⟨by rw [hall.out]; rfl, rfl⟩
theorem orL3 (x y z : Int) : orL [x, y, z] = if x ≠ 0 then x else if y ≠ 0 then y else z := by
  unfold orL orL orL orL
  split
  · rfl
  · split
    · rfl
    · split
      · rfl
      · rename_i h; exact (Decidable.not_not.1 h).symm
theorem cmpI_nat (a b : Nat) : Lib.compareInt (a : Int) (b : Int) = natC a b := by
  unfold Lib.compareInt natC
  by_cases h1 : a < b
  · rw [if_pos (by omega), if_pos h1]
  · by_cases h2 : b < a
    · rw [if_neg (by omega), if_pos (by omega), if_neg h1, if_pos h2]
    · rw [if_neg (by omega), if_neg (by omega), if_neg h1, if_neg h2]
theorem natC_zero {a b : Nat} : natC a b = 0 ↔ a = b := by
  unfold natC
  by_cases h1 : a < b
  · rw [if_pos h1]; omega
  · by_cases h2 : b < a
    · rw [if_neg h1, if_pos h2]; omega
    · rw [if_neg h1, if_neg h2]; omega
theorem strC_zero {x y : List UInt8} : strC x y = 0 ↔ x = y := by
  have irr : ∀ l : List UInt8, Go.Op.bytesLess l l = false := by
    intro l
    induction l with
    | nil => rfl
    | cons c l ih => unfold Go.Op.bytesLess; rw [ih]; simp
  unfold strC
  by_cases h : x = y
  · subst h; rw [irr]; simp
  · cases hb : Go.Op.bytesLess x y <;> simp [h]
theorem numC_or (a b : List UInt8) : orL [natC (stripL a).length (stripL b).length, strC (stripL a) (stripL b), natC a.length b.length] = numC a b := by
  rw [orL3]
  unfold numC
  by_cases h1 : (stripL a).length = (stripL b).length
  · have q1 : natC (stripL a).length (stripL b).length = 0 := natC_zero.2 h1
    rw [if_neg (Decidable.not_not.2 q1), if_neg (Decidable.not_not.2 h1)]
    by_cases h2 : stripL a = stripL b
    · have q2 : strC (stripL a) (stripL b) = 0 := strC_zero.2 h2
      rw [if_neg (Decidable.not_not.2 q2), if_neg (Decidable.not_not.2 h2)]
    · have q2 : strC (stripL a) (stripL b) ≠ 0 := fun h => h2 (strC_zero.1 h)
      rw [if_pos q2, if_pos h2]
      unfold strC
      rw [if_neg h2]
  · have q1 : natC (stripL a).length (stripL b).length ≠ 0 := fun h => h1 (natC_zero.1 h)
    rw [if_pos q1, if_pos h1]
set_option maxRecDepth 100000 in
theorem numbers_any (a b : ByteArray) (w : World) : Calls Tryd.prog 67 #[.string a, .string b] w fun e w' => e = .returned (.int .i64 (numC a.data.toList b.data.toList)) ∧ Below w.heap.size w w' := by
  have ea : (strS (stripL a.data.toList)).size = (stripL a.data.toList).length := strS_size _
  have eb : (strS (stripL b.data.toList)).size = (stripL b.data.toList).length := strS_size _
  have ta := strS_toList (stripL a.data.toList)
  have tb := strS_toList (stripL b.data.toList)
  have hN := numC_or a.data.toList b.data.toList
  rw [list_size a, list_size b, ← ea, ← eb] at hN
  have CA : ∀ w', Calls Tryd.prog 82 #[.string a, .string ⟨#[48]⟩] w' fun e w'' => e = .returned (.string (strS (stripL a.data.toList))) ∧ w'' = w' := fun w' => Tryd.strings_TrimLeft_one a 48 (by decide) w'
  have CB : ∀ w', Calls Tryd.prog 82 #[.string b, .string ⟨#[48]⟩] w' fun e w'' => e = .returned (.string (strS (stripL b.data.toList))) ∧ w'' = w' := fun w' => Tryd.strings_TrimLeft_one b 48 (by decide) w'
  generalize numC a.data.toList b.data.toList = r at *
  have CS := fun w' => cmpS_any (strS (stripL a.data.toList)) (strS (stripL b.data.toList)) w'
  rw [ta, tb] at CS
  generalize hs : strC (stripL a.data.toList) (stripL b.data.toList) = s at *
  generalize strS (stripL a.data.toList) = X at *
  generalize strS (stripL b.data.toList) = Y at *
  clear ea eb ta tb hs
  replace CA := Lib.hid CA
  replace CB := Lib.hid CB
  replace CS := Lib.hid CS
  replace hN := Lib.hid hN
  go_enter Tryd.func67, Tryd.ntmps67
  repeat' ((fail_if_success at_builtin); (first | go_skip | go_guarded | go_step))
  refine (CA.out _).mono ?_
  rintro e w1 ⟨rfl, rfl⟩
  dsimp only
  repeat' ((fail_if_success at_builtin); (first | go_skip | go_guarded | go_step))
  refine (CB.out _).mono ?_
  rintro e w2 ⟨rfl, rfl⟩
  dsimp only
  repeat' ((fail_if_success at_builtin); (first | go_skip | go_guarded | go_step))
  refine (Tryd.cmp_Compare_int _ _ _).mono ?_
  rintro e w3 ⟨rfl, rfl⟩
  rw [cmpI_nat]
  dsimp only
  repeat' ((fail_if_success at_builtin); (first | go_skip | go_guarded | go_step))
  refine (CS.out _).mono ?_
  rintro e w4 ⟨rfl, rfl⟩
  dsimp only
  repeat' ((fail_if_success at_builtin); (first | go_skip | go_guarded | go_step))
  refine (Tryd.cmp_Compare_int _ _ _).mono ?_
  rintro e w5 ⟨rfl, rfl⟩
  rw [cmpI_nat]
  dsimp only
  repeat' ((fail_if_success at_builtin); (first | go_skip | go_guarded | go_step))
  have hq : Seq (w5.alloc (.cells #[.int .i64 (natC X.size Y.size), .int .i64 s, .int .i64 (natC a.size b.size)] 3)) (w5.heap.size + 1) 1 (some ⟨w5.heap.size, 0, none⟩) [natC X.size Y.size, s, natC a.size b.size].length ([natC X.size Y.size, s, natC a.size b.size].map (Value.int .i64)) := by
    refine ⟨rfl, fun _ => ⟨w5.heap.size, 0, rfl, by omega, fun j u hu => ?_⟩⟩
    match j, hu with
    | 0, hu => cases hu; simp [go_sem]
    | 1, hu => cases hu; simp [go_sem]
    | 2, hu => cases hu; simp [go_sem]
  refine (or_any [natC X.size Y.size, s, natC a.size b.size] _ 3 _ _ hq (by simp)).mono ?_
  rintro e w6 ⟨rfl, rfl⟩
  dsimp only
  repeat' ((fail_if_success at_builtin); (first | go_skip | go_guarded | go_step))
  go_ret
  exact ⟨by rw [hN.out]; rfl, (Below.refl _ _).alloc (Nat.le_refl _) _⟩
theorem ext_head (s : ByteArray) (n : Nat) : (s.extract 0 n).data.toList = s.data.toList.take n := by rw [ext_list2, List.drop_zero]
theorem ext_tail (s : ByteArray) (n : Nat) : (s.extract n s.size).data.toList = s.data.toList.drop n := by rw [ext_list2, List.take_of_length_le (by rw [list_size]; exact Nat.le_refl _)]
theorem toList_some {s : ByteArray} (h : 0 < s.size) : (s.toList == []) = false := by
  have hsz : s.data.toList.length = s.size := by simp
  have hne : ¬ (s.toList = []) := by
    rw [ByteArray.toList_eq]
    intro h2
    rw [h2] at hsz
    simp at hsz
    omega
  simpa using hne
theorem toList_none {s : ByteArray} (h : ¬ 0 < s.size) : (s.toList == []) = true := by
  have hsz : s.data.toList.length = s.size := by simp
  have : s.toList = [] := by
    rw [ByteArray.toList_eq]
    exact List.eq_nil_of_length_eq_zero (by omega)
  simp [this]
set_option maxRecDepth 100000 in
set_option maxHeartbeats 4000000 in
theorem compare_any (a b : ByteArray) (w : World) (ha : a.size ≤ 4611686018427387904) (hb : b.size ≤ 4611686018427387904) : Calls Tryd.prog 31 #[.string a, .string b] w fun e w' => e = .returned (.int .i64 (cmpN a.data.toList b.data.toList)) ∧ Below w.heap.size w w' := by
  go_enter Tryd.func31, Tryd.ntmps31
  repeat' ((fail_if_success at_builtin); (first | go_skip | go_guarded | go_step))
  go_loopw [0, 1] (fun u0 u1 wr => ∃ x y : ByteArray, x.size ≤ a.size ∧ y.size ≤ b.size ∧ u0 = .string x ∧ u1 = .string y ∧ Below w.heap.size w wr ∧ cmpN a.data.toList b.data.toList = cmpN x.data.toList y.data.toList) (fun u0 _ _ => slen u0)
  case atStart => exact ⟨a, b, by omega, by omega, rfl, rfl, Below.refl _ _, rfl⟩
  case round =>
    obtain ⟨x, y, hx, hy, rfl, rfl, hbw, hall⟩ := hrel
    obtain ⟨wx, hwx⟩ : ∃ wx : World, wx = wr := ⟨wr, rfl⟩
    subst hwx
    by_cases hlt : 0 < x.size ∧ 0 < y.size
    · obtain ⟨hi1, hk1⟩ := hlt
      have hc := str_at hi1
      have hd := str_at hk1
      have x0 : (0 : Int) < (x.size : Int) := by omega
      have y0 : (0 : Int) < (y.size : Int) := by omega
      have nx := toList_some hi1
      have ny := toList_some hk1
      have CX := fun w' => runN_any x w' (by omega)
      have CY := fun w' => runN_any y w' (by omega)
      have sx := list_size x
      have sy := list_size y
      by_cases hdg : (isDg x[0].toNat && isDg y[0].toNat) = true
      · obtain ⟨h1, h2⟩ := Bool.and_eq_true_iff.1 hdg
        have ra := digit_run hc h1
        have rb := digit_run hd h2
        have hN := hall
        have hN2 := cmp_at_num hc hd h1 h2
        simp only [List.drop_zero, Nat.zero_add] at ra rb hN2
        rw [hN2] at hN
        rw [sx] at ra
        rw [sy] at rb
        have CN := fun w' => numbers_any (x.extract 0 (runN x.data.toList)) (y.extract 0 (runN y.data.toList)) w'
        have e1 := ext_head x (runN x.data.toList)
        have e2 := ext_head y (runN y.data.toList)
        rw [e1, e2] at CN
        generalize runN x.data.toList = n at *
        generalize runN y.data.toList = m at *
        generalize numC (x.data.toList.take n) (y.data.toList.take m) = r at *
        clear hN2 e1 e2 hc hd hdg h1 h2 hall
        replace CX := Lib.hid CX
        replace CY := Lib.hid CY
        replace CN := Lib.hid CN
        replace hN := Lib.hid hN
        have n0 : (0 : Int) < (n : Int) := by omega
        have m0 : (0 : Int) < (m : Int) := by omega
        have n1 : (n : Int) ≤ (x.size : Int) := by omega
        have m1 : (m : Int) ≤ (y.size : Int) := by omega
        have n2 : (0 : Int) ≤ (n : Int) := by omega
        have m2 : (0 : Int) ≤ (m : Int) := by omega
        repeat' ((fail_if_success at_builtin); (first | go_skip | go_guarded | go_step))
        refine (CX.out _).mono ?_
        rintro e w1 ⟨rfl, rfl⟩
        dsimp only
        repeat' ((fail_if_success at_builtin); (first | go_skip | go_guarded | go_step))
        refine (CY.out _).mono ?_
        rintro e w2 ⟨rfl, rfl⟩
        dsimp only
        repeat' ((fail_if_success at_builtin); (first | go_skip | go_guarded | go_step))
        go_region_held3 (fun w' => Below w2.heap.size w2 w')
          (first | exact (Below.refl _ _).drew | exact Below.refl _ _ | exact Below.trans (by assumption) (hbq.mono (Below.size (by assumption))))
          (first
            | (go_at_call 67; refine (CN.out _).mono ?_; rintro e w8 ⟨rfl, hbq⟩; dsimp only))
        have hbx := (by assumption : Below w2.heap.size w2 w8)
        have hbz := hbw.trans (hbx.mono hbw.size)
        clear hbx hbw
        by_cases hr : r = 0
        · have hr2 : (r != 0) = false := by simp [hr]
          have hN' := hN.out
          rw [if_neg (Decidable.not_not.2 hr)] at hN'
          replace hN := Lib.hid hN'
          clear hN' hr
          repeat' ((fail_if_success at_builtin); (first | go_skip | go_guarded | go_step))
          go_quiet (fail)
          have hbz2 := hbz.trans (Below.mono (Below.drewN w8 nq) hbz.size)
          generalize w8.drewN nq = wv at *
          repeat' ((fail_if_success at_builtin); (first | go_skip | go_guarded | go_step))
          go_roundw
          case rel => exact ⟨x.extract n x.size, y.extract m y.size, by simp [ByteArray.size_extract]; omega, by simp [ByteArray.size_extract]; omega, rfl, rfl, hbz2, by rw [ext_tail, ext_tail]; exact hN.out⟩
          case measure => simp [slen, ByteArray.size_extract]; omega
        · have hr2 : (r != 0) = true := by simp [hr]
          have hN' := hN.out
          rw [if_pos hr] at hN'
          replace hN := Lib.hid hN'
          clear hN' hr
          repeat' ((fail_if_success at_builtin); (first | go_skip | go_guarded | go_step))
          go_ret
          exact ⟨by rw [hN.out]; rfl, hbz⟩
      · have hdg' : (isDg x[0].toNat && isDg y[0].toNat) = false := by simpa using hdg
        have hN := hall
        have hN2 := cmp_at_byte hc hd hdg'
        simp only [List.drop_zero, Nat.zero_add] at hN2
        rw [hN2] at hN
        cases h1 : isDg x[0].toNat with
        | false =>
          have r1 := runN_at hc
          rw [if_neg (by simp [h1]), List.drop_zero] at r1
          rw [r1] at CX
          generalize runN y.data.toList = m at *
          clear hN2 hc hd hdg hdg' h1 hall r1
          replace CX := Lib.hid CX
          replace CY := Lib.hid CY
          have hN := hN
          repeat' ((fail_if_success at_builtin); (first | go_skip | go_guarded | go_step))
          refine (CX.out _).mono ?_
          rintro e w1 ⟨rfl, rfl⟩
          dsimp only
          repeat' ((fail_if_success at_builtin); (first | go_skip | go_guarded | go_step))
          refine (CY.out _).mono ?_
          rintro e w2 ⟨rfl, rfl⟩
          dsimp only
          repeat' ((fail_if_success at_builtin); (first | go_skip | go_guarded | go_step))
          go_quiet (fail)
          have hbz := hbw.trans (Below.mono (Below.drewN w2 nq) hbw.size)
          generalize w2.drewN nq = wz at *
          clear hbw
          by_cases he : x[0].toNat = y[0].toNat
          · have hr2 : ((x[0].toNat : Int) != (y[0].toNat : Int)) = false := by simp [he]
            rw [if_neg (Decidable.not_not.2 (natC_zero.2 he))] at hN
            replace hN := Lib.hid hN
            have x1 : (1 : Int) ≤ (x.size : Int) := by omega
            have y1 : (1 : Int) ≤ (y.size : Int) := by omega
            clear he
            repeat' ((fail_if_success at_builtin); (first | go_skip | go_guarded | go_step))
            go_quiet (fail)
            have hbz2 := hbz.trans (Below.mono (Below.drewN wz nq) hbz.size)
            generalize wz.drewN nq = wv at *
            repeat' ((fail_if_success at_builtin); (first | go_skip | go_guarded | go_step))
            go_roundw
            case rel => exact ⟨x.extract 1 x.size, y.extract 1 y.size, by simp [ByteArray.size_extract]; omega, by simp [ByteArray.size_extract]; omega, rfl, rfl, hbz2, by rw [ext_tail, ext_tail]; exact hN.out⟩
            case measure => simp [slen, ByteArray.size_extract]; omega
          · have hr2 : ((x[0].toNat : Int) != (y[0].toNat : Int)) = true := by simpa using (by omega : ¬ (x[0].toNat : Int) = (y[0].toNat : Int))
            rw [if_pos (fun h => he (natC_zero.1 h))] at hN
            replace hN := Lib.hid hN
            clear he
            repeat' ((fail_if_success at_builtin); (first | go_skip | go_guarded | go_step))
            go_quiet (first | (go_at_call 68; exact Calls.quiet_of_same (cmpB_any _ _ _)))
            have hbz2 := hbz.trans (Below.mono (Below.drewN wz nq) hbz.size)
            generalize wz.drewN nq = wv at *
            repeat' ((fail_if_success at_builtin); (first | go_skip | go_guarded | go_step))
            go_ret
            exact ⟨by rw [hN.out]; rfl, hbz2⟩
        | true =>
          rw [h1, Bool.true_and] at hdg'
          have r1 := runN_at hd
          rw [if_neg (by simp [hdg']), List.drop_zero] at r1
          rw [r1] at CY
          have ra := (digit_run hc h1).1
          rw [List.drop_zero] at ra
          generalize runN x.data.toList = n at *
          have n0 : (0 : Int) < (n : Int) := by omega
          clear hN2 hc hd hdg hdg' h1 hall r1 ra
          replace CX := Lib.hid CX
          replace CY := Lib.hid CY
          repeat' ((fail_if_success at_builtin); (first | go_skip | go_guarded | go_step))
          refine (CX.out _).mono ?_
          rintro e w1 ⟨rfl, rfl⟩
          dsimp only
          repeat' ((fail_if_success at_builtin); (first | go_skip | go_guarded | go_step))
          refine (CY.out _).mono ?_
          rintro e w2 ⟨rfl, rfl⟩
          dsimp only
          repeat' ((fail_if_success at_builtin); (first | go_skip | go_guarded | go_step))
          go_quiet (fail)
          have hbz := hbw.trans (Below.mono (Below.drewN w2 nq) hbw.size)
          generalize w2.drewN nq = wz at *
          clear hbw
          by_cases he : x[0].toNat = y[0].toNat
          · have hr2 : ((x[0].toNat : Int) != (y[0].toNat : Int)) = false := by simp [he]
            rw [if_neg (Decidable.not_not.2 (natC_zero.2 he))] at hN
            replace hN := Lib.hid hN
            have x1 : (1 : Int) ≤ (x.size : Int) := by omega
            have y1 : (1 : Int) ≤ (y.size : Int) := by omega
            clear he
            repeat' ((fail_if_success at_builtin); (first | go_skip | go_guarded | go_step))
            go_quiet (fail)
            have hbz2 := hbz.trans (Below.mono (Below.drewN wz nq) hbz.size)
            generalize wz.drewN nq = wv at *
            repeat' ((fail_if_success at_builtin); (first | go_skip | go_guarded | go_step))
            go_roundw
            case rel => exact ⟨x.extract 1 x.size, y.extract 1 y.size, by simp [ByteArray.size_extract]; omega, by simp [ByteArray.size_extract]; omega, rfl, rfl, hbz2, by rw [ext_tail, ext_tail]; exact hN.out⟩
            case measure => simp [slen, ByteArray.size_extract]; omega
          · have hr2 : ((x[0].toNat : Int) != (y[0].toNat : Int)) = true := by simpa using (by omega : ¬ (x[0].toNat : Int) = (y[0].toNat : Int))
            rw [if_pos (fun h => he (natC_zero.1 h))] at hN
            replace hN := Lib.hid hN
            clear he
            repeat' ((fail_if_success at_builtin); (first | go_skip | go_guarded | go_step))
            go_quiet (first | (go_at_call 68; exact Calls.quiet_of_same (cmpB_any _ _ _)))
            have hbz2 := hbz.trans (Below.mono (Below.drewN wz nq) hbz.size)
            generalize wz.drewN nq = wv at *
            repeat' ((fail_if_success at_builtin); (first | go_skip | go_guarded | go_step))
            go_ret
            exact ⟨by rw [hN.out]; rfl, hbz2⟩
    · have hN := hall
      by_cases hi1 : 0 < x.size
      · have ny := toList_none (s := y) (by omega)
        have nx := toList_some hi1
        have e2 : y.data.toList = [] := List.eq_nil_of_length_eq_zero (by have := list_size y; omega)
        have sy : y.size = 0 := by omega
        have e1 := drop_cons (str_at hi1)
        rw [List.drop_zero] at e1
        rw [e1, e2, cmpN_long] at hN
        have y0 : ((y.size : Nat) : Int) = 0 := by omega
        have x0 : (0 : Int) < (x.size : Int) := by omega
        have hr : Lib.compareInt (x.size : Int) 0 = 1 := by unfold Lib.compareInt; rw [if_neg (by omega), if_pos (by omega)]
        replace hN := Lib.hid hN
        clear e1 e2 hall hlt sy
        repeat' ((fail_if_success at_builtin); (first | go_skip | go_guarded | go_step))
        refine (Tryd.cmp_Compare_int _ _ _).mono ?_
        rintro e w1 ⟨rfl, rfl⟩
        simp only [hr]
        repeat' ((fail_if_success at_builtin); (first | go_skip | go_guarded | go_step))
        go_ret
        exact ⟨by rw [hN.out]; rfl, hbw⟩
      · have nx := toList_none hi1
        have e1 : x.data.toList = [] := List.eq_nil_of_length_eq_zero (by have := list_size x; omega)
        have hr : Lib.compareInt (x.size : Int) (y.size : Int) = cmpN x.data.toList y.data.toList := by
          unfold Lib.compareInt
          rw [e1]
          by_cases hk1 : 0 < y.size
          · have e2 := drop_cons (str_at hk1)
            rw [List.drop_zero] at e2
            rw [e2, cmpN_short, if_pos (by omega)]
          · have e2 : y.data.toList = [] := List.eq_nil_of_length_eq_zero (by have := list_size y; omega)
            rw [e2, cmpN_nil, if_neg (by omega), if_neg (by omega)]
        rw [← hr] at hN
        replace hN := Lib.hid hN
        clear e1 hall hlt hr hi1
        repeat' ((fail_if_success at_builtin); (first | go_skip | go_guarded | go_step))
        refine (Tryd.cmp_Compare_int _ _ _).mono ?_
        rintro e w1 ⟨rfl, rfl⟩
        dsimp only
        repeat' ((fail_if_success at_builtin); (first | go_skip | go_guarded | go_step))
        go_ret
        exact ⟨by rw [hN.out]; rfl, hbw⟩
end Go.Proofs.YtennhjkhjplmoaaDoor
