/- Joined: CmpW TyY. -/
import Derived.Test.YtgdapkglofchjaaGreatDoorF13
set_option maxRecDepth 100000
set_option maxHeartbeats 4000000
set_option linter.unusedVariables false
namespace Go.Proofs.YtgdapkglofchjaaGreatDoor
open Go.RowKit
theorem runN_any (s : ByteArray) (w : World) (hm : s.size ≤ 9223372036854775807) : Calls Tryz.prog 152 #[.string s] w fun e w' => e = .returned (.int .i64 ((runN s.data.toList : Nat) : Int)) ∧ w' = w := by
 have hsz : s.data.toList.length = s.size := by simp
 go_enter Tryz.func152, Tryz.ntmps152
 repeat' (first | go_skip | go_guarded | go_step)
 go_loopw [3] (fun u3 wr => ∃ i : Nat, i ≤ s.size ∧ u3 = .int .i64 (i : Int) ∧ wr = w ∧ runN s.data.toList = i + runN (s.data.toList.drop i)) (fun u3 _ => s.size - (intOf u3).toNat)
 case atStart => exact ⟨0, by omega, rfl, rfl, by simp⟩
 case round =>
  obtain ⟨i, hi, rfl, rfl, hall⟩ := hrel
  by_cases hlt : i < s.size
  ·have hci := str_at hlt
   rw [runN_at hci] at hall
   have i0 : (0 : Int) ≤ (i : Int) := by omega
   have i1 : (i : Int) < (s.size : Int) := by omega
   clear hci
   replace hall := Lib.hid hall
   repeat' (first | go_skip | go_guarded | go_step)
   refine (digit_any _ _).mono ?_
   rintro e w' ⟨rfl, rfl⟩
   dsimp only
   have hd : (decide (48 ≤ s[i].toNat) && decide (s[i].toNat ≤ 57)) = isDg s[i].toNat := rfl
   rw [hd]
   cases hv : isDg s[i].toNat with
   | true =>
    repeat' (first | go_skip | go_guarded | go_step)
    go_roundw
    case rel =>
     have h := hall.out
     rw [hv, if_pos rfl] at h
     exact ⟨i + 1, by omega, by go_num, trivial, by omega⟩
    case measure => simp [intOf]; omega
   | false =>
    repeat' (first | go_skip | go_guarded | go_step)
    go_ret
    have h := hall.out
    rw [hv, if_neg (by simp)] at h
    exact ⟨by rw [h]; rfl, rfl⟩
  ·have h := hall
   rw [runN_end (by omega : s.data.toList.length ≤ i)] at h
   have i1 : ¬ ((i : Int) < (s.size : Int)) := by omega
   replace h := Lib.hid h
   clear hall
   repeat' (first | go_skip | go_guarded | go_step)
   go_ret
   exact ⟨by rw [h.out]; rfl, rfl⟩
theorem nanB_any (c : Int) (w : World) : Calls Tryz.prog 161 #[.int .u8 c] w fun e w' => e = .returned (.bool false) ∧ w' = w := by
 go_enter Tryz.func161, Tryz.ntmps161
 repeat' (first | go_skip | go_guarded | go_step)
 go_ret
 exact ⟨ret_b (by simp), rfl⟩
theorem nanS_any (s : ByteArray) (w : World) : Calls Tryz.prog 167 #[.string s] w fun e w' => e = .returned (.bool false) ∧ w' = w := by
 go_enter Tryz.func167, Tryz.ntmps167
 repeat' (first | go_skip | go_guarded | go_step)
 go_ret
 exact ⟨ret_b (by simp), rfl⟩
theorem cmpB_any (x y : UInt8) (w : World) : Calls Tryz.prog 154 #[.int .u8 (x.toNat : Int), .int .u8 (y.toNat : Int)] w fun e w' => e = .returned (.int .i64 (natC x.toNat y.toNat)) ∧ w' = w := by
 generalize x.toNat = a
 generalize y.toNat = b
 unfold natC
 go_enter Tryz.func154, Tryz.ntmps154
 repeat' (first | go_skip | go_guarded | go_step)
 refine (nanB_any _ _).mono ?_
 rintro e w1 ⟨rfl, rfl⟩
 dsimp only
 repeat' (first | go_skip | go_guarded | go_step)
 refine (nanB_any _ _).mono ?_
 rintro e w1 ⟨rfl, rfl⟩
 dsimp only
 by_cases h1 : a < b
 ·have i1 : (a : Int) < (b : Int) := by omega
  repeat' (first | go_skip | go_guarded | go_step)
  go_ret
  exact ⟨by rw [if_pos h1]; rfl, rfl⟩
 ·have i1 : ¬ ((a : Int) < (b : Int)) := by omega
  by_cases h2 : b < a
  ·have i2 : (b : Int) < (a : Int) := by omega
   repeat' (first | go_skip | go_guarded | go_step)
   go_ret
   exact ⟨by rw [if_neg h1, if_pos h2]; rfl, rfl⟩
  ·have i2 : ¬ ((b : Int) < (a : Int)) := by omega
   repeat' (first | go_skip | go_guarded | go_step)
   go_ret
   exact ⟨by rw [if_neg h1, if_neg h2]; rfl, rfl⟩
def strC (x y : List UInt8) : Int := if Go.Op.bytesLess x y then -1 else if x = y then 0 else 1
theorem cmpS_any (x y : ByteArray) (w : World) : Calls Tryz.prog 160 #[.string x, .string y] w fun e w' => e = .returned (.int .i64 (strC x.toList y.toList)) ∧ w' = w := by
 unfold strC
 go_enter Tryz.func160, Tryz.ntmps160
 repeat' (first | go_skip | go_guarded | go_step)
 refine (nanS_any _ _).mono ?_
 rintro e w1 ⟨rfl, rfl⟩
 dsimp only
 repeat' (first | go_skip | go_guarded | go_step)
 refine (nanS_any _ _).mono ?_
 rintro e w1 ⟨rfl, rfl⟩
 dsimp only
 cases h1 : Go.Op.bytesLess x.toList y.toList with
 | true =>
  repeat' (first | go_skip | go_guarded | go_step)
  go_ret
  exact ⟨by rw [if_pos h1]; rfl, rfl⟩
 | false =>
  by_cases he : x.toList = y.toList
  ·have h2 : (x.toList == y.toList) = true := by simpa using he
   replace he := Lib.hid he
   repeat' (first | go_skip | go_guarded | go_step)
   go_ret
   exact ⟨by rw [if_neg (by simp [h1]), if_pos he.out]; rfl, rfl⟩
  ·have h2 : (x.toList == y.toList) = false := by simpa using he
   replace he := Lib.hid he
   repeat' (first | go_skip | go_guarded | go_step)
   go_ret
   exact ⟨by rw [if_neg (by simp [h1]), if_neg he.out]; rfl, rfl⟩
def slen : Value → Nat
 | .string s => s.size
 | _ => 0
def orL : List Int → Int
 | [] => 0
 | x :: l => if x ≠ 0 then x else orL l
theorem orL_at {l : List Int} {i : Nat} {x : Int} (h : l[i]? = some x) : orL (l.drop i) = if x ≠ 0 then x else orL (l.drop (i + 1)) := by
 obtain ⟨hk, he⟩ := List.getElem?_eq_some_iff.1 h
 rw [List.drop_eq_getElem_cons hk, he]; rfl
theorem or_any (l : List Int) (A : Option Addr) (c B : Nat) (w : World) (hs : Seq w B 1 A l.length (l.map (Value.int .i64))) (hl : l.length ≤ 100) : Calls Tryz.prog 159 #[.slice A l.length c] w fun e w' => e = .returned (.int .i64 (orL l)) ∧ w' = w := by
 go_enter Tryz.func159, Tryz.ntmps159
 repeat' (first | go_skip | go_guarded | go_step)
 go_loopw [8] (fun u8 wr => ∃ i : Nat, i ≤ l.length ∧ u8 = .int .i64 (i : Int) ∧ wr = w ∧ orL l = orL (l.drop i)) (fun u8 _ => l.length - (intOf u8).toNat)
 case atStart => exact ⟨0, by omega, rfl, rfl, rfl⟩
 case round =>
  obtain ⟨i, hi, rfl, rfl, hall⟩ := hrel
  by_cases hlt : i < l.length
  ·obtain ⟨b, o, rfl, hbB, hcell⟩ := hs.2 (by omega)
   have hci : l[i]? = some l[i] := List.getElem?_eq_getElem hlt
   have e1 := hcell i (.int .i64 l[i]) (by rw [List.getElem?_map, hci]; rfl)
   rw [orL_at hci] at hall
   have i0 : (0 : Int) ≤ (i : Int) := by omega
   have i1 : (i : Int) < (l.length : Int) := by omega
   generalize l[i] = x at e1 hall
   clear hci hcell
   by_cases hx : x = 0
   ·rw [if_neg (by simp [hx])] at hall
    have hx2 : (x != 0) = false := by simp [hx]
    clear hx
    replace hall := Lib.hid hall
    repeat' (first | go_skip | go_guarded | go_step)
    go_roundw
    case rel => exact ⟨i + 1, by omega, by go_num, trivial, hall.out⟩
    case measure => simp [intOf]; omega
   ·rw [if_pos hx] at hall
    have hx2 : (x != 0) = true := by simp [hx]
    clear hx
    replace hall := Lib.hid hall
    repeat' (first | go_skip | go_guarded | go_step)
    go_ret
    exact ⟨by rw [hall.out]; rfl, rfl⟩
  ·rw [List.drop_of_length_le (by omega)] at hall
   have i1 : ¬ ((i : Int) < (l.length : Int)) := by omega
   replace hall := Lib.hid hall
   repeat' (first | go_skip | go_guarded | go_step)
   go_ret
   exact ⟨by rw [hall.out]; rfl, rfl⟩
theorem orL3 (x y z : Int) : orL [x, y, z] = if x ≠ 0 then x else if y ≠ 0 then y else z := by
 unfold orL orL orL orL
 split
 ·rfl
 ·split
  ·rfl
  ·split
   ·rfl
   ·rename_i h; exact (Decidable.not_not.1 h).symm
theorem cmpI_nat (a b : Nat) : Lib.compareInt (a : Int) (b : Int) = natC a b := by
 unfold Lib.compareInt natC
 by_cases h1 : a < b
 ·rw [if_pos (by omega), if_pos h1]
 ·by_cases h2 : b < a
  ·rw [if_neg (by omega), if_pos (by omega), if_neg h1, if_pos h2]
  ·rw [if_neg (by omega), if_neg (by omega), if_neg h1, if_neg h2]
theorem natC_zero {a b : Nat} : natC a b = 0 ↔ a = b := by
 unfold natC
 by_cases h1 : a < b
 ·rw [if_pos h1]; omega
 ·by_cases h2 : b < a
  ·rw [if_neg h1, if_pos h2]; omega
  ·rw [if_neg h1, if_neg h2]; omega
theorem strC_zero {x y : List UInt8} : strC x y = 0 ↔ x = y := by
 have irr : ∀ l : List UInt8, Go.Op.bytesLess l l = false := by
  intro l
  induction l with
  | nil => rfl
  | cons c l ih => unfold Go.Op.bytesLess; rw [ih]; simp
 unfold strC
 by_cases h : x = y
 ·subst h; rw [irr]; simp
 ·cases hb : Go.Op.bytesLess x y <;> simp [h]
theorem numC_or (a b : List UInt8) : orL [natC (stripL a).length (stripL b).length, strC (stripL a) (stripL b), natC a.length b.length] = numC a b := by
 rw [orL3]
 unfold numC
 by_cases h1 : (stripL a).length = (stripL b).length
 ·have q1 : natC (stripL a).length (stripL b).length = 0 := natC_zero.2 h1
  rw [if_neg (Decidable.not_not.2 q1), if_neg (Decidable.not_not.2 h1)]
  by_cases h2 : stripL a = stripL b
  ·have q2 : strC (stripL a) (stripL b) = 0 := strC_zero.2 h2
   rw [if_neg (Decidable.not_not.2 q2), if_neg (Decidable.not_not.2 h2)]
  ·have q2 : strC (stripL a) (stripL b) ≠ 0 := fun h => h2 (strC_zero.1 h)
   rw [if_pos q2, if_pos h2]
   unfold strC
   rw [if_neg h2]
 ·have q1 : natC (stripL a).length (stripL b).length ≠ 0 := fun h => h1 (natC_zero.1 h)
  rw [if_pos q1, if_pos h1]
theorem numbers_any (a b : ByteArray) (w : World) : Calls Tryz.prog 153 #[.string a, .string b] w fun e w' => e = .returned (.int .i64 (numC a.data.toList b.data.toList)) ∧ Below w.heap.size w w' := by
 have ea : (strS (stripL a.data.toList)).size = (stripL a.data.toList).length := strS_size _
 have eb : (strS (stripL b.data.toList)).size = (stripL b.data.toList).length := strS_size _
 have ta := strS_toList (stripL a.data.toList)
 have tb := strS_toList (stripL b.data.toList)
 have hN := numC_or a.data.toList b.data.toList
 rw [list_size a, list_size b, ← ea, ← eb] at hN
 have CA : ∀ w', Calls Tryz.prog 158 #[.string a, .string ⟨#[48]⟩] w' fun e w'' => e = .returned (.string (strS (stripL a.data.toList))) ∧ w'' = w' := fun w' => Tryz.strings_TrimLeft_one a 48 (by decide) w'
 have CB : ∀ w', Calls Tryz.prog 158 #[.string b, .string ⟨#[48]⟩] w' fun e w'' => e = .returned (.string (strS (stripL b.data.toList))) ∧ w'' = w' := fun w' => Tryz.strings_TrimLeft_one b 48 (by decide) w'
 generalize numC a.data.toList b.data.toList = r at *
 have CS := fun w' => cmpS_any (strS (stripL a.data.toList)) (strS (stripL b.data.toList)) w'
 rw [ta, tb] at CS
 generalize hs : strC (stripL a.data.toList) (stripL b.data.toList) = s at *
 generalize strS (stripL a.data.toList) = X at *
 generalize strS (stripL b.data.toList) = Y at *
 clear ea eb ta tb hs
 replace CA := Lib.hid CA
 replace CB := Lib.hid CB
 replace CS := Lib.hid CS
 replace hN := Lib.hid hN
 go_enter Tryz.func153, Tryz.ntmps153
 repeat' (first | go_skip | go_guarded | go_step)
 refine (CA.out _).mono ?_
 rintro e w1 ⟨rfl, rfl⟩
 dsimp only
 repeat' (first | go_skip | go_guarded | go_step)
 refine (CB.out _).mono ?_
 rintro e w2 ⟨rfl, rfl⟩
 dsimp only
 repeat' (first | go_skip | go_guarded | go_step)
 refine (Tryz.cmp_Compare_int _ _ _).mono ?_
 rintro e w3 ⟨rfl, rfl⟩
 rw [cmpI_nat]
 dsimp only
 repeat' (first | go_skip | go_guarded | go_step)
 refine (CS.out _).mono ?_
 rintro e w4 ⟨rfl, rfl⟩
 dsimp only
 repeat' (first | go_skip | go_guarded | go_step)
 refine (Tryz.cmp_Compare_int _ _ _).mono ?_
 rintro e w5 ⟨rfl, rfl⟩
 rw [cmpI_nat]
 dsimp only
 repeat' ((fail_if_success at_builtin); first | go_skip | go_guarded | go_step)
 have hq : Seq (w5.alloc (.cells #[.int .i64 (natC X.size Y.size), .int .i64 s, .int .i64 (natC a.size b.size)] 3)) (w5.heap.size + 1) 1 (some ⟨w5.heap.size, 0, none⟩) [natC X.size Y.size, s, natC a.size b.size].length ([natC X.size Y.size, s, natC a.size b.size].map (Value.int .i64)) := by
  refine ⟨rfl, fun _ => ⟨w5.heap.size, 0, rfl, by omega, fun j u hu => ?_⟩⟩
  match j, hu with
  | 0, hu => cases hu; simp [go_sem]
  | 1, hu => cases hu; simp [go_sem]
  | 2, hu => cases hu; simp [go_sem]
 refine (or_any [natC X.size Y.size, s, natC a.size b.size] _ 3 _ _ hq (by simp)).mono ?_
 rintro e w6 ⟨rfl, rfl⟩
 dsimp only
 repeat' (first | go_skip | go_guarded | go_step)
 go_ret
 exact ⟨by rw [hN.out]; rfl, (Below.refl _ _).alloc (Nat.le_refl _) _⟩
theorem ext_head (s : ByteArray) (n : Nat) : (s.extract 0 n).data.toList = s.data.toList.take n := by rw [ext_list2, List.drop_zero]
theorem ext_tail (s : ByteArray) (n : Nat) : (s.extract n s.size).data.toList = s.data.toList.drop n := by rw [ext_list2, List.take_of_length_le (by rw [list_size]; exact Nat.le_refl _)]
theorem toList_some {s : ByteArray} (h : 0 < s.size) : (s.toList == []) = false := by
 have hsz : s.data.toList.length = s.size := by simp
 have hne : ¬ (s.toList = []) := by
  rw [ByteArray.toList_eq]
  intro h2
  rw [h2] at hsz
  simp at hsz
  omega
 simpa using hne
theorem toList_none {s : ByteArray} (h : ¬ 0 < s.size) : (s.toList == []) = true := by
 have hsz : s.data.toList.length = s.size := by simp
 have : s.toList = [] := by
  rw [ByteArray.toList_eq]
  exact List.eq_nil_of_length_eq_zero (by omega)
 simp [this]
theorem compare_any (a b : ByteArray) (w : World) (ha : a.size ≤ 4611686018427387904) (hb : b.size ≤ 4611686018427387904) : Calls Tryz.prog 134 #[.string a, .string b] w fun e w' => e = .returned (.int .i64 (cmpN a.data.toList b.data.toList)) ∧ Below w.heap.size w w' := by
 go_enter Tryz.func134, Tryz.ntmps134
 repeat' (first | go_skip | go_guarded | go_step)
 go_loopw [0, 1] (fun u0 u1 wr => ∃ x y : ByteArray, x.size ≤ a.size ∧ y.size ≤ b.size ∧ u0 = .string x ∧ u1 = .string y ∧ Below w.heap.size w wr ∧ cmpN a.data.toList b.data.toList = cmpN x.data.toList y.data.toList) (fun u0 _ _ => slen u0)
 case atStart => exact ⟨a, b, by omega, by omega, rfl, rfl, Below.refl _ _, rfl⟩
 case round =>
  obtain ⟨x, y, hx, hy, rfl, rfl, hbw, hall⟩ := hrel
  obtain ⟨wx, hwx⟩ : ∃ wx : World, wx = wr := ⟨wr, rfl⟩
  subst hwx
  by_cases hlt : 0 < x.size ∧ 0 < y.size
  ·obtain ⟨hi1, hk1⟩ := hlt
   have hc := str_at hi1
   have hd := str_at hk1
   have x0 : (0 : Int) < (x.size : Int) := by omega
   have y0 : (0 : Int) < (y.size : Int) := by omega
   have nx := toList_some hi1
   have ny := toList_some hk1
   have CX := fun w' => runN_any x w' (by omega)
   have CY := fun w' => runN_any y w' (by omega)
   have sx := list_size x
   have sy := list_size y
   by_cases hdg : (isDg x[0].toNat && isDg y[0].toNat) = true
   ·obtain ⟨h1, h2⟩ := Bool.and_eq_true_iff.1 hdg
    have ra := digit_run hc h1
    have rb := digit_run hd h2
    have hN := hall
    have hN2 := cmp_at_num hc hd h1 h2
    simp only [List.drop_zero, Nat.zero_add] at ra rb hN2
    rw [hN2] at hN
    rw [sx] at ra
    rw [sy] at rb
    have CN := fun w' => numbers_any (x.extract 0 (runN x.data.toList)) (y.extract 0 (runN y.data.toList)) w'
    have e1 := ext_head x (runN x.data.toList)
    have e2 := ext_head y (runN y.data.toList)
    rw [e1, e2] at CN
    generalize runN x.data.toList = n at *
    generalize runN y.data.toList = m at *
    generalize numC (x.data.toList.take n) (y.data.toList.take m) = r at *
    clear hN2 e1 e2 hc hd hdg h1 h2 hall
    replace CX := Lib.hid CX
    replace CY := Lib.hid CY
    replace CN := Lib.hid CN
    replace hN := Lib.hid hN
    have n0 : (0 : Int) < (n : Int) := by omega
    have m0 : (0 : Int) < (m : Int) := by omega
    have n1 : (n : Int) ≤ (x.size : Int) := by omega
    have m1 : (m : Int) ≤ (y.size : Int) := by omega
    have n2 : (0 : Int) ≤ (n : Int) := by omega
    have m2 : (0 : Int) ≤ (m : Int) := by omega
    repeat' (first | go_skip | go_guarded | go_step)
    refine (CX.out _).mono ?_
    rintro e w1 ⟨rfl, rfl⟩
    dsimp only
    repeat' (first | go_skip | go_guarded | go_step)
    refine (CY.out _).mono ?_
    rintro e w2 ⟨rfl, rfl⟩
    dsimp only
    repeat' ((fail_if_success at_builtin); first | go_skip | go_guarded | go_step)
    go_region_held3 (fun w' => Below w2.heap.size w2 w')
     (first | exact (Below.refl _ _).drew | exact Below.refl _ _ | exact Below.trans (by assumption) (hbq.mono (Below.size (by assumption))))
     (first
      | (go_at_call 153; refine (CN.out _).mono ?_; rintro e w8 ⟨rfl, hbq⟩; dsimp only))
    have hbx := (by assumption : Below w2.heap.size w2 w8)
    have hbz := hbw.trans (hbx.mono hbw.size)
    clear hbx hbw
    by_cases hr : r = 0
    ·have hr2 : (r != 0) = false := by simp [hr]
     have hN' := hN.out
     rw [if_neg (Decidable.not_not.2 hr)] at hN'
     replace hN := Lib.hid hN'
     clear hN' hr
     repeat' ((fail_if_success at_builtin); first | go_skip | go_guarded | go_step)
     go_quiet (fail)
     have hbz2 := hbz.trans (Below.mono (Below.drewN w8 nq) hbz.size)
     generalize w8.drewN nq = wv at *
     repeat' (first | go_skip | go_guarded | go_step)
     go_roundw
     case rel => exact ⟨x.extract n x.size, y.extract m y.size, by simp [ByteArray.size_extract]; omega, by simp [ByteArray.size_extract]; omega, rfl, rfl, hbz2, by rw [ext_tail, ext_tail]; exact hN.out⟩
     case measure => simp [slen, ByteArray.size_extract]; omega
    ·have hr2 : (r != 0) = true := by simp [hr]
     have hN' := hN.out
     rw [if_pos hr] at hN'
     replace hN := Lib.hid hN'
     clear hN' hr
     repeat' (first | go_skip | go_guarded | go_step)
     go_ret
     exact ⟨by rw [hN.out]; rfl, hbz⟩
   ·have hdg' : (isDg x[0].toNat && isDg y[0].toNat) = false := by simpa using hdg
    have hN := hall
    have hN2 := cmp_at_byte hc hd hdg'
    simp only [List.drop_zero, Nat.zero_add] at hN2
    rw [hN2] at hN
    cases h1 : isDg x[0].toNat with
    | false =>
     have r1 := runN_at hc
     rw [if_neg (by simp [h1]), List.drop_zero] at r1
     rw [r1] at CX
     generalize runN y.data.toList = m at *
     clear hN2 hc hd hdg hdg' h1 hall r1
     replace CX := Lib.hid CX
     replace CY := Lib.hid CY
     have hN := hN
     repeat' (first | go_skip | go_guarded | go_step)
     refine (CX.out _).mono ?_
     rintro e w1 ⟨rfl, rfl⟩
     dsimp only
     repeat' (first | go_skip | go_guarded | go_step)
     refine (CY.out _).mono ?_
     rintro e w2 ⟨rfl, rfl⟩
     dsimp only
     repeat' ((fail_if_success at_builtin); first | go_skip | go_guarded | go_step)
     go_quiet (fail)
     have hbz := hbw.trans (Below.mono (Below.drewN w2 nq) hbw.size)
     generalize w2.drewN nq = wz at *
     clear hbw
     by_cases he : x[0].toNat = y[0].toNat
     ·have hr2 : ((x[0].toNat : Int) != (y[0].toNat : Int)) = false := by simp [he]
      rw [if_neg (Decidable.not_not.2 (natC_zero.2 he))] at hN
      replace hN := Lib.hid hN
      have x1 : (1 : Int) ≤ (x.size : Int) := by omega
      have y1 : (1 : Int) ≤ (y.size : Int) := by omega
      clear he
      repeat' ((fail_if_success at_builtin); first | go_skip | go_guarded | go_step)
      go_quiet (fail)
      have hbz2 := hbz.trans (Below.mono (Below.drewN wz nq) hbz.size)
      generalize wz.drewN nq = wv at *
      repeat' (first | go_skip | go_guarded | go_step)
      go_roundw
      case rel => exact ⟨x.extract 1 x.size, y.extract 1 y.size, by simp [ByteArray.size_extract]; omega, by simp [ByteArray.size_extract]; omega, rfl, rfl, hbz2, by rw [ext_tail, ext_tail]; exact hN.out⟩
      case measure => simp [slen, ByteArray.size_extract]; omega
     ·have hr2 : ((x[0].toNat : Int) != (y[0].toNat : Int)) = true := by simpa using (by omega : ¬ (x[0].toNat : Int) = (y[0].toNat : Int))
      rw [if_pos (fun h => he (natC_zero.1 h))] at hN
      replace hN := Lib.hid hN
      clear he
      repeat' ((fail_if_success at_builtin); first | go_skip | go_guarded | go_step)
      go_quiet (first | (go_at_call 154; exact Calls.quiet_of_same (cmpB_any _ _ _)))
      have hbz2 := hbz.trans (Below.mono (Below.drewN wz nq) hbz.size)
      generalize wz.drewN nq = wv at *
      repeat' (first | go_skip | go_guarded | go_step)
      go_ret
      exact ⟨by rw [hN.out]; rfl, hbz2⟩
    | true =>
     rw [h1, Bool.true_and] at hdg'
     have r1 := runN_at hd
     rw [if_neg (by simp [hdg']), List.drop_zero] at r1
     rw [r1] at CY
     have ra := (digit_run hc h1).1
     rw [List.drop_zero] at ra
     generalize runN x.data.toList = n at *
     have n0 : (0 : Int) < (n : Int) := by omega
     clear hN2 hc hd hdg hdg' h1 hall r1 ra
     replace CX := Lib.hid CX
     replace CY := Lib.hid CY
     repeat' (first | go_skip | go_guarded | go_step)
     refine (CX.out _).mono ?_
     rintro e w1 ⟨rfl, rfl⟩
     dsimp only
     repeat' (first | go_skip | go_guarded | go_step)
     refine (CY.out _).mono ?_
     rintro e w2 ⟨rfl, rfl⟩
     dsimp only
     repeat' ((fail_if_success at_builtin); first | go_skip | go_guarded | go_step)
     go_quiet (fail)
     have hbz := hbw.trans (Below.mono (Below.drewN w2 nq) hbw.size)
     generalize w2.drewN nq = wz at *
     clear hbw
     by_cases he : x[0].toNat = y[0].toNat
     ·have hr2 : ((x[0].toNat : Int) != (y[0].toNat : Int)) = false := by simp [he]
      rw [if_neg (Decidable.not_not.2 (natC_zero.2 he))] at hN
      replace hN := Lib.hid hN
      have x1 : (1 : Int) ≤ (x.size : Int) := by omega
      have y1 : (1 : Int) ≤ (y.size : Int) := by omega
      clear he
      repeat' ((fail_if_success at_builtin); first | go_skip | go_guarded | go_step)
      go_quiet (fail)
      have hbz2 := hbz.trans (Below.mono (Below.drewN wz nq) hbz.size)
      generalize wz.drewN nq = wv at *
      repeat' (first | go_skip | go_guarded | go_step)
      go_roundw
      case rel => exact ⟨x.extract 1 x.size, y.extract 1 y.size, by simp [ByteArray.size_extract]; omega, by simp [ByteArray.size_extract]; omega, rfl, rfl, hbz2, by rw [ext_tail, ext_tail]; exact hN.out⟩
      case measure => simp [slen, ByteArray.size_extract]; omega
     ·have hr2 : ((x[0].toNat : Int) != (y[0].toNat : Int)) = true := by simpa using (by omega : ¬ (x[0].toNat : Int) = (y[0].toNat : Int))
      rw [if_pos (fun h => he (natC_zero.1 h))] at hN
      replace hN := Lib.hid hN
      clear he
      repeat' ((fail_if_success at_builtin); first | go_skip | go_guarded | go_step)
      go_quiet (first | (go_at_call 154; exact Calls.quiet_of_same (cmpB_any _ _ _)))
      have hbz2 := hbz.trans (Below.mono (Below.drewN wz nq) hbz.size)
      generalize wz.drewN nq = wv at *
      repeat' (first | go_skip | go_guarded | go_step)
      go_ret
      exact ⟨by rw [hN.out]; rfl, hbz2⟩
  ·have hN := hall
   by_cases hi1 : 0 < x.size
   ·have ny := toList_none (s := y) (by omega)
    have nx := toList_some hi1
    have e2 : y.data.toList = [] := List.eq_nil_of_length_eq_zero (by have := list_size y; omega)
    have sy : y.size = 0 := by omega
    have e1 := drop_cons (str_at hi1)
    rw [List.drop_zero] at e1
    rw [e1, e2, cmpN_long] at hN
    have y0 : ((y.size : Nat) : Int) = 0 := by omega
    have x0 : (0 : Int) < (x.size : Int) := by omega
    have hr : Lib.compareInt (x.size : Int) 0 = 1 := by unfold Lib.compareInt; rw [if_neg (by omega), if_pos (by omega)]
    replace hN := Lib.hid hN
    clear e1 e2 hall hlt sy
    repeat' (first | go_skip | go_guarded | go_step)
    refine (Tryz.cmp_Compare_int _ _ _).mono ?_
    rintro e w1 ⟨rfl, rfl⟩
    simp only [hr]
    repeat' (first | go_skip | go_guarded | go_step)
    go_ret
    exact ⟨by rw [hN.out]; rfl, hbw⟩
   ·have nx := toList_none hi1
    have e1 : x.data.toList = [] := List.eq_nil_of_length_eq_zero (by have := list_size x; omega)
    have hr : Lib.compareInt (x.size : Int) (y.size : Int) = cmpN x.data.toList y.data.toList := by
     unfold Lib.compareInt
     rw [e1]
     by_cases hk1 : 0 < y.size
     ·have e2 := drop_cons (str_at hk1)
      rw [List.drop_zero] at e2
      rw [e2, cmpN_short, if_pos (by omega)]
     ·have e2 : y.data.toList = [] := List.eq_nil_of_length_eq_zero (by have := list_size y; omega)
      rw [e2, cmpN_nil, if_neg (by omega), if_neg (by omega)]
    rw [← hr] at hN
    replace hN := Lib.hid hN
    clear e1 hall hlt hr hi1
    repeat' (first | go_skip | go_guarded | go_step)
    refine (Tryz.cmp_Compare_int _ _ _).mono ?_
    rintro e w1 ⟨rfl, rfl⟩
    dsimp only
    repeat' (first | go_skip | go_guarded | go_step)
    go_ret
    exact ⟨by rw [hN.out]; rfl, hbw⟩
theorem ret_i6 {a b : Int} (h : a = b) : Ending.returned (.int .i64 a) = Ending.returned (.int .i64 b) := by rw [h]
def ownZ (f : Nat) (k : Int) (b : Bool) (i : Int) (s : ByteArray) (n n2 : Nat) (a : Bool) : Int :=
 if f = 0 then 13
 else if k < 0 ∨ 5 < k ∨ unusedZ k b i s n n2 = false then 1
 else if i < -9007199254740992 ∨ 9007199254740992 < i then 2
 else if 4096 < s.size ∨ 1024 < n ∨ 1024 < n2 then 3
 else if k = 5 ∧ (decide (n2 = n) && a) = false then 1
 else if (k = 4 ∨ k = 5) ∧ n = 0 ∧ f = 1 then 13
 else 0
def prevK (ks : List ByteArray) (i : Nat) : Option ByteArray := if i = 0 then none else ks[i - 1]?
theorem prevK_zero (ks : List ByteArray) : prevK ks 0 = none := rfl
theorem prevK_succ (ks : List ByteArray) (i : Nat) : prevK ks (i + 1) = ks[i]? := by unfold prevK; rw [if_neg (by omega)]; rfl
theorem ascK_cons (p : Option ByteArray) (k : ByteArray) (r : List ByteArray) : ascK p (k :: r) = (decide (1 ≤ k.size) && (decide (k.size ≤ 64) && ((match p with
 | none => true
 | some q => decide (cmpN q.data.toList k.data.toList < 0)) && ascK (some k) r))) := rfl
theorem seq_str {w : World} {B : Nat} {A : Option Addr} {n : Nat} {ks : List ByteArray} (h : SeqP w (fun b => b < B) 1 A n (ks.map Value.string)) (hn : 0 < n) : ∃ b o, A = some ⟨b, o, none⟩ ∧ b < B ∧ ∀ (j : Nat) (x : ByteArray), ks[j]? = some x → w.cell? ⟨b, o + j, none⟩ = some (.string x) := by
 obtain ⟨b, o, h1, h2, h3⟩ := h.2 hn
 exact ⟨b, o, h1, h2, fun j x hx => h3 j _ (by rw [List.getElem?_map, hx]; rfl)⟩
theorem keyed_any (k : Int) (b : Bool) (i : Int) (s : ByteArray) (A : Option Addr) (n c : Nat) (A2 : Option Addr) (n2 c2 : Nat) (ks : List ByteArray) (w : World) (hn2 : n2 = ks.length) (h10 : n2 ≤ 1024) (hs2 : SeqP w (fun b => b < w.heap.size) 1 A2 n2 (ks.map Value.string)) :
  Calls Tryz.prog 107 #[.agg #[.int .i64 k, .bool b, .int .i64 i, .string s, .slice A n c, .slice A2 n2 c2]] w fun e w' => e = .returned (.bool (decide (n2 = n) && ascK none ks)) ∧ Below w.heap.size w w' := by
 obtain ⟨fin, hfin⟩ : ∃ fin, fin = ascK none ks := ⟨_, rfl⟩
 rw [← hfin]
 replace hn2 := Lib.hid hn2
 replace hs2 := Lib.hid hs2
 by_cases hne : n2 = n
 ·subst hne
  rw [decide_eq_true rfl, Bool.true_and]
  go_enter Tryz.func107, Tryz.ntmps107
  go_upto_region 1 with (fail)
  generalize hx_ : World.alloc w _ = wo1
  have hO1 := own_new hx_
  clear hx_
  obtain ⟨c0_0, c0_1, c0_2, c0_3, c0_4, c0_5, cf0⟩ := own6 hO1
  repeat' (first | go_skip | go_guarded | go_step)
  go_loopw [15] (fun u15 wr => ∃ i' : Nat, i' ≤ n2 ∧ u15 = .int .i64 (i' : Int) ∧ OwnB w wr [(w.heap.size, [.int .i64 k, .bool b, .int .i64 i, .string s, .slice A n2 c, .slice A2 n2 c2])] ∧ fin = ascK (prevK ks i') (ks.drop i') ∧ ∀ p, prevK ks i' = some p → p.size ≤ 64) (fun u15 _ => n2 - (intOf u15).toNat)
  case atStart => exact ⟨0, by omega, rfl, hO1, hfin, fun p h => by rw [prevK_zero] at h; cases h⟩
  case round =>
   clear c0_0 c0_1 c0_2 c0_3 c0_4 c0_5 cf0 hO1 hfin
   obtain ⟨i', hi, rfl, hO2, hu, hp⟩ := hrel
   obtain ⟨c0_0, c0_1, c0_2, c0_3, c0_4, c0_5, cf0⟩ := own6 hO2
   have i1 : (0 : Int) ≤ (i' : Int) := by omega
   have i2 : IntKind.i64.wrap ((i' : Int) + 1) = ((i' + 1 : Nat) : Int) := by rw [IntWalk.i64_in _ (by omega)]; omega
   have hb4 := hO2.below
   by_cases hlt : i' < n2
   ·have i3 : (i' : Int) < (n2 : Int) := by omega
    obtain ⟨kk, hkk⟩ : ∃ kk, ks[i']? = some kk := ⟨_, List.getElem?_eq_getElem (by rw [← hn2.out]; exact hlt)⟩
    obtain ⟨bx, ox, rfl, hbx, hcl⟩ := seq_str hs2.out (by omega)
    have y0 : wr.cell? ⟨bx, ox + i', none⟩ = some (.string kk) := (hb4.cell (p := ⟨bx, ox + i', none⟩) hbx).trans (hcl i' kk hkk)
    have hd : ks.drop i' = kk :: ks.drop (i' + 1) := by
     obtain ⟨h1, h2⟩ := List.getElem?_eq_some_iff.1 hkk
     rw [List.drop_eq_getElem_cons h1, h2]
    rw [hd, ascK_cons] at hu
    have hpn : prevK ks (i' + 1) = some kk := by rw [prevK_succ]; exact hkk
    clear hd
    replace hpn := Lib.hid hpn
    by_cases h1 : 1 ≤ kk.size
    ·have g1 : ¬ (kk.size : Int) < 1 := by omega
     rw [decide_eq_true h1, Bool.true_and] at hu
     by_cases h6 : kk.size ≤ 64
     ·have g6 : ¬ (64 : Int) < (kk.size : Int) := by omega
      rw [decide_eq_true h6, Bool.true_and] at hu
      by_cases h0 : i' = 0
      ·have hpp : prevK ks i' = none := by rw [h0]; rfl
       rw [hpp] at hu
       have hj4 : ¬ (0 : Int) < (i' : Int) := by omega
       have hf : fin = ascK (some kk) (ks.drop (i' + 1)) := by rw [hu]; rfl
       replace hf := Lib.hid hf
       clear hu hp hcl hkk h0 hpp
       repeat' (first | go_skip | go_guarded | go_step)
       go_roundw
       case rel => exact ⟨i' + 1, by omega, by first | rfl | go_num, hO2, by rw [hpn.out]; exact hf.out, fun p h => by rw [hpn.out] at h; cases h; exact h6⟩
       case measure => (try go_num); (try simp [intOf]); (try omega)
      ·obtain ⟨j, hj⟩ : ∃ j, i' = j + 1 := ⟨i' - 1, by omega⟩
       have hj1 : IntKind.i64.wrap ((i' : Int) - 1) = (j : Int) := by rw [IntWalk.i64_in _ (by omega)]; omega
       have hj2 : (0 : Int) ≤ (j : Int) := by omega
       have hj3 : (j : Int) < (n2 : Int) := by omega
       have hj4 : (0 : Int) < (i' : Int) := by omega
       obtain ⟨pk, hpk⟩ : ∃ pk, ks[j]? = some pk := ⟨_, List.getElem?_eq_getElem (by rw [← hn2.out]; omega)⟩
       have y1 : wr.cell? ⟨bx, ox + j, none⟩ = some (.string pk) := (hb4.cell (p := ⟨bx, ox + j, none⟩) hbx).trans (hcl j pk hpk)
       have hpp : prevK ks i' = some pk := by rw [hj, prevK_succ]; exact hpk
       rw [hpp] at hu
       have hps := hp pk hpp
       have hf : fin = (decide (cmpN pk.data.toList kk.data.toList < 0) && ascK (some kk) (ks.drop (i' + 1))) := hu
       replace hf := Lib.hid hf
       replace hj := Lib.hid hj
       clear hu hp hcl hkk hpp hpk h0
       repeat' (first | go_skip | go_guarded | go_step)
       refine (compare_any pk kk _ (by omega) (by omega)).mono ?_
       rintro e w2 ⟨rfl, hb2⟩
       dsimp only
       have hO3 : OwnB w w2 [(w.heap.size, [.int .i64 k, .bool b, .int .i64 i, .string s, .slice A n2 c, .slice (some ⟨bx, ox, none⟩) n2 c2])] := hO2.kept hb2
       clear c0_0 c0_1 c0_2 c0_3 c0_4 c0_5 cf0 hO2
       obtain ⟨c0_0, c0_1, c0_2, c0_3, c0_4, c0_5, cf0⟩ := own6 hO3
       generalize hcc : cmpN pk.data.toList kk.data.toList = cc at *
       replace hcc := Lib.hid hcc
       by_cases hc : cc < 0
       ·have gc : ¬ (0 : Int) ≤ cc := by omega
        have hf2 : fin = ascK (some kk) (ks.drop (i' + 1)) := by rw [hf.out, decide_eq_true hc, Bool.true_and]
        replace hf2 := Lib.hid hf2
        clear hc
        repeat' (first | go_skip | go_guarded | go_step)
        go_roundw
        case rel => exact ⟨i' + 1, by omega, by first | rfl | go_num, hO3, by rw [hpn.out]; exact hf2.out, fun p h => by rw [hpn.out] at h; cases h; exact h6⟩
        case measure => (try go_num); (try simp [intOf]); (try omega)
       ·have gc : (0 : Int) ≤ cc := by omega
        have hf2 : fin = false := by rw [hf.out, decide_eq_false hc, Bool.false_and]
        have hbz := hO3.below
        replace hf2 := Lib.hid hf2
        clear hc
        repeat' (first | go_skip | go_guarded | go_step)
        go_ret
        exact ⟨ret_b (by rw [hf2.out]), hbz⟩
     ·have g6 : (64 : Int) < (kk.size : Int) := by omega
      rw [decide_eq_false h6, Bool.false_and] at hu
      have hf := Lib.hid hu
      clear hu hp hcl hkk h6
      repeat' (first | go_skip | go_guarded | go_step)
      go_ret
      exact ⟨ret_b (by rw [hf.out]), hb4⟩
    ·have g1 : (kk.size : Int) < 1 := by omega
     rw [decide_eq_false h1, Bool.false_and] at hu
     have hf := Lib.hid hu
     clear hu hp hcl hkk h1
     repeat' (first | go_skip | go_guarded | go_step)
     go_ret
     exact ⟨ret_b (by rw [hf.out]), hb4⟩
   ·obtain rfl : i' = n2 := by omega
    have i3 : ¬ (i' : Int) < (i' : Int) := by omega
    have hf : fin = true := by rw [hu, List.drop_of_length_le (by rw [← hn2.out]; exact Nat.le_refl _)]; cases prevK ks i' <;> rfl
    replace hf := Lib.hid hf
    clear hu hp
    repeat' (first | go_skip | go_guarded | go_step)
    go_ret
    exact ⟨ret_b (by rw [hf.out]), hb4⟩
 ·rw [decide_eq_false hne, Bool.false_and]
  have gn : ((n2 : Int) == (n : Int)) = false := by simp; omega
  clear hne hfin
  go_enter Tryz.func107, Tryz.ntmps107
  go_upto_region 1 with (fail)
  generalize hx_ : World.alloc w _ = wo1
  have hO1 := own_new hx_
  clear hx_
  obtain ⟨c0_0, c0_1, c0_2, c0_3, c0_4, c0_5, cf0⟩ := own6 hO1
  have hb := hO1.below
  repeat' (first | go_skip | go_guarded | go_step)
  go_ret
  exact ⟨rfl, hb⟩
theorem node_any (k : Int) (b : Bool) (i : Int) (s : ByteArray) (A : Option Addr) (n c : Nat) (A2 : Option Addr) (n2 c2 : Nat) (ks : List ByteArray) (lvl : Int) (w : World) (hn2 : n2 = ks.length) (hs2 : SeqP w (fun b => b < w.heap.size) 1 A2 n2 (ks.map Value.string)) :
  Calls Tryz.prog 61 #[.agg #[.int .i64 k, .bool b, .int .i64 i, .string s, .slice A n c, .slice A2 n2 c2], .int .i64 lvl] w fun e w' => e = .returned (.int .i64 (ownZ (17 - lvl).toNat k b i s n n2 (ascK none ks))) ∧ Below w.heap.size w w' := by
 obtain ⟨fin, hfin⟩ : ∃ fin, fin = ownZ (17 - lvl).toNat k b i s n n2 (ascK none ks) := ⟨_, rfl⟩
 rw [← hfin]
 have hu := hfin
 clear hfin
 unfold ownZ at hu
 replace hu := Lib.hid hu
 replace hn2 := Lib.hid hn2
 replace hs2 := Lib.hid hs2
 by_cases hk5 : k = 5
 ·subst hk5
  go_enter Tryz.func61, Tryz.ntmps61
  go_upto_region 1 with (fail)
  generalize hx_ : World.alloc w _ = wo1
  have hO1 := own_new hx_
  clear hx_
  obtain ⟨c0_0, c0_1, c0_2, c0_3, c0_4, c0_5, cf0⟩ := own6 hO1
  by_cases hl : (16 : Int) < lvl
  ·have hf : fin = 13 := by rw [hu.out, if_pos (by omega)]
   replace hf := Lib.hid hf
   clear hu
   have hb := hO1.below
   repeat' (first | go_skip | go_guarded | go_step)
   go_ret
   exact ⟨ret_i6 hf.out.symm, hb⟩
  repeat' (first | go_skip | go_guarded | go_step)
  refine (unused_any 5 b i s A n c A2 n2 c2 _).mono ?_
  rintro e w2 ⟨rfl, hb2⟩
  dsimp only
  have hO2 : OwnB w w2 [(w.heap.size, [.int .i64 5, .bool b, .int .i64 i, .string s, .slice A n c, .slice A2 n2 c2])] := hO1.kept hb2
  clear c0_0 c0_1 c0_2 c0_3 c0_4 c0_5 cf0 hO1
  obtain ⟨c0_0, c0_1, c0_2, c0_3, c0_4, c0_5, cf0⟩ := own6 hO2
  generalize hun : unusedZ 5 b i s n n2 = un at *
  replace hun := Lib.hid hun
  cases un with
  | false =>
   have hf : fin = 1 := by rw [hu.out, if_neg (by omega), if_pos (by right; right; rfl)]
   replace hf := Lib.hid hf
   clear hu
   have hb := hO2.below
   repeat' (first | go_skip | go_guarded | go_step)
   go_ret
   exact ⟨ret_i6 hf.out.symm, hb⟩
  | true =>
   by_cases h1 : i < -9007199254740992
   ·have hf : fin = 2 := by rw [hu.out, if_neg (by omega), if_neg (by simp), if_pos (by omega)]
    replace hf := Lib.hid hf
    clear hu
    have hb := hO2.below
    repeat' (first | go_skip | go_guarded | go_step)
    go_ret
    exact ⟨ret_i6 hf.out.symm, hb⟩
   by_cases h2 : 9007199254740992 < i
   ·have hf : fin = 2 := by rw [hu.out, if_neg (by omega), if_neg (by simp), if_pos (by omega)]
    replace hf := Lib.hid hf
    clear hu
    have hb := hO2.below
    repeat' (first | go_skip | go_guarded | go_step)
    go_ret
    exact ⟨ret_i6 hf.out.symm, hb⟩
   by_cases h3 : 4096 < s.size
   ·have g3 : (4096 : Int) < (s.size : Int) := by omega
    have hf : fin = 3 := by rw [hu.out, if_neg (by omega), if_neg (by simp), if_neg (by omega), if_pos (by omega)]
    replace hf := Lib.hid hf
    clear hu
    have hb := hO2.below
    repeat' (first | go_skip | go_guarded | go_step)
    go_ret
    exact ⟨ret_i6 hf.out.symm, hb⟩
   have g3 : ¬ (4096 : Int) < (s.size : Int) := by omega
   by_cases h4 : 1024 < n
   ·have g4 : (1024 : Int) < (n : Int) := by omega
    have hf : fin = 3 := by rw [hu.out, if_neg (by omega), if_neg (by simp), if_neg (by omega), if_pos (by omega)]
    replace hf := Lib.hid hf
    clear hu
    have hb := hO2.below
    repeat' (first | go_skip | go_guarded | go_step)
    go_ret
    exact ⟨ret_i6 hf.out.symm, hb⟩
   have g4 : ¬ (1024 : Int) < (n : Int) := by omega
   by_cases h5 : 1024 < n2
   ·have g5 : (1024 : Int) < (n2 : Int) := by omega
    have hf : fin = 3 := by rw [hu.out, if_neg (by omega), if_neg (by simp), if_neg (by omega), if_pos (by omega)]
    replace hf := Lib.hid hf
    clear hu
    have hb := hO2.below
    repeat' (first | go_skip | go_guarded | go_step)
    go_ret
    exact ⟨ret_i6 hf.out.symm, hb⟩
   have g5 : ¬ (1024 : Int) < (n2 : Int) := by omega
   have hs3 : SeqP w2 (fun b => b < w2.heap.size) 1 A2 n2 (ks.map Value.string) := hs2.out.map (fun _ hp => hO2.below.cell hp) (fun _ hp => Nat.lt_of_lt_of_le hp hO2.below.size)
   replace hs3 := Lib.hid hs3
   repeat' (first | go_skip | go_guarded | go_step)
   refine (keyed_any 5 b i s A n c A2 n2 c2 ks _ hn2.out (by omega) hs3.out).mono ?_
   rintro e w3 ⟨rfl, hb3⟩
   dsimp only
   have hO3 : OwnB w w3 [(w.heap.size, [.int .i64 5, .bool b, .int .i64 i, .string s, .slice A n c, .slice A2 n2 c2])] := hO2.kept hb3
   clear c0_0 c0_1 c0_2 c0_3 c0_4 c0_5 cf0 hO2
   obtain ⟨c0_0, c0_1, c0_2, c0_3, c0_4, c0_5, cf0⟩ := own6 hO3
   generalize hky : (decide (n2 = n) && ascK none ks) = ky at *
   replace hky := Lib.hid hky
   cases ky with
   | false =>
    have hf : fin = 1 := by rw [hu.out, if_neg (by omega), if_neg (by simp), if_neg (by omega), if_neg (by omega), if_pos ⟨rfl, rfl⟩]
    replace hf := Lib.hid hf
    clear hu
    have hb := hO3.below
    repeat' (first | go_skip | go_guarded | go_step)
    go_ret
    exact ⟨ret_i6 hf.out.symm, hb⟩
   | true =>
    by_cases h0 : n = 0
    ·subst h0
     by_cases hl2 : lvl = 16
     ·subst hl2
      have hf : fin = 13 := by rw [hu.out, if_neg (by omega), if_neg (by simp), if_neg (by omega), if_neg (by omega), if_neg (by simp), if_pos (by omega)]
      replace hf := Lib.hid hf
      clear hu
      have hb := hO3.below
      repeat' (first | go_skip | go_guarded | go_step)
      go_ret
      exact ⟨ret_i6 hf.out.symm, hb⟩
     ·have gl : (lvl == 16) = false := by simpa using hl2
      have hf : fin = 0 := by rw [hu.out, if_neg (by omega), if_neg (by simp), if_neg (by omega), if_neg (by omega), if_neg (by simp), if_neg (by omega)]
      replace hf := Lib.hid hf
      clear hu
      have hb := hO3.below
      repeat' (first | go_skip | go_guarded | go_step)
      go_ret
      exact ⟨ret_i6 hf.out.symm, hb⟩
    ·have g0 : ((n : Int) == 0) = false := by simp; omega
     have hf : fin = 0 := by rw [hu.out, if_neg (by omega), if_neg (by simp), if_neg (by omega), if_neg (by omega), if_neg (by simp), if_neg (by omega)]
     replace hf := Lib.hid hf
     clear hu
     have hb := hO3.below
     repeat' (first | go_skip | go_guarded | go_step)
     go_ret
     exact ⟨ret_i6 hf.out.symm, hb⟩
 by_cases hk4 : k = 4
 ·subst hk4
  go_enter Tryz.func61, Tryz.ntmps61
  go_upto_region 1 with (fail)
  generalize hx_ : World.alloc w _ = wo1
  have hO1 := own_new hx_
  clear hx_
  obtain ⟨c0_0, c0_1, c0_2, c0_3, c0_4, c0_5, cf0⟩ := own6 hO1
  by_cases hl : (16 : Int) < lvl
  ·have hf : fin = 13 := by rw [hu.out, if_pos (by omega)]
   replace hf := Lib.hid hf
   clear hu
   have hb := hO1.below
   repeat' (first | go_skip | go_guarded | go_step)
   go_ret
   exact ⟨ret_i6 hf.out.symm, hb⟩
  repeat' (first | go_skip | go_guarded | go_step)
  refine (unused_any 4 b i s A n c A2 n2 c2 _).mono ?_
  rintro e w2 ⟨rfl, hb2⟩
  dsimp only
  have hO2 : OwnB w w2 [(w.heap.size, [.int .i64 4, .bool b, .int .i64 i, .string s, .slice A n c, .slice A2 n2 c2])] := hO1.kept hb2
  clear c0_0 c0_1 c0_2 c0_3 c0_4 c0_5 cf0 hO1
  obtain ⟨c0_0, c0_1, c0_2, c0_3, c0_4, c0_5, cf0⟩ := own6 hO2
  generalize hun : unusedZ 4 b i s n n2 = un at *
  replace hun := Lib.hid hun
  cases un with
  | false =>
   have hf : fin = 1 := by rw [hu.out, if_neg (by omega), if_pos (by right; right; rfl)]
   replace hf := Lib.hid hf
   clear hu
   have hb := hO2.below
   repeat' (first | go_skip | go_guarded | go_step)
   go_ret
   exact ⟨ret_i6 hf.out.symm, hb⟩
  | true =>
   by_cases h1 : i < -9007199254740992
   ·have hf : fin = 2 := by rw [hu.out, if_neg (by omega), if_neg (by simp), if_pos (by omega)]
    replace hf := Lib.hid hf
    clear hu
    have hb := hO2.below
    repeat' (first | go_skip | go_guarded | go_step)
    go_ret
    exact ⟨ret_i6 hf.out.symm, hb⟩
   by_cases h2 : 9007199254740992 < i
   ·have hf : fin = 2 := by rw [hu.out, if_neg (by omega), if_neg (by simp), if_pos (by omega)]
    replace hf := Lib.hid hf
    clear hu
    have hb := hO2.below
    repeat' (first | go_skip | go_guarded | go_step)
    go_ret
    exact ⟨ret_i6 hf.out.symm, hb⟩
   by_cases h3 : 4096 < s.size
   ·have g3 : (4096 : Int) < (s.size : Int) := by omega
    have hf : fin = 3 := by rw [hu.out, if_neg (by omega), if_neg (by simp), if_neg (by omega), if_pos (by omega)]
    replace hf := Lib.hid hf
    clear hu
    have hb := hO2.below
    repeat' (first | go_skip | go_guarded | go_step)
    go_ret
    exact ⟨ret_i6 hf.out.symm, hb⟩
   have g3 : ¬ (4096 : Int) < (s.size : Int) := by omega
   by_cases h4 : 1024 < n
   ·have g4 : (1024 : Int) < (n : Int) := by omega
    have hf : fin = 3 := by rw [hu.out, if_neg (by omega), if_neg (by simp), if_neg (by omega), if_pos (by omega)]
    replace hf := Lib.hid hf
    clear hu
    have hb := hO2.below
    repeat' (first | go_skip | go_guarded | go_step)
    go_ret
    exact ⟨ret_i6 hf.out.symm, hb⟩
   have g4 : ¬ (1024 : Int) < (n : Int) := by omega
   by_cases h5 : 1024 < n2
   ·have g5 : (1024 : Int) < (n2 : Int) := by omega
    have hf : fin = 3 := by rw [hu.out, if_neg (by omega), if_neg (by simp), if_neg (by omega), if_pos (by omega)]
    replace hf := Lib.hid hf
    clear hu
    have hb := hO2.below
    repeat' (first | go_skip | go_guarded | go_step)
    go_ret
    exact ⟨ret_i6 hf.out.symm, hb⟩
   have g5 : ¬ (1024 : Int) < (n2 : Int) := by omega
   by_cases h0 : n = 0
   ·subst h0
    by_cases hl2 : lvl = 16
    ·subst hl2
     have hf : fin = 13 := by rw [hu.out, if_neg (by omega), if_neg (by simp), if_neg (by omega), if_neg (by omega), if_neg (by omega), if_pos (by omega)]
     replace hf := Lib.hid hf
     clear hu
     have hb := hO2.below
     repeat' (first | go_skip | go_guarded | go_step)
     go_ret
     exact ⟨ret_i6 hf.out.symm, hb⟩
    ·have gl : (lvl == 16) = false := by simpa using hl2
     have hf : fin = 0 := by rw [hu.out, if_neg (by omega), if_neg (by simp), if_neg (by omega), if_neg (by omega), if_neg (by omega), if_neg (by omega)]
     replace hf := Lib.hid hf
     clear hu
     have hb := hO2.below
     repeat' (first | go_skip | go_guarded | go_step)
     go_ret
     exact ⟨ret_i6 hf.out.symm, hb⟩
   ·have g0 : ((n : Int) == 0) = false := by simp; omega
    have hf : fin = 0 := by rw [hu.out, if_neg (by omega), if_neg (by simp), if_neg (by omega), if_neg (by omega), if_neg (by omega), if_neg (by omega)]
    replace hf := Lib.hid hf
    clear hu
    have hb := hO2.below
    repeat' (first | go_skip | go_guarded | go_step)
    go_ret
    exact ⟨ret_i6 hf.out.symm, hb⟩
 have e4 : (k == 4) = false := by simpa using hk4
 have e5 : (k == 5) = false := by simpa using hk5
 go_enter Tryz.func61, Tryz.ntmps61
 go_upto_region 1 with (fail)
 generalize hx_ : World.alloc w _ = wo1
 have hO1 := own_new hx_
 clear hx_
 obtain ⟨c0_0, c0_1, c0_2, c0_3, c0_4, c0_5, cf0⟩ := own6 hO1
 by_cases hl : (16 : Int) < lvl
 ·have hf : fin = 13 := by rw [hu.out, if_pos (by omega)]
  replace hf := Lib.hid hf
  clear hu
  have hb := hO1.below
  repeat' (first | go_skip | go_guarded | go_step)
  go_ret
  exact ⟨ret_i6 hf.out.symm, hb⟩
 by_cases hk0 : k < 0
 ·have hf : fin = 1 := by rw [hu.out, if_neg (by omega), if_pos (by omega)]
  replace hf := Lib.hid hf
  clear hu
  have hb := hO1.below
  repeat' (first | go_skip | go_guarded | go_step)
  go_ret
  exact ⟨ret_i6 hf.out.symm, hb⟩
 by_cases hk6 : 5 < k
 ·have hf : fin = 1 := by rw [hu.out, if_neg (by omega), if_pos (by omega)]
  replace hf := Lib.hid hf
  clear hu
  have hb := hO1.below
  repeat' (first | go_skip | go_guarded | go_step)
  go_ret
  exact ⟨ret_i6 hf.out.symm, hb⟩
 repeat' (first | go_skip | go_guarded | go_step)
 refine (unused_any k b i s A n c A2 n2 c2 _).mono ?_
 rintro e w2 ⟨rfl, hb2⟩
 dsimp only
 have hO2 : OwnB w w2 [(w.heap.size, [.int .i64 k, .bool b, .int .i64 i, .string s, .slice A n c, .slice A2 n2 c2])] := hO1.kept hb2
 clear c0_0 c0_1 c0_2 c0_3 c0_4 c0_5 cf0 hO1
 obtain ⟨c0_0, c0_1, c0_2, c0_3, c0_4, c0_5, cf0⟩ := own6 hO2
 generalize hun : unusedZ k b i s n n2 = un at *
 replace hun := Lib.hid hun
 cases un with
 | false =>
  have hf : fin = 1 := by rw [hu.out, if_neg (by omega), if_pos (by right; right; rfl)]
  replace hf := Lib.hid hf
  clear hu
  have hb := hO2.below
  repeat' (first | go_skip | go_guarded | go_step)
  go_ret
  exact ⟨ret_i6 hf.out.symm, hb⟩
 | true =>
  by_cases h1 : i < -9007199254740992
  ·have hf : fin = 2 := by rw [hu.out, if_neg (by omega), if_neg (by simp; omega), if_pos (by omega)]
   replace hf := Lib.hid hf
   clear hu
   have hb := hO2.below
   repeat' (first | go_skip | go_guarded | go_step)
   go_ret
   exact ⟨ret_i6 hf.out.symm, hb⟩
  by_cases h2 : 9007199254740992 < i
  ·have hf : fin = 2 := by rw [hu.out, if_neg (by omega), if_neg (by simp; omega), if_pos (by omega)]
   replace hf := Lib.hid hf
   clear hu
   have hb := hO2.below
   repeat' (first | go_skip | go_guarded | go_step)
   go_ret
   exact ⟨ret_i6 hf.out.symm, hb⟩
  by_cases h3 : 4096 < s.size
  ·have g3 : (4096 : Int) < (s.size : Int) := by omega
   have hf : fin = 3 := by rw [hu.out, if_neg (by omega), if_neg (by simp; omega), if_neg (by omega), if_pos (by omega)]
   replace hf := Lib.hid hf
   clear hu
   have hb := hO2.below
   repeat' (first | go_skip | go_guarded | go_step)
   go_ret
   exact ⟨ret_i6 hf.out.symm, hb⟩
  have g3 : ¬ (4096 : Int) < (s.size : Int) := by omega
  by_cases h4 : 1024 < n
  ·have g4 : (1024 : Int) < (n : Int) := by omega
   have hf : fin = 3 := by rw [hu.out, if_neg (by omega), if_neg (by simp; omega), if_neg (by omega), if_pos (by omega)]
   replace hf := Lib.hid hf
   clear hu
   have hb := hO2.below
   repeat' (first | go_skip | go_guarded | go_step)
   go_ret
   exact ⟨ret_i6 hf.out.symm, hb⟩
  have g4 : ¬ (1024 : Int) < (n : Int) := by omega
  by_cases h5 : 1024 < n2
  ·have g5 : (1024 : Int) < (n2 : Int) := by omega
   have hf : fin = 3 := by rw [hu.out, if_neg (by omega), if_neg (by simp; omega), if_neg (by omega), if_pos (by omega)]
   replace hf := Lib.hid hf
   clear hu
   have hb := hO2.below
   repeat' (first | go_skip | go_guarded | go_step)
   go_ret
   exact ⟨ret_i6 hf.out.symm, hb⟩
  have g5 : ¬ (1024 : Int) < (n2 : Int) := by omega
  have hf : fin = 0 := by rw [hu.out, if_neg (by omega), if_neg (by simp; omega), if_neg (by omega), if_neg (by omega), if_neg (by omega), if_neg (by omega)]
  replace hf := Lib.hid hf
  clear hu
  have hb := hO2.below
  repeat' (first | go_skip | go_guarded | go_step)
  go_ret
  exact ⟨ret_i6 hf.out.symm, hb⟩
end Go.Proofs.YtgdapkglofchjaaGreatDoor
