/- Joined: CmpR. -/
import Derived.BigRegion
import Derived.Test.YtgdapkglofchjaaGreatDoorF11
set_option maxRecDepth 100000
set_option maxHeartbeats 4000000
set_option linter.unusedVariables false
namespace Go.Proofs.YtgdapkglofchjaaGreatDoor
open Go.RowKit
def ordB (lt gt : Bool) : Int := if lt then -1 else if gt then 1 else 0
abbrev strS (l : List UInt8) : ByteArray := ⟨l.toArray⟩
theorem strS_data (s : ByteArray) : strS s.data.toList = s := by cases s; rfl
theorem strS_size (l : List UInt8) : (strS l).size = l.length := by simp [ByteArray.size]
theorem ext_list2 (s : ByteArray) (a b : Nat) : (s.extract a b).data.toList = (s.data.toList.take b).drop a := by
 rw [ByteArray.data_extract, Array.toList_extract, List.extract_eq_take_drop, List.drop_take]
theorem ext_strS (s : ByteArray) (a b : Nat) : s.extract a b = strS ((s.data.toList.take b).drop a) := by rw [← ext_list2, strS_data]
theorem runN_at {l : List UInt8} {i : Nat} {c : UInt8} (h : l[i]? = some c) : runN (l.drop i) = if isDg c.toNat then runN (l.drop (i + 1)) + 1 else 0 := by
 obtain ⟨hk, he⟩ := List.getElem?_eq_some_iff.1 h
 rw [List.drop_eq_getElem_cons hk, he]; rfl
theorem runN_end {l : List UInt8} {i : Nat} (h : l.length ≤ i) : runN (l.drop i) = 0 := by
 rw [List.drop_of_length_le h]; rfl
theorem strip_at {l : List UInt8} {i : Nat} {c : UInt8} (h : l[i]? = some c) : stripL (l.drop i) = if c.toNat = 48 then stripL (l.drop (i + 1)) else l.drop i := by
 obtain ⟨hk, he⟩ := List.getElem?_eq_some_iff.1 h
 unfold stripL Lib.trimLeftB
 by_cases hc : c.toNat = 48
 ·have : c = 48 := UInt8.toNat_inj.1 hc
  rw [if_pos hc, List.drop_eq_getElem_cons hk, he, this]; rfl
 ·have : ¬ ((c == 48) = true) := fun e => hc (by rw [eq_of_beq e]; rfl)
  rw [if_neg hc, List.drop_eq_getElem_cons hk, he, List.dropWhile_cons_of_neg (p := fun x => x == 48) this]
theorem strip_end {l : List UInt8} {i : Nat} (h : l.length ≤ i) : stripL (l.drop i) = [] := by
 rw [List.drop_of_length_le h]; rfl
theorem order_any (a b : Bool) (w : World) : Calls Tryz.prog 148 #[.bool a, .bool b] w fun e w' => e = .returned (.int .i64 (ordB a b)) ∧ w' = w := by
 cases a <;> cases b
 all_goals
  go_enter Tryz.func148, Tryz.ntmps148
  repeat' (first | go_skip | go_guarded | go_step)
  go_ret
  exact ⟨rfl, rfl⟩
theorem refDigit_any (c : UInt8) (w : World) : Calls Tryz.prog 149 #[.int .u8 (c.toNat : Int)] w fun e w' => e = .returned (.bool (isDg c.toNat)) ∧ w' = w := by
 go_enter Tryz.func149, Tryz.ntmps149
 repeat' ((fail_if_success at_builtin); first | go_skip | go_guarded | go_step)
 all_goals go_ret
 all_goals refine ⟨ret_b ?_, rfl⟩
 all_goals rw [Bool.eq_iff_iff]
 all_goals simp [isDg]
 all_goals omega
theorem refRunN_any (s : ByteArray) (k : Nat) (w : World) (hk : k ≤ s.size) (hm : s.size ≤ 9223372036854775807) : Calls Tryz.prog 150 #[.string s, .int .i64 (k : Int)] w fun e w' => e = .returned (.int .i64 ((k + runN (s.data.toList.drop k) : Nat) : Int)) ∧ w' = w := by
 have hsz : s.data.toList.length = s.size := by simp
 go_enter Tryz.func150, Tryz.ntmps150
 repeat' (first | go_skip | go_guarded | go_step)
 go_loopw [1] (fun u1 wr => ∃ i : Nat, i ≤ s.size ∧ u1 = .int .i64 (i : Int) ∧ wr = w ∧ k + runN (s.data.toList.drop k) = i + runN (s.data.toList.drop i)) (fun u1 _ => s.size - (intOf u1).toNat)
 case atStart => exact ⟨k, hk, rfl, rfl, rfl⟩
 case round =>
  obtain ⟨i, hi, rfl, rfl, hall⟩ := hrel
  by_cases hlt : i < s.size
  ·have hci := str_at hlt
   rw [runN_at hci] at hall
   have i0 : (0 : Int) ≤ (i : Int) := by omega
   have i1 : (i : Int) < (s.size : Int) := by omega
   clear hci hk
   replace hall := Lib.hid hall
   repeat' (first | go_skip | go_guarded | go_step)
   refine (refDigit_any _ _).mono ?_
   rintro e w' ⟨rfl, rfl⟩
   dsimp only
   cases hv : isDg s[i].toNat with
   | true =>
    repeat' (first | go_skip | go_guarded | go_step)
    go_roundw
    case rel =>
     have h := hall.out
     rw [hv, if_pos rfl] at h
     exact ⟨i + 1, by omega, by go_num, trivial, by omega⟩
    case measure => simp [intOf]; omega
   | false =>
    repeat' (first | go_skip | go_guarded | go_step)
    go_ret
    have h := hall.out
    rw [hv, if_neg (by simp)] at h
    exact ⟨by rw [h]; rfl, rfl⟩
  ·have h := hall
   rw [runN_end (by omega : s.data.toList.length ≤ i)] at h
   have i1 : ¬ ((i : Int) < (s.size : Int)) := by omega
   replace h := Lib.hid h
   clear hall
   repeat' (first | go_skip | go_guarded | go_step)
   go_ret
   exact ⟨by rw [h.out]; rfl, rfl⟩
theorem refStrip_any (s : ByteArray) (w : World) (hm : s.size ≤ 9223372036854775807) : Calls Tryz.prog 156 #[.string s] w fun e w' => e = .returned (.string (strS (stripL s.data.toList))) ∧ w' = w := by
 have hsz : s.data.toList.length = s.size := by simp
 go_enter Tryz.func156, Tryz.ntmps156
 repeat' (first | go_skip | go_guarded | go_step)
 go_loopw [3] (fun u3 wr => ∃ i : Nat, i ≤ s.size ∧ u3 = .int .i64 (i : Int) ∧ wr = w ∧ stripL s.data.toList = stripL (s.data.toList.drop i)) (fun u3 _ => s.size - (intOf u3).toNat)
 case atStart => exact ⟨0, by omega, rfl, rfl, rfl⟩
 case round =>
  obtain ⟨i, hi, rfl, rfl, hall⟩ := hrel
  have hx : s.extract i s.size = strS (s.data.toList.drop i) := by rw [ext_strS, List.take_of_length_le (by omega)]
  replace hx := Lib.hid hx
  by_cases hlt : i < s.size
  ·have hci := str_at hlt
   rw [strip_at hci] at hall
   have i0 : (0 : Int) ≤ (i : Int) := by omega
   have i1 : (i : Int) < (s.size : Int) := by omega
   clear hci
   replace hall := Lib.hid hall
   by_cases hc : s[i].toNat = 48
   ·have q0 : ((s[i].toNat : Nat) : Int) = 48 := by omega
    repeat' (first | go_skip | go_guarded | go_step)
    go_roundw
    case rel =>
     have h := hall.out
     rw [if_pos hc] at h
     exact ⟨i + 1, by omega, by go_num, trivial, h⟩
    case measure => simp [intOf]; omega
   ·have q0 : ¬ ((s[i].toNat : Int) = 48) := by omega
    have q1 : ((s[i].toNat : Int) == 48) = false := by simpa using q0
    repeat' (first | go_skip | go_guarded | go_step)
    go_ret
    have h := hall.out
    rw [if_neg hc] at h
    exact ⟨by rw [hx.out, h]; rfl, rfl⟩
  ·have h := hall
   rw [strip_end (by omega : s.data.toList.length ≤ i)] at h
   have h2 : s.data.toList.drop i = [] := List.drop_of_length_le (by omega)
   have i1 : ¬ ((i : Int) < (s.size : Int)) := by omega
   replace h := Lib.hid h
   replace h2 := Lib.hid h2
   clear hall
   repeat' (first | go_skip | go_guarded | go_step)
   go_ret
   exact ⟨by rw [hx.out, h.out, h2.out]; rfl, rfl⟩
theorem list_size (s : ByteArray) : s.data.toList.length = s.size := by simp
theorem strS_toList (l : List UInt8) : (strS l).toList = l := by rw [ByteArray.toList_eq]
theorem ordB_nat (a b : Nat) : ordB (decide (a < b)) (decide (b < a)) = natC a b := by
 unfold ordB natC
 simp only [decide_eq_true_eq]
theorem strip_le (l : List UInt8) : (stripL l).length ≤ l.length := (List.dropWhile_sublist _).length_le
theorem refRuns_any (a b : ByteArray) (w : World) (ha : a.size ≤ 9223372036854775807) (hb : b.size ≤ 9223372036854775807) : Calls Tryz.prog 151 #[.string a, .string b] w fun e w' => e = .returned (.int .i64 (numC a.data.toList b.data.toList)) ∧ w' = w := by
 have ea : (strS (stripL a.data.toList)).size = (stripL a.data.toList).length := strS_size _
 have eb : (strS (stripL b.data.toList)).size = (stripL b.data.toList).length := strS_size _
 have ta := strS_toList (stripL a.data.toList)
 have tb := strS_toList (stripL b.data.toList)
 have la := list_size a
 have lb := list_size b
 have sa := strip_le a.data.toList
 have sb := strip_le b.data.toList
 have hN : numC a.data.toList b.data.toList = numC a.data.toList b.data.toList := rfl
 conv at hN => rhs; unfold numC
 rw [la, lb] at hN
 rw [la] at sa
 rw [lb] at sb
 have CA := fun w' => refStrip_any a w' ha
 have CB := fun w' => refStrip_any b w' hb
 generalize stripL a.data.toList = x at *
 generalize stripL b.data.toList = y at *
 generalize numC a.data.toList b.data.toList = r at *
 generalize strS x = X at *
 generalize strS y = Y at *
 rw [← ea, ← eb] at hN
 rw [← ta, ← tb] at hN
 replace hN := Lib.hid hN
 replace CA := Lib.hid CA
 replace CB := Lib.hid CB
 clear la lb
 go_enter Tryz.func151, Tryz.ntmps151
 repeat' (first | go_skip | go_guarded | go_step)
 refine (CA.out _).mono ?_
 rintro e w1 ⟨rfl, rfl⟩
 dsimp only
 repeat' (first | go_skip | go_guarded | go_step)
 refine (CB.out _).mono ?_
 rintro e w2 ⟨rfl, rfl⟩
 dsimp only
 clear CA CB ta tb ea eb sa sb
 have tri : ∀ m n : Nat, m < n ∨ n < m ∨ m = n := fun m n => by omega
 rcases tri X.size Y.size with h | h | h
 ·have h1 : (X.size : Int) < (Y.size : Int) := by omega
  have h2 : ¬ ((Y.size : Int) < (X.size : Int)) := by omega
  have h3 : ((X.size : Int) == (Y.size : Int)) = false := by simpa using (by omega : ¬ (X.size : Int) = Y.size)
  have hN' := hN.out
  rw [if_pos (by omega)] at hN'
  unfold natC at hN'
  rw [if_pos h] at hN'
  replace hN := Lib.hid hN'
  clear hN' tri h
  repeat' (first | go_skip | go_guarded | go_step)
  refine (order_any _ _ _).mono ?_
  rintro e w3 ⟨rfl, rfl⟩
  dsimp only
  repeat' (first | go_skip | go_guarded | go_step)
  go_ret
  exact ⟨by rw [hN.out]; rfl, rfl⟩
 ·have h1 : (Y.size : Int) < (X.size : Int) := by omega
  have h2 : ¬ ((X.size : Int) < (Y.size : Int)) := by omega
  have h3 : ((X.size : Int) == (Y.size : Int)) = false := by simpa using (by omega : ¬ (X.size : Int) = Y.size)
  have hN' := hN.out
  rw [if_pos (by omega)] at hN'
  unfold natC at hN'
  rw [if_neg (by omega), if_pos h] at hN'
  replace hN := Lib.hid hN'
  clear hN' tri h
  repeat' (first | go_skip | go_guarded | go_step)
  refine (order_any _ _ _).mono ?_
  rintro e w3 ⟨rfl, rfl⟩
  dsimp only
  repeat' (first | go_skip | go_guarded | go_step)
  go_ret
  exact ⟨by rw [hN.out]; rfl, rfl⟩
 ·have h3 : ((X.size : Int) == (Y.size : Int)) = true := by simpa using (by omega : (X.size : Int) = Y.size)
  have hN' := hN.out
  rw [if_neg (by omega)] at hN'
  by_cases he : X.toList = Y.toList
  ·have h4 : (X.toList == Y.toList) = true := by simpa using he
   rw [if_neg (by simp [he])] at hN'
   replace hN := Lib.hid hN'
   clear hN' tri h he
   repeat' (first | go_skip | go_guarded | go_step)
   refine (order_any _ _ _).mono ?_
   rintro e w3 ⟨rfl, rfl⟩
   dsimp only
   repeat' (first | go_skip | go_guarded | go_step)
   go_ret
   refine ⟨?_, rfl⟩
   rw [hN.out, ← ordB_nat]
   rfl
  ·have h4 : (X.toList == Y.toList) = false := by simpa using he
   rw [if_pos he] at hN'
   replace hN := Lib.hid hN'
   clear hN' tri h he
   cases hb : Go.Op.bytesLess X.toList Y.toList with
   | true =>
    repeat' (first | go_skip | go_guarded | go_step)
    refine (order_any _ _ _).mono ?_
    rintro e w3 ⟨rfl, rfl⟩
    dsimp only
    repeat' (first | go_skip | go_guarded | go_step)
    go_ret
    exact ⟨by rw [hN.out, if_pos hb]; rfl, rfl⟩
   | false =>
    repeat' (first | go_skip | go_guarded | go_step)
    refine (order_any _ _ _).mono ?_
    rintro e w3 ⟨rfl, rfl⟩
    dsimp only
    repeat' (first | go_skip | go_guarded | go_step)
    go_ret
    exact ⟨by rw [hN.out, if_neg (by simp [hb])]; rfl, rfl⟩
theorem Below.drewN (w : World) (n : Nat) : Below w.heap.size w (w.drewN n) := ⟨rfl, rfl, rfl, Nat.le_refl _, fun _ _ => rfl⟩
theorem digit_run {l : List UInt8} {i : Nat} {c : UInt8} (h : l[i]? = some c) (hd : isDg c.toNat = true) : 1 ≤ runN (l.drop i) ∧ i + runN (l.drop i) ≤ l.length := by
 have h1 := runN_at h
 rw [if_pos hd] at h1
 have h2 := runN_le (l.drop i)
 rw [List.length_drop] at h2
 obtain ⟨hk, -⟩ := List.getElem?_eq_some_iff.1 h
 omega
theorem cut_run (s : ByteArray) (i m : Nat) : (s.extract i (i + m)).data.toList = (s.data.toList.drop i).take m := by
 rw [ext_list2, List.drop_take, Nat.add_sub_cancel_left]
theorem drop_cons {l : List UInt8} {i : Nat} {c : UInt8} (h : l[i]? = some c) : l.drop i = c :: l.drop (i + 1) := by
 obtain ⟨hk, he⟩ := List.getElem?_eq_some_iff.1 h
 rw [List.drop_eq_getElem_cons hk, he]
theorem cmp_at_num {l m : List UInt8} {i k : Nat} {c d : UInt8} (hc : l[i]? = some c) (hd : m[k]? = some d) (h1 : isDg c.toNat = true) (h2 : isDg d.toNat = true) :
  cmpN (l.drop i) (m.drop k) = if numC ((l.drop i).take (runN (l.drop i))) ((m.drop k).take (runN (m.drop k))) ≠ 0 then numC ((l.drop i).take (runN (l.drop i))) ((m.drop k).take (runN (m.drop k))) else cmpN (l.drop (i + runN (l.drop i))) (m.drop (k + runN (m.drop k))) := by
 rw [← List.drop_drop, ← List.drop_drop, drop_cons hc, drop_cons hd]
 by_cases h : numC ((c :: l.drop (i + 1)).take (runN (c :: l.drop (i + 1)))) ((d :: m.drop (k + 1)).take (runN (d :: m.drop (k + 1)))) = 0
 ·rw [cmpN_nums h1 h2 h, if_neg (by simp [h])]
 ·rw [cmpN_num h1 h2 h, if_pos h]
theorem cmp_at_byte {l m : List UInt8} {i k : Nat} {c d : UInt8} (hc : l[i]? = some c) (hd : m[k]? = some d) (h1 : (isDg c.toNat && isDg d.toNat) = false) :
  cmpN (l.drop i) (m.drop k) = if natC c.toNat d.toNat ≠ 0 then natC c.toNat d.toNat else cmpN (l.drop (i + 1)) (m.drop (k + 1)) := by
 rw [drop_cons hc, drop_cons hd]
 by_cases he : c = d
 ·subst he
  rw [Bool.and_self] at h1
  rw [cmpN_bytes h1, if_neg (by simp [natC])]
 ·have hn := u8_ne he
  rw [cmpN_byte h1 he, if_pos (by rw [natC_ne hn]; split <;> omega)]
theorem cmp_at_end {l m : List UInt8} {i k : Nat} (hi : i ≤ l.length) (hk : k ≤ m.length) (h : ¬ (i < l.length ∧ k < m.length)) : cmpN (l.drop i) (m.drop k) = ordB (decide (k < m.length)) (decide (i < l.length)) := by
 by_cases h1 : i < l.length
 ·have h2 : k = m.length := by omega
  have hc := List.getElem?_eq_getElem h1
  rw [drop_cons hc, h2, List.drop_of_length_le (Nat.le_refl _), cmpN_long]
  simp [ordB, h1]
 ·have h2 : i = l.length := by omega
  rw [h2, List.drop_of_length_le (Nat.le_refl _)]
  by_cases h3 : k < m.length
  ·have hc := List.getElem?_eq_getElem h3
   rw [drop_cons hc, cmpN_short]
   simp [ordB, h3]
  ·have h4 : k = m.length := by omega
   rw [h4, List.drop_of_length_le (Nat.le_refl _), cmpN_nil]
   simp [ordB]
theorem refCompare_any (a b : ByteArray) (w : World) (ha : a.size ≤ 4611686018427387904) (hb : b.size ≤ 4611686018427387904) : Calls Tryz.prog 132 #[.string a, .string b] w fun e w' => e = .returned (.int .i64 (cmpN a.data.toList b.data.toList)) ∧ Below w.heap.size w w' := by
 have la := list_size a
 have lb := list_size b
 go_enter Tryz.func132, Tryz.ntmps132
 repeat' (first | go_skip | go_guarded | go_step)
 go_loopw [5, 6] (fun u5 u6 wr => ∃ i k : Nat, i ≤ a.size ∧ k ≤ b.size ∧ u5 = .int .i64 (i : Int) ∧ u6 = .int .i64 (k : Int) ∧ Below w.heap.size w wr ∧ cmpN a.data.toList b.data.toList = cmpN (a.data.toList.drop i) (b.data.toList.drop k)) (fun u5 _ _ => a.size - (intOf u5).toNat)
 case atStart => exact ⟨0, 0, by omega, by omega, rfl, rfl, Below.refl _ _, rfl⟩
 case round =>
  obtain ⟨i, k, hi, hk, rfl, rfl, hbw, hall⟩ := hrel
  obtain ⟨wx, hwx⟩ : ∃ wx : World, wx = wr := ⟨wr, rfl⟩
  subst hwx
  by_cases hlt : i < a.size ∧ k < b.size
  ·obtain ⟨hi1, hk1⟩ := hlt
   have hc := str_at hi1
   have hd := str_at hk1
   have i0 : (0 : Int) ≤ (i : Int) := by omega
   have i1 : (i : Int) < (a.size : Int) := by omega
   have k0 : (0 : Int) ≤ (k : Int) := by omega
   have k1 : (k : Int) < (b.size : Int) := by omega
   replace hc := Lib.hid hc
   replace hd := Lib.hid hd
   replace hall := Lib.hid hall
   repeat' ((fail_if_success at_builtin); first | go_skip | go_guarded | go_step)
   go_quiet (first | (go_at_call 148; exact Calls.quiet_of_same (order_any _ _ _)))
   have hbz := hbw.trans (Below.mono (Below.drewN wx nq) hbw.size)
   generalize wx.drewN nq = wz at *
   clear hbw
   repeat' (first | go_skip | go_guarded | go_step)
   refine (refDigit_any _ _).mono ?_
   rintro e w8 ⟨rfl, rfl⟩
   dsimp only
   cases hx : isDg a[i].toNat with
   | true =>
    have ra := digit_run hc.out hx
    repeat' (first | go_skip | go_guarded | go_step)
    refine (refDigit_any _ _).mono ?_
    rintro e w9 ⟨rfl, rfl⟩
    dsimp only
    cases hy : isDg b[k].toNat with
    | true =>
     have rb := digit_run hd.out hy
     rw [la] at ra
     rw [lb] at rb
     have hN := hall.out
     rw [cmp_at_num hc.out hd.out hx hy] at hN
     have ea := cut_run a i (runN (a.data.toList.drop i))
     have eb := cut_run b k (runN (b.data.toList.drop k))
     rw [← ea, ← eb] at hN
     have CN := fun w' => refRuns_any (a.extract i (i + runN (a.data.toList.drop i))) (b.extract k (k + runN (b.data.toList.drop k))) w' (by simp [ByteArray.size_extract]; omega) (by simp [ByteArray.size_extract]; omega)
     have CA := fun w' => refRunN_any a i w' hi (by omega)
     have CB := fun w' => refRunN_any b k w' hk (by omega)
     clear ea eb
     have ra1 : i + 1 ≤ i + runN (a.data.toList.drop i) := by omega
     have ra2 := ra.2
     have rb2 := rb.2
     have rb1 : k + 1 ≤ k + runN (b.data.toList.drop k) := by omega
     clear ra rb
     generalize i + runN (a.data.toList.drop i) = m at *
     generalize k + runN (b.data.toList.drop k) = n at *
     replace CN := Lib.hid CN
     replace CA := Lib.hid CA
     replace CB := Lib.hid CB
     replace hN := Lib.hid hN
     have a1 : (i : Int) ≤ (m : Int) := by omega
     have a2 : (m : Int) ≤ (a.size : Int) := by omega
     have b1 : (k : Int) ≤ (n : Int) := by omega
     have b2 : (n : Int) ≤ (b.size : Int) := by omega
     have a0 : (0 : Int) ≤ (m : Int) := by omega
     have b0 : (0 : Int) ≤ (n : Int) := by omega
     repeat' (first | go_skip | go_guarded | go_step)
     refine (CA.out _).mono ?_
     rintro e w10 ⟨rfl, rfl⟩
     dsimp only
     repeat' (first | go_skip | go_guarded | go_step)
     refine (CB.out _).mono ?_
     rintro e w11 ⟨rfl, rfl⟩
     dsimp only
     repeat' ((fail_if_success at_builtin); first | go_skip | go_guarded | go_step)
     go_quiet (first | (go_at_call 151; exact Calls.quiet_of_same (CN.out _)))
     have hbz2 := hbz.trans (Below.mono (Below.drewN w11 nq) hbz.size)
     generalize w11.drewN nq = wv at *
     generalize numC (a.extract i m).data.toList (b.extract k n).data.toList = r at *
     by_cases hr : r = 0
     ·have hr2 : (r != 0) = false := by simp [hr]
      have hN' := hN.out
      rw [if_neg (by simp [hr])] at hN'
      replace hN := Lib.hid hN'
      clear hN' hr
      repeat' (first | go_skip | go_guarded | go_step)
      go_roundw
      case rel => exact ⟨m, n, by omega, by omega, rfl, rfl, hbz2, hN.out⟩
      case measure => simp [intOf]; omega
     ·have hr2 : (r != 0) = true := by simp [hr]
      have hN' := hN.out
      rw [if_pos hr] at hN'
      replace hN := Lib.hid hN'
      clear hN' hr
      repeat' (first | go_skip | go_guarded | go_step)
      go_ret
      exact ⟨by rw [hN.out]; rfl, hbz2⟩
    | false =>
     have hN := hall.out
     rw [cmp_at_byte hc.out hd.out (by simp [hx, hy]), ← ordB_nat] at hN
     generalize ordB (decide (a[i].toNat < b[k].toNat)) (decide (b[k].toNat < a[i].toNat)) = r at *
     by_cases hr : r = 0
     ·have hr2 : (r != 0) = false := by simp [hr]
      have hN' := hN
      rw [if_neg (by simp [hr])] at hN'
      replace hN' := Lib.hid hN'
      clear hN hr
      repeat' (first | go_skip | go_guarded | go_step)
      go_roundw
      case rel => exact ⟨i + 1, k + 1, by omega, by omega, by go_num, by go_num, hbz, hN'.out⟩
      case measure => simp [intOf]; omega
     ·have hr2 : (r != 0) = true := by simp [hr]
      have hN' := hN
      rw [if_pos hr] at hN'
      replace hN' := Lib.hid hN'
      clear hN hr
      repeat' (first | go_skip | go_guarded | go_step)
      go_ret
      exact ⟨by rw [hN'.out]; rfl, hbz⟩
   | false =>
    have hN := hall.out
    rw [cmp_at_byte hc.out hd.out (by simp [hx]), ← ordB_nat] at hN
    generalize ordB (decide (a[i].toNat < b[k].toNat)) (decide (b[k].toNat < a[i].toNat)) = r at *
    by_cases hr : r = 0
    ·have hr2 : (r != 0) = false := by simp [hr]
     have hN' := hN
     rw [if_neg (by simp [hr])] at hN'
     replace hN' := Lib.hid hN'
     clear hN hr
     repeat' (first | go_skip | go_guarded | go_step)
     go_roundw
     case rel => exact ⟨i + 1, k + 1, by omega, by omega, by go_num, by go_num, hbz, hN'.out⟩
     case measure => simp [intOf]; omega
    ·have hr2 : (r != 0) = true := by simp [hr]
     have hN' := hN
     rw [if_pos hr] at hN'
     replace hN' := Lib.hid hN'
     clear hN hr
     repeat' (first | go_skip | go_guarded | go_step)
     go_ret
     exact ⟨by rw [hN'.out]; rfl, hbz⟩
  ·have hN := hall
   rw [cmp_at_end (by omega) (by omega) (by omega), la, lb] at hN
   replace hN := Lib.hid hN
   clear hall
   by_cases hi1 : i < a.size
   ·have i1 : (i : Int) < (a.size : Int) := by omega
    have k1 : ¬ ((k : Int) < (b.size : Int)) := by omega
    repeat' (first | go_skip | go_guarded | go_step)
    refine (order_any _ _ _).mono ?_
    rintro e w8 ⟨rfl, rfl⟩
    dsimp only
    repeat' (first | go_skip | go_guarded | go_step)
    go_ret
    refine ⟨?_, hbw⟩
    rw [hN.out]
    rw [decide_eq_true hi1, decide_eq_false (by omega)]
    rfl
   ·have i1 : ¬ ((i : Int) < (a.size : Int)) := by omega
    repeat' (first | go_skip | go_guarded | go_step)
    refine (order_any _ _ _).mono ?_
    rintro e w8 ⟨rfl, rfl⟩
    dsimp only
    repeat' (first | go_skip | go_guarded | go_step)
    go_ret
    refine ⟨?_, hbw⟩
    rw [hN.out]
    rw [decide_eq_false hi1]
    rfl
end Go.Proofs.YtgdapkglofchjaaGreatDoor
