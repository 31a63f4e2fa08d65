/- Identifiers: the walks of both sides. -/
import Derived.Test.YtennhjkhjplmoaaDoorIdP
import Derived.Test.YtennhjkhjplmoaaDoorMem
import Derived.Test.YtennhjkhjplmoaaDoorChecked
import Derived.Lib.ConvBytes
namespace Go.Proofs.YtennhjkhjplmoaaDoor
open Go.RowKit
set_option maxRecDepth 100000 in
theorem digit_any (c : UInt8) (w : World) : Calls Tryd.prog 65 #[.int .u8 (c.toNat : Int)] w fun e w' => e = .returned (.bool (decide (48 ≤ c.toNat) && decide (c.toNat ≤ 57))) ∧ w' = w := by
  go_enter Tryd.func65, Tryd.ntmps65
  repeat' ((fail_if_success at_builtin); (first | go_skip | go_guarded | go_step))
  all_goals go_ret
  all_goals refine ⟨ret_b ?_, rfl⟩
  all_goals rw [Bool.eq_iff_iff]
  all_goals simp
  all_goals omega
set_option maxRecDepth 100000 in
theorem name1_any (i : Nat) (c : UInt8) (w : World) (_hi : i ≤ 9223372036854775807) : Calls Tryd.prog 64 #[.int .i64 (i : Int), .int .u8 (c.toNat : Int)] w fun e w' => e = .returned (.bool (nameC i c.toNat)) ∧ w' = w := by
  go_enter Tryd.func64, Tryd.ntmps64
  repeat' (first | (go_at_call 65; refine (digit_any c _).mono ?_; rintro e w' ⟨rfl, rfl⟩; dsimp only) | go_skip | go_guarded | go_step)
  all_goals go_ret
  all_goals refine ⟨ret_b ?_, rfl⟩
  all_goals rw [Bool.eq_iff_iff]
  all_goals simp_all [nameC, lowC]
  all_goals omega
set_option maxRecDepth 100000 in
theorem letter_any (c : UInt8) (w : World) : Calls Tryd.prog 79 #[.int .u8 (c.toNat : Int)] w fun e w' => e = .returned (.bool (lowC c.toNat)) ∧ w' = w := by
  go_enter Tryd.func79, Tryd.ntmps79
  repeat' ((fail_if_success at_builtin); (first | go_skip | go_guarded | go_step))
  all_goals go_ret
  all_goals refine ⟨ret_b ?_, rfl⟩
  all_goals rw [Bool.eq_iff_iff]
  all_goals simp_all [lowC]
  all_goals omega
set_option maxRecDepth 100000 in
theorem everyB_any (l : List UInt8) (A : Option Addr) (c : Nat) (w : World) (B : Nat) (hs : Seq w B 1 A l.length (l.map bv)) (hl : l.length ≤ 64) :
    Calls Tryd.prog 63 #[.slice A l.length c, .func (.func 64) #[] #[]] w fun e w' => e = .returned (.bool (allC 0 l)) ∧ w' = w := by
  go_enter Tryd.func63, Tryd.ntmps63
  repeat' ((fail_if_success at_builtin); (first | go_skip | go_guarded | go_step))
  go_loopw [9] (fun u9 wr => ∃ i : Nat, i ≤ l.length ∧ u9 = .int .i64 (i : Int) ∧ wr = w ∧ allC 0 l = allC i (l.drop i)) (fun u9 _ => l.length - (intOf u9).toNat)
  case atStart => exact ⟨0, by omega, rfl, rfl, rfl⟩
  case round =>
    obtain ⟨i, hi, rfl, rfl, hall⟩ := hrel
    by_cases hlt : i < l.length
    · obtain ⟨b, o, rfl, hbB, hcell⟩ := hs.2 (by omega)
      have hci : l[i]? = some l[i] := List.getElem?_eq_getElem hlt
      have e1 := hcell i (bv l[i]) (by rw [List.getElem?_map, hci]; rfl)
      rw [allC_at hci] at hall
      have i0 : (0 : Int) ≤ (i : Int) := by omega
      have i1 : (i : Int) < (l.length : Int) := by omega
      generalize l[i] = x at e1 hall
      clear hci hcell
      repeat' ((fail_if_success at_builtin); (first | go_skip | go_guarded | go_step))
      refine (name1_any i x _ (by omega)).mono ?_
      rintro e w' ⟨rfl, rfl⟩
      dsimp only
      cases hv : nameC i x.toNat with
      | true =>
        rw [hv, Bool.true_and] at hall
        repeat' ((fail_if_success at_builtin); (first | go_skip | go_guarded | go_step))
        go_roundw
        case rel => exact ⟨i + 1, by omega, by go_num, trivial, hall⟩
        case measure => simp [intOf]; omega
      | false =>
        rw [hv, Bool.false_and] at hall
        repeat' ((fail_if_success at_builtin); (first | go_skip | go_guarded | go_step))
        go_ret
        exact ⟨by rw [hall]; rfl, rfl⟩
    · rw [allC_end (by omega)] at hall
      repeat' ((fail_if_success at_builtin); (first | go_skip | go_guarded | go_step))
      go_ret
      exact ⟨by rw [hall]; rfl, rfl⟩
theorem bytesW_below (w : World) (e : TypeId) (s : ByteArray) : Below w.heap.size w (Lib.bytesWorld w e s) :=
  ⟨rfl, rfl, rfl, by rw [Lib.bytesWorld_size]; omega, fun k hk => Lib.bytesWorld_at_old w e s k hk⟩
theorem bytesW_seq (w : World) (e : TypeId) (s : ByteArray) : Seq (Lib.bytesWorld w e s) (Lib.bytesWorld w e s).heap.size 1 (some ⟨w.heap.size, 0, none⟩) s.size (s.data.toList.map bv) := by
  refine ⟨by simp, fun _ => ⟨w.heap.size, 0, rfl, by rw [Lib.bytesWorld_size]; omega, fun j u hu => ?_⟩⟩
  have hj : j < s.size := by
    have := (List.getElem?_eq_some_iff.1 hu).1
    simpa using this
  rw [Nat.zero_add, Lib.bytesWorld_cell w e s j hj, ← hu, List.getElem?_map]
  simp [List.getD, hj]
theorem nameS_out {l : List UInt8} (h : ¬ (0 < l.length ∧ l.length ≤ 64)) : nameS l = false := by
  unfold nameS
  simp only [Bool.and_eq_false_iff, decide_eq_false_iff_not]
  omega
theorem nameS_in {l : List UInt8} (h0 : 0 < l.length) (h1 : l.length ≤ 64) : nameS l = allC 0 l := by
  unfold nameS
  simp [h0, h1]
set_option maxRecDepth 100000 in
theorem idName_any (s : ByteArray) (w : World) (hm : s.size ≤ 9223372036854775807) : Calls Tryd.prog 30 #[.string s] w fun e w' => e = .returned (.bool (nameS s.data.toList)) ∧ Below w.heap.size w w' := by
  have hsz : s.data.toList.length = s.size := by simp
  by_cases h0 : 0 < s.size
  · by_cases h1 : s.size ≤ 64
    · rw [nameS_in (by omega) (by omega)]
      go_enter Tryd.func30, Tryd.ntmps30
      repeat' ((fail_if_success at_builtin); (first | go_skip | go_guarded | go_step))
      rw [Lib.run_convert_string_bytes _ _ _ _ s Tryd.underlying9 Tryd.underlying93 Tryd.underlying5]
      simp only [Result.andThen, Oper.upon]
      repeat' ((fail_if_success at_builtin); (first | go_skip | go_guarded | go_step))
      have C := everyB_any s.data.toList (some ⟨w.heap.size, 0, none⟩) (grownCap w s.size 0 5) (Lib.bytesWorld w 5 s) _ (by rw [hsz]; exact bytesW_seq w 5 s) (by omega)
      rw [hsz] at C
      refine C.mono ?_
      rintro e w1 ⟨rfl, rfl⟩
      dsimp only
      repeat' ((fail_if_success at_builtin); (first | go_skip | go_guarded | go_step))
      go_ret
      exact ⟨rfl, bytesW_below _ _ _⟩
    · rw [nameS_out (by omega)]
      go_enter Tryd.func30, Tryd.ntmps30
      repeat' ((fail_if_success at_builtin); (first | go_skip | go_guarded | go_step))
      go_ret
      exact ⟨rfl, Below.refl _ _⟩
  · rw [nameS_out (by omega)]
    go_enter Tryd.func30, Tryd.ntmps30
    repeat' ((fail_if_success at_builtin); (first | go_skip | go_guarded | go_step))
    go_ret
    exact ⟨rfl, Below.refl _ _⟩
theorem str_at {s : ByteArray} {i : Nat} (h : i < s.size) : s.data.toList[i]? = some s[i] := by
  rw [Array.getElem?_toList]
  exact Array.getElem?_eq_getElem h
theorem nameC_zero (c : Nat) : nameC 0 c = lowC c := by simp [nameC]
theorem allC_low {l : List UInt8} {c : UInt8} (h : l[0]? = some c) (hc : lowC c.toNat = false) : allC 0 l = false := by
  have := allC_at h
  rw [List.drop_zero, nameC_zero, hc] at this
  rw [this, Bool.false_and]
set_option maxRecDepth 100000 in
theorem refName_any (s : ByteArray) (w : World) (hm : s.size ≤ 9223372036854775807) : Calls Tryd.prog 44 #[.string s] w fun e w' => e = .returned (.bool (nameS s.data.toList)) ∧ w' = w := by
  have hsz : s.data.toList.length = s.size := by simp
  by_cases h0 : 0 < s.size
  · by_cases h1 : s.size ≤ 64
    · rw [nameS_in (by omega) (by omega)]
      have hat := str_at h0
      go_enter Tryd.func44, Tryd.ntmps44
      repeat' ((fail_if_success at_builtin); (first | go_skip | go_guarded | go_step))
      refine (letter_any _ w).mono ?_
      rintro e w1 ⟨rfl, rfl⟩
      dsimp only
      cases hv : lowC s[0].toNat with
      | false =>
        repeat' ((fail_if_success at_builtin); (first | go_skip | go_guarded | go_step))
        go_ret
        exact ⟨by rw [allC_low hat hv]; rfl, rfl⟩
      | true =>
        repeat' ((fail_if_success at_builtin); (first | go_skip | go_guarded | go_step))
        go_loopw [3] (fun u3 wr => ∃ i : Nat, i ≤ s.size ∧ u3 = .int .i64 (i : Int) ∧ wr = w1 ∧ allC 0 s.data.toList = allC i (s.data.toList.drop i)) (fun u3 _ => s.size - (intOf u3).toNat)
        case atStart => exact ⟨0, by omega, rfl, rfl, rfl⟩
        case round =>
          obtain ⟨i, hi, rfl, rfl, hall⟩ := hrel
          by_cases hlt : i < s.size
          · have hci := str_at hlt
            rw [allC_at hci] at hall
            have hz : i = 0 → lowC s[i].toNat = true := fun h => by subst h; exact hv
            have i0 : (0 : Int) ≤ (i : Int) := by omega
            have i1 : (i : Int) < (s.size : Int) := by omega
            clear hci
            repeat' ((fail_if_success at_builtin); (first | go_skip | go_guarded | go_step))
            refine (letter_any _ _).mono ?_
            rintro e w' ⟨rfl, rfl⟩
            dsimp only
            have hn : nameC i s[i].toNat = (lowC s[i].toNat || (s[i].toNat == 95 || s[i].toNat == 45 || s[i].toNat == 46)) := by
              unfold nameC
              by_cases hi0 : i = 0
              · rw [hz hi0]; rfl
              · simp [show 0 < i by omega]
            clear hz
            cases hl : lowC s[i].toNat with
            | true =>
              rw [hn, hl, Bool.true_or, Bool.true_and] at hall
              repeat' ((fail_if_success at_builtin); (first | go_skip | go_guarded | go_step))
              go_roundw
              case rel => exact ⟨i + 1, by omega, by go_num, trivial, hall⟩
              case measure => simp [intOf]; omega
            | false =>
              by_cases h3 : s[i].toNat = 95 ∨ s[i].toNat = 45 ∨ s[i].toNat = 46
              · have hnt : nameC i s[i].toNat = true := by rw [hn, hl]; simp only [Bool.false_or, Bool.or_eq_true, beq_iff_eq]; omega
                rw [hnt, Bool.true_and] at hall
                rcases h3 with h3 | h3 | h3
                all_goals
                  have q0 : (s[i].toNat : Int) = ((s[i].toNat : Nat) : Int) := rfl
                  rw [h3] at q0
                  repeat' ((fail_if_success at_builtin); (first | go_skip | go_guarded | go_step))
                  go_roundw
                  case rel => exact ⟨i + 1, by omega, by go_num, trivial, hall⟩
                  case measure => simp [intOf]; omega
              · have hnf : nameC i s[i].toNat = false := by rw [hn, hl]; simp only [Bool.false_or, Bool.or_eq_false_iff, beq_eq_false_iff_ne]; omega
                rw [hnf, Bool.false_and] at hall
                have q1 : ¬ ((s[i].toNat : Int) = 95) := by omega
                have q2 : ¬ ((s[i].toNat : Int) = 45) := by omega
                have q3 : ¬ ((s[i].toNat : Int) = 46) := by omega
                have q4 : ((s[i].toNat : Int) != 95) = true := by simpa using q1
                have q5 : ((s[i].toNat : Int) != 45) = true := by simpa using q2
                have q6 : ((s[i].toNat : Int) != 46) = true := by simpa using q3
                repeat' ((fail_if_success at_builtin); (first | go_skip | go_guarded | go_step))
                all_goals first
                  | (go_ret; exact ⟨by rw [hall]; rfl, rfl⟩)
                  | (exfalso; rename_i hh; rw [q4, q5, q6] at hh; simp at hh)
          · rw [allC_end (by omega)] at hall
            repeat' ((fail_if_success at_builtin); (first | go_skip | go_guarded | go_step))
            go_ret
            exact ⟨by rw [hall]; rfl, rfl⟩
    · rw [nameS_out (by omega)]
      go_enter Tryd.func44, Tryd.ntmps44
      repeat' ((fail_if_success at_builtin); (first | go_skip | go_guarded | go_step))
      go_ret
      exact ⟨rfl, rfl⟩
  · rw [nameS_out (by omega)]
    go_enter Tryd.func44, Tryd.ntmps44
    repeat' ((fail_if_success at_builtin); (first | go_skip | go_guarded | go_step))
    go_ret
    exact ⟨rfl, rfl⟩
theorem all_at {α : Type} {l : List α} {p : α → Bool} {i : Nat} {x : α} (h : l[i]? = some x) : (l.drop i).all p = (p x && (l.drop (i + 1)).all p) := by
  obtain ⟨hk, he⟩ := List.getElem?_eq_some_iff.1 h
  rw [List.drop_eq_getElem_cons hk, he]; rfl
theorem all_end {α : Type} {l : List α} {p : α → Bool} {i : Nat} (h : l.length ≤ i) : (l.drop i).all p = true := by
  rw [List.drop_of_length_le h]; rfl
theorem ext_list (s : ByteArray) (j i : Nat) : (s.extract j i).data.toList = (s.data.toList.drop j).take (i - j) := by
  rw [Lib.extract_data]
theorem str_info : Info Tryd.prog 9 (.string ByteArray.empty) 1 16 := by unfold Info; kernel_rfl
end Go.Proofs.YtennhjkhjplmoaaDoor
