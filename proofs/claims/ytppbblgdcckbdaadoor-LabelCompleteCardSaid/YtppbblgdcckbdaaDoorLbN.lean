/- Label: numbers. -/
import Derived.Test.YtppbblgdcckbdaaDoorLbR
import Derived.Test.YtppbblgdcckbdaaDoorIdN
import Derived.Test.YtppbblgdcckbdaaDoorCmpR
namespace Go.Proofs.YtppbblgdcckbdaaDoor
open Go.RowKit
/-- what number returns -/
def NumR (l : List UInt8) (e : Ending) : Prop := match numL l with
  | some n => e = .returned (.tuple #[.int .i64 (n : Int), .bool true])
  | none => ∃ v, e = .returned (.tuple #[.int .i64 v, .bool false])
theorem digF_at {l : List UInt8} {i a : Nat} {c : UInt8} (h : l[i]? = some c) : digF (l.drop i) a = if isDg c.toNat then digF (l.drop (i + 1)) (10 * a + (c.toNat - 48)) else none := by
  obtain ⟨hi, rfl⟩ := List.getElem?_eq_some_iff.1 h
  rw [List.drop_eq_getElem_cons hi]
  rfl
theorem digF_end {l : List UInt8} {i a : Nat} (h : l.length ≤ i) : digF (l.drop i) a = some a := by
  rw [List.drop_of_length_le h]
  rfl
theorem numL_of {l : List UInt8} (h1 : l ≠ []) (h2 : l.length ≤ 16) (h3 : ¬ (1 < l.length ∧ l.head? = some 48)) : numL l = match digF l 0 with
    | none => none
    | some n => if n ≤ 9007199254740992 then some n else none := by
  unfold numL
  rw [if_neg (by
    rintro (h | h | h)
    · exact h1 h
    · omega
    · exact h3 h)]
  rfl
theorem numR_out {l : List UInt8} (h : l = [] ∨ 16 < l.length ∨ (1 < l.length ∧ l.head? = some 48)) : NumR l (.returned (.tuple #[.int .i64 0, .bool false])) := by
  unfold NumR numL
  rw [if_pos h]
  exact ⟨0, rfl⟩
theorem numR_bad {l : List UInt8} (h1 : l ≠ []) (h2 : l.length ≤ 16) (h3 : ¬ (1 < l.length ∧ l.head? = some 48)) (h : digF l 0 = none) (v : Int) : NumR l (.returned (.tuple #[.int .i64 v, .bool false])) := by
  unfold NumR
  rw [numL_of h1 h2 h3, h]
  exact ⟨v, rfl⟩
theorem numR_some {l : List UInt8} (h1 : l ≠ []) (h2 : l.length ≤ 16) (h3 : ¬ (1 < l.length ∧ l.head? = some 48)) {n : Nat} (h : digF l 0 = some n) : NumR l (.returned (.tuple #[.int .i64 (n : Int), .bool (decide ((n : Int) ≤ 9007199254740992))])) := by
  unfold NumR
  rw [numL_of h1 h2 h3, h]
  dsimp only
  by_cases hn : n ≤ 9007199254740992
  · rw [if_pos hn, decide_eq_true (by omega)]
  · rw [if_neg hn, decide_eq_false (by omega)]
    exact ⟨_, rfl⟩
theorem head_at {s : ByteArray} (h : 0 < s.size) : s.data.toList.head? = some s[0] := by
  have := str_at h
  rw [← List.head?_eq_getElem?] at this
  exact this
theorem toList_some2 {s : ByteArray} (h : 0 < s.size) : (s.toList == []) = false := by
  rw [ByteArray.toList_eq, beq_eq_false_iff_ne]
  intro e
  have := list_size s
  rw [e] at this
  simp at this
  omega
theorem toList_none2 {s : ByteArray} (h : ¬ 0 < s.size) : (s.toList == []) = true := by
  rw [ByteArray.toList_eq, beq_iff_eq]
  exact List.eq_nil_of_length_eq_zero (by rw [list_size]; omega)
set_option maxRecDepth 100000 in
set_option maxHeartbeats 2000000 in
theorem number_any (s : ByteArray) (w : World) (hm : s.size ≤ 1000000000) : Calls Tryd.prog 64 #[.string s] w fun e w' => NumR s.data.toList e ∧ Below w.heap.size w w' := by
  have hsz := list_size s
  by_cases h0 : 0 < s.size
  · have n0 := toList_some2 h0
    have hne : s.data.toList ≠ [] := by intro h; rw [h] at hsz; simp at hsz; omega
    by_cases h1 : s.size ≤ 16
    · have h1' : ¬ (16 : Int) < (s.size : Int) := by omega
      have hh := head_at h0
      have z0 : (0 : Int) < (s.size : Int) := by omega
      by_cases h2 : 1 < s.size ∧ s[0].toNat = 48
      · have h3 : (1 : Int) < (s.size : Int) := by omega
        have h4 : ((s[0].toNat : Int) == 48) = true := by simp; omega
        have hout := numR_out (l := s.data.toList) (.inr (.inr ⟨by omega, by rw [hh]; congr 1; exact UInt8.toNat_inj.1 h2.2⟩))
        replace hout := Lib.hid hout
        clear hh
        go_enter Tryd.func64, Tryd.ntmps64
        repeat' ((fail_if_success at_builtin); (first | go_skip | go_guarded | go_step))
        go_ret2
        exact ⟨hout.out, Below.refl _ _⟩
      · have hng : ¬ (1 < s.data.toList.length ∧ s.data.toList.head? = some 48) := by
          rintro ⟨g1, g2⟩
          rw [hh] at g2
          exact h2 ⟨by omega, by rw [Option.some.inj g2]; rfl⟩
        have hl16 : s.data.toList.length ≤ 16 := by omega
        have hA := fun h v => numR_bad hne hl16 hng (v := v) h
        have hB := fun n h => numR_some hne hl16 hng (n := n) h
        obtain ⟨R, hR⟩ : ∃ R, R = digF s.data.toList 0 := ⟨_, rfl⟩
        rw [← hR] at hA hB
        replace hA := Lib.hid hA
        replace hB := Lib.hid hB
        replace hR := Lib.hid hR
        replace hh := Lib.hid hh
        replace hne := Lib.hid hne
        replace hng := Lib.hid hng
        clear hl16
        have hcase : (s.size = 1) ∨ (1 < s.size ∧ ¬ s[0].toNat = 48) := by omega
        rcases hcase with hc | ⟨hc, hc2⟩
        · have h3 : ¬ (1 : Int) < (s.size : Int) := by omega
          replace hc := Lib.hid hc
          go_enter Tryd.func64, Tryd.ntmps64
          repeat' ((fail_if_success at_builtin); (first | go_skip | go_guarded | go_step))
          rw [Lib.run_convert_string_bytes _ _ _ _ s Tryd.underlying9 Tryd.underlying78 Tryd.underlying5]
          simp only [Result.andThen, Oper.upon]
          have hseq := bytesW_seq w 5 s
          have hbw := bytesW_below w 5 s
          generalize Lib.bytesWorld w 5 s = w1 at *
          repeat' ((fail_if_success at_builtin); (first | go_skip | go_guarded | go_step))
          go_loopw [4, 27] (fun u4 u27 wr => ∃ i a : Nat, i ≤ s.size ∧ u27 = .int .i64 (i : Int) ∧ u4 = .int .i64 (a : Int) ∧ a < 10 ^ i ∧ wr = w1 ∧ R = digF (s.data.toList.drop i) a) (fun _ u27 _ => s.size - (intOf u27).toNat)
          case atStart => exact ⟨0, 0, by omega, rfl, rfl, by decide, rfl, hR.out⟩
          case round =>
            obtain ⟨i, a, hi, rfl, rfl, ha, rfl, hu⟩ := hrel
            have hp : 10 ^ i ≤ 10 ^ 16 := Nat.pow_le_pow_right (by decide) (by omega)
            have hp2 : (10 : Nat) ^ 16 = 10000000000000000 := by decide
            have ha2 : a < 10000000000000000 := by omega
            by_cases hlt : i < s.size
            · have hci := str_at hlt
              rw [digF_at hci] at hu
              have hcell : wr.cell? ⟨w.heap.size, i, none⟩ = some (.int .u8 (s[i].toNat : Int)) := by
                obtain ⟨b, o, hA0, _, hc⟩ := hseq.2 (by omega)
                cases hA0
                have := hc i (.int .u8 (s[i].toNat : Int)) (by rw [List.getElem?_map, hci]; rfl)
                simpa using this
              have hps : 10 ^ (i + 1) = 10 * 10 ^ i := by rw [Nat.pow_succ]; omega
              have i0 : (0 : Int) ≤ (i : Int) := by omega
              have i1 : (i : Int) < (s.size : Int) := by omega
              have hb9 : (s[i].toNat : Int) ≤ 255 := by have := s[i].toNat_lt; omega
              replace hci := Lib.hid hci
              replace hp2 := Lib.hid hp2
              replace hps := Lib.hid hps
              generalize hcc : s[i].toNat = cc at *
              replace hcc := Lib.hid hcc
              by_cases hd : isDg cc = true
              · rw [if_pos hd] at hu
                rw [isDg_iff] at hd
                have d1 : ¬ (cc : Int) < 48 := by omega
                have d2 : ¬ (57 : Int) < (cc : Int) := by omega
                have e1 : IntKind.i64.wrap (10 * (a : Int)) = 10 * (a : Int) := IntWalk.i64_in _ (by omega)
                have e2 : IntKind.u8.wrap ((cc : Int) - 48) = (cc : Int) - 48 := by unfold IntKind.wrap; simp [IntKind.bits, IntKind.signed]; omega
                have e3 : IntKind.i64.wrap ((cc : Int) - 48) = (cc : Int) - 48 := IntWalk.i64_in _ (by omega)
                have e4 : IntKind.i64.wrap (10 * (a : Int) + ((cc : Int) - 48)) = ((10 * a + (cc - 48) : Nat) : Int) := by rw [IntWalk.i64_in _ (by omega)]; omega
                have hnew : 10 * a + (cc - 48) < 10 ^ (i + 1) := by have := hps.out; omega
                generalize 10 * a + (cc - 48) = a2 at *
                replace hu := Lib.hid hu
                repeat' ((fail_if_success at_builtin); (first | go_skip | go_guarded | go_step))
                go_roundw
                case rel => exact ⟨i + 1, a2, by omega, by go_num, rfl, hnew, (by trivial), hu.out⟩
                case measure => simp [intOf]; omega
              · rw [if_neg hd] at hu
                rw [Bool.not_eq_true, isDg_not] at hd
                replace hu := Lib.hid hu
                rcases hd with hd | hd
                · have d1 : (cc : Int) < 48 := by omega
                  repeat' ((fail_if_success at_builtin); (first | go_skip | go_guarded | go_step))
                  go_ret2
                  exact ⟨hA.out hu.out 0, hbw⟩
                · have d1 : ¬ (cc : Int) < 48 := by omega
                  have d2 : (57 : Int) < (cc : Int) := by omega
                  repeat' ((fail_if_success at_builtin); (first | go_skip | go_guarded | go_step))
                  go_ret2
                  exact ⟨hA.out hu.out 0, hbw⟩
            · rw [digF_end (by rw [hsz]; omega)] at hu
              replace hu := Lib.hid hu
              replace hp2 := Lib.hid hp2
              have i1 : ¬ (i : Int) < (s.size : Int) := by omega
              repeat' ((fail_if_success at_builtin); (first | go_skip | go_guarded | go_step))
              go_ret2
              exact ⟨hB.out a hu.out, hbw⟩
        · have h3 : (1 : Int) < (s.size : Int) := by omega
          have h4 : ((s[0].toNat : Int) == 48) = false := by simp; omega
          go_enter Tryd.func64, Tryd.ntmps64
          repeat' ((fail_if_success at_builtin); (first | go_skip | go_guarded | go_step))
          rw [Lib.run_convert_string_bytes _ _ _ _ s Tryd.underlying9 Tryd.underlying78 Tryd.underlying5]
          simp only [Result.andThen, Oper.upon]
          have hseq := bytesW_seq w 5 s
          have hbw := bytesW_below w 5 s
          generalize Lib.bytesWorld w 5 s = w1 at *
          repeat' ((fail_if_success at_builtin); (first | go_skip | go_guarded | go_step))
          go_loopw [4, 27] (fun u4 u27 wr => ∃ i a : Nat, i ≤ s.size ∧ u27 = .int .i64 (i : Int) ∧ u4 = .int .i64 (a : Int) ∧ a < 10 ^ i ∧ wr = w1 ∧ R = digF (s.data.toList.drop i) a) (fun _ u27 _ => s.size - (intOf u27).toNat)
          case atStart => exact ⟨0, 0, by omega, rfl, rfl, by decide, rfl, hR.out⟩
          case round =>
            obtain ⟨i, a, hi, rfl, rfl, ha, rfl, hu⟩ := hrel
            have hp : 10 ^ i ≤ 10 ^ 16 := Nat.pow_le_pow_right (by decide) (by omega)
            have hp2 : (10 : Nat) ^ 16 = 10000000000000000 := by decide
            have ha2 : a < 10000000000000000 := by omega
            by_cases hlt : i < s.size
            · have hci := str_at hlt
              rw [digF_at hci] at hu
              have hcell : wr.cell? ⟨w.heap.size, i, none⟩ = some (.int .u8 (s[i].toNat : Int)) := by
                obtain ⟨b, o, hA0, _, hc⟩ := hseq.2 (by omega)
                cases hA0
                have := hc i (.int .u8 (s[i].toNat : Int)) (by rw [List.getElem?_map, hci]; rfl)
                simpa using this
              have hps : 10 ^ (i + 1) = 10 * 10 ^ i := by rw [Nat.pow_succ]; omega
              have i0 : (0 : Int) ≤ (i : Int) := by omega
              have i1 : (i : Int) < (s.size : Int) := by omega
              have hb9 : (s[i].toNat : Int) ≤ 255 := by have := s[i].toNat_lt; omega
              replace hci := Lib.hid hci
              replace hp2 := Lib.hid hp2
              replace hps := Lib.hid hps
              generalize hcc : s[i].toNat = cc at *
              replace hcc := Lib.hid hcc
              by_cases hd : isDg cc = true
              · rw [if_pos hd] at hu
                rw [isDg_iff] at hd
                have d1 : ¬ (cc : Int) < 48 := by omega
                have d2 : ¬ (57 : Int) < (cc : Int) := by omega
                have e1 : IntKind.i64.wrap (10 * (a : Int)) = 10 * (a : Int) := IntWalk.i64_in _ (by omega)
                have e2 : IntKind.u8.wrap ((cc : Int) - 48) = (cc : Int) - 48 := by unfold IntKind.wrap; simp [IntKind.bits, IntKind.signed]; omega
                have e3 : IntKind.i64.wrap ((cc : Int) - 48) = (cc : Int) - 48 := IntWalk.i64_in _ (by omega)
                have e4 : IntKind.i64.wrap (10 * (a : Int) + ((cc : Int) - 48)) = ((10 * a + (cc - 48) : Nat) : Int) := by rw [IntWalk.i64_in _ (by omega)]; omega
                have hnew : 10 * a + (cc - 48) < 10 ^ (i + 1) := by have := hps.out; omega
                generalize 10 * a + (cc - 48) = a2 at *
                replace hu := Lib.hid hu
                repeat' ((fail_if_success at_builtin); (first | go_skip | go_guarded | go_step))
                go_roundw
                case rel => exact ⟨i + 1, a2, by omega, by go_num, rfl, hnew, (by trivial), hu.out⟩
                case measure => simp [intOf]; omega
              · rw [if_neg hd] at hu
                rw [Bool.not_eq_true, isDg_not] at hd
                replace hu := Lib.hid hu
                rcases hd with hd | hd
                · have d1 : (cc : Int) < 48 := by omega
                  repeat' ((fail_if_success at_builtin); (first | go_skip | go_guarded | go_step))
                  go_ret2
                  exact ⟨hA.out hu.out 0, hbw⟩
                · have d1 : ¬ (cc : Int) < 48 := by omega
                  have d2 : (57 : Int) < (cc : Int) := by omega
                  repeat' ((fail_if_success at_builtin); (first | go_skip | go_guarded | go_step))
                  go_ret2
                  exact ⟨hA.out hu.out 0, hbw⟩
            · rw [digF_end (by rw [hsz]; omega)] at hu
              replace hu := Lib.hid hu
              replace hp2 := Lib.hid hp2
              have i1 : ¬ (i : Int) < (s.size : Int) := by omega
              repeat' ((fail_if_success at_builtin); (first | go_skip | go_guarded | go_step))
              go_ret2
              exact ⟨hB.out a hu.out, hbw⟩
    · have h1' : (16 : Int) < (s.size : Int) := by omega
      have hout := numR_out (l := s.data.toList) (.inr (.inl (by omega)))
      replace hout := Lib.hid hout
      go_enter Tryd.func64, Tryd.ntmps64
      repeat' ((fail_if_success at_builtin); (first | go_skip | go_guarded | go_step))
      go_ret2
      exact ⟨hout.out, Below.refl _ _⟩
  · have n0 := toList_none2 h0
    have hout := numR_out (l := s.data.toList) (.inl (List.eq_nil_of_length_eq_zero (by omega)))
    replace hout := Lib.hid hout
    go_enter Tryd.func64, Tryd.ntmps64
    repeat' ((fail_if_success at_builtin); (first | go_skip | go_guarded | go_step))
    go_ret2
    exact ⟨hout.out, Below.refl _ _⟩
set_option maxRecDepth 100000 in
set_option maxHeartbeats 2000000 in
theorem digits_any (s : ByteArray) (w : World) (hm : s.size ≤ 1000000000) : Calls Tryd.prog 66 #[.string s] w fun e w' => NumR s.data.toList e ∧ Below w.heap.size w w' := by
  have hsz := list_size s
  by_cases h0 : 0 < s.size
  · have n0 := toList_some2 h0
    have hne : s.data.toList ≠ [] := by intro h; rw [h] at hsz; simp at hsz; omega
    by_cases h1 : s.size ≤ 16
    · have h1' : ¬ (16 : Int) < (s.size : Int) := by omega
      have hh := head_at h0
      have z0 : (0 : Int) < (s.size : Int) := by omega
      by_cases h2 : 1 < s.size ∧ s[0].toNat = 48
      · have h3 : (1 : Int) < (s.size : Int) := by omega
        have h4 : ((s[0].toNat : Int) == 48) = true := by simp; omega
        have hout := numR_out (l := s.data.toList) (.inr (.inr ⟨by omega, by rw [hh]; congr 1; exact UInt8.toNat_inj.1 h2.2⟩))
        replace hout := Lib.hid hout
        clear hh
        go_enter Tryd.func66, Tryd.ntmps66
        repeat' ((fail_if_success at_builtin); (first | go_skip | go_guarded | go_step))
        go_ret2
        exact ⟨hout.out, Below.refl _ _⟩
      · have hng : ¬ (1 < s.data.toList.length ∧ s.data.toList.head? = some 48) := by
          rintro ⟨g1, g2⟩
          rw [hh] at g2
          exact h2 ⟨by omega, by rw [Option.some.inj g2]; rfl⟩
        have hl16 : s.data.toList.length ≤ 16 := by omega
        have hA := fun h v => numR_bad hne hl16 hng (v := v) h
        have hB := fun n h => numR_some hne hl16 hng (n := n) h
        obtain ⟨R, hR⟩ : ∃ R, R = digF s.data.toList 0 := ⟨_, rfl⟩
        rw [← hR] at hA hB
        replace hA := Lib.hid hA
        replace hB := Lib.hid hB
        replace hR := Lib.hid hR
        replace hh := Lib.hid hh
        replace hne := Lib.hid hne
        replace hng := Lib.hid hng
        clear hl16
        have hcase : (s.size = 1) ∨ (1 < s.size ∧ ¬ s[0].toNat = 48) := by omega
        rcases hcase with hc | ⟨hc, hc2⟩
        · have h3 : ¬ (1 : Int) < (s.size : Int) := by omega
          replace hc := Lib.hid hc
          go_enter Tryd.func66, Tryd.ntmps66
          repeat' ((fail_if_success at_builtin); (first | go_skip | go_guarded | go_step))
          go_loopw [4, 5] (fun u4 u5 wr => ∃ i a : Nat, i ≤ s.size ∧ u5 = .int .i64 (i : Int) ∧ u4 = .int .i64 (a : Int) ∧ a < 10 ^ i ∧ wr = w ∧ R = digF (s.data.toList.drop i) a) (fun _ u5 _ => s.size - (intOf u5).toNat)
          case atStart => exact ⟨0, 0, by omega, rfl, rfl, by decide, rfl, hR.out⟩
          case round =>
            obtain ⟨i, a, hi, rfl, rfl, ha, rfl, hu⟩ := hrel
            have hp : 10 ^ i ≤ 10 ^ 16 := Nat.pow_le_pow_right (by decide) (by omega)
            have hp2 : (10 : Nat) ^ 16 = 10000000000000000 := by decide
            have ha2 : a < 10000000000000000 := by omega
            by_cases hlt : i < s.size
            · have hci := str_at hlt
              rw [digF_at hci] at hu
              have hps : 10 ^ (i + 1) = 10 * 10 ^ i := by rw [Nat.pow_succ]; omega
              have i0 : (0 : Int) ≤ (i : Int) := by omega
              have i1 : (i : Int) < (s.size : Int) := by omega
              have hb9 : (s[i].toNat : Int) ≤ 255 := by have := s[i].toNat_lt; omega
              replace hci := Lib.hid hci
              replace hp2 := Lib.hid hp2
              replace hps := Lib.hid hps
              by_cases hd : isDg s[i].toNat = true
              · rw [if_pos hd] at hu
                rw [isDg_iff] at hd
                have d1 : ¬ (s[i].toNat : Int) < 48 := by omega
                have d2 : ¬ (57 : Int) < (s[i].toNat : Int) := by omega
                have e1 : IntKind.i64.wrap (10 * (a : Int)) = 10 * (a : Int) := IntWalk.i64_in _ (by omega)
                have e2 : IntKind.u8.wrap ((s[i].toNat : Int) - 48) = (s[i].toNat : Int) - 48 := by unfold IntKind.wrap; simp [IntKind.bits, IntKind.signed]; omega
                have e3 : IntKind.i64.wrap ((s[i].toNat : Int) - 48) = (s[i].toNat : Int) - 48 := IntWalk.i64_in _ (by omega)
                have e4 : IntKind.i64.wrap (10 * (a : Int) + ((s[i].toNat : Int) - 48)) = ((10 * a + (s[i].toNat - 48) : Nat) : Int) := by rw [IntWalk.i64_in _ (by omega)]; omega
                have hnew : 10 * a + (s[i].toNat - 48) < 10 ^ (i + 1) := by have := hps.out; omega
                generalize 10 * a + (s[i].toNat - 48) = a2 at *
                replace hu := Lib.hid hu
                repeat' ((fail_if_success at_builtin); (first | go_skip | go_guarded | go_step))
                go_roundw
                case rel => exact ⟨i + 1, a2, by omega, by go_num, rfl, hnew, (by trivial), hu.out⟩
                case measure => simp [intOf]; omega
              · rw [if_neg hd] at hu
                rw [Bool.not_eq_true, isDg_not] at hd
                replace hu := Lib.hid hu
                rcases hd with hd | hd
                · have d1 : (s[i].toNat : Int) < 48 := by omega
                  repeat' ((fail_if_success at_builtin); (first | go_skip | go_guarded | go_step))
                  go_ret2
                  exact ⟨hA.out hu.out 0, Below.refl _ _⟩
                · have d1 : ¬ (s[i].toNat : Int) < 48 := by omega
                  have d2 : (57 : Int) < (s[i].toNat : Int) := by omega
                  repeat' ((fail_if_success at_builtin); (first | go_skip | go_guarded | go_step))
                  go_ret2
                  exact ⟨hA.out hu.out 0, Below.refl _ _⟩
            · rw [digF_end (by rw [hsz]; omega)] at hu
              replace hu := Lib.hid hu
              replace hp2 := Lib.hid hp2
              have i1 : ¬ (i : Int) < (s.size : Int) := by omega
              repeat' ((fail_if_success at_builtin); (first | go_skip | go_guarded | go_step))
              go_ret2
              exact ⟨hB.out a hu.out, Below.refl _ _⟩
        · have h3 : (1 : Int) < (s.size : Int) := by omega
          have h4 : ((s[0].toNat : Int) == 48) = false := by simp; omega
          go_enter Tryd.func66, Tryd.ntmps66
          repeat' ((fail_if_success at_builtin); (first | go_skip | go_guarded | go_step))
          go_loopw [4, 5] (fun u4 u5 wr => ∃ i a : Nat, i ≤ s.size ∧ u5 = .int .i64 (i : Int) ∧ u4 = .int .i64 (a : Int) ∧ a < 10 ^ i ∧ wr = w ∧ R = digF (s.data.toList.drop i) a) (fun _ u5 _ => s.size - (intOf u5).toNat)
          case atStart => exact ⟨0, 0, by omega, rfl, rfl, by decide, rfl, hR.out⟩
          case round =>
            obtain ⟨i, a, hi, rfl, rfl, ha, rfl, hu⟩ := hrel
            have hp : 10 ^ i ≤ 10 ^ 16 := Nat.pow_le_pow_right (by decide) (by omega)
            have hp2 : (10 : Nat) ^ 16 = 10000000000000000 := by decide
            have ha2 : a < 10000000000000000 := by omega
            by_cases hlt : i < s.size
            · have hci := str_at hlt
              rw [digF_at hci] at hu
              have hps : 10 ^ (i + 1) = 10 * 10 ^ i := by rw [Nat.pow_succ]; omega
              have i0 : (0 : Int) ≤ (i : Int) := by omega
              have i1 : (i : Int) < (s.size : Int) := by omega
              have hb9 : (s[i].toNat : Int) ≤ 255 := by have := s[i].toNat_lt; omega
              replace hci := Lib.hid hci
              replace hp2 := Lib.hid hp2
              replace hps := Lib.hid hps
              by_cases hd : isDg s[i].toNat = true
              · rw [if_pos hd] at hu
                rw [isDg_iff] at hd
                have d1 : ¬ (s[i].toNat : Int) < 48 := by omega
                have d2 : ¬ (57 : Int) < (s[i].toNat : Int) := by omega
                have e1 : IntKind.i64.wrap (10 * (a : Int)) = 10 * (a : Int) := IntWalk.i64_in _ (by omega)
                have e2 : IntKind.u8.wrap ((s[i].toNat : Int) - 48) = (s[i].toNat : Int) - 48 := by unfold IntKind.wrap; simp [IntKind.bits, IntKind.signed]; omega
                have e3 : IntKind.i64.wrap ((s[i].toNat : Int) - 48) = (s[i].toNat : Int) - 48 := IntWalk.i64_in _ (by omega)
                have e4 : IntKind.i64.wrap (10 * (a : Int) + ((s[i].toNat : Int) - 48)) = ((10 * a + (s[i].toNat - 48) : Nat) : Int) := by rw [IntWalk.i64_in _ (by omega)]; omega
                have hnew : 10 * a + (s[i].toNat - 48) < 10 ^ (i + 1) := by have := hps.out; omega
                generalize 10 * a + (s[i].toNat - 48) = a2 at *
                replace hu := Lib.hid hu
                repeat' ((fail_if_success at_builtin); (first | go_skip | go_guarded | go_step))
                go_roundw
                case rel => exact ⟨i + 1, a2, by omega, by go_num, rfl, hnew, (by trivial), hu.out⟩
                case measure => simp [intOf]; omega
              · rw [if_neg hd] at hu
                rw [Bool.not_eq_true, isDg_not] at hd
                replace hu := Lib.hid hu
                rcases hd with hd | hd
                · have d1 : (s[i].toNat : Int) < 48 := by omega
                  repeat' ((fail_if_success at_builtin); (first | go_skip | go_guarded | go_step))
                  go_ret2
                  exact ⟨hA.out hu.out 0, Below.refl _ _⟩
                · have d1 : ¬ (s[i].toNat : Int) < 48 := by omega
                  have d2 : (57 : Int) < (s[i].toNat : Int) := by omega
                  repeat' ((fail_if_success at_builtin); (first | go_skip | go_guarded | go_step))
                  go_ret2
                  exact ⟨hA.out hu.out 0, Below.refl _ _⟩
            · rw [digF_end (by rw [hsz]; omega)] at hu
              replace hu := Lib.hid hu
              replace hp2 := Lib.hid hp2
              have i1 : ¬ (i : Int) < (s.size : Int) := by omega
              repeat' ((fail_if_success at_builtin); (first | go_skip | go_guarded | go_step))
              go_ret2
              exact ⟨hB.out a hu.out, Below.refl _ _⟩
    · have h1' : (16 : Int) < (s.size : Int) := by omega
      have hout := numR_out (l := s.data.toList) (.inr (.inl (by omega)))
      replace hout := Lib.hid hout
      go_enter Tryd.func66, Tryd.ntmps66
      repeat' ((fail_if_success at_builtin); (first | go_skip | go_guarded | go_step))
      go_ret2
      exact ⟨hout.out, Below.refl _ _⟩
  · have n0 := toList_none2 h0
    have hout := numR_out (l := s.data.toList) (.inl (List.eq_nil_of_length_eq_zero (by omega)))
    replace hout := Lib.hid hout
    go_enter Tryd.func66, Tryd.ntmps66
    repeat' ((fail_if_success at_builtin); (first | go_skip | go_guarded | go_step))
    go_ret2
    exact ⟨hout.out, Below.refl _ _⟩
end Go.Proofs.YtppbblgdcckbdaaDoor
