/- The document's patterns: the small walks. -/
import Derived.Test.YtgloblokkejgmaaDoorGrP
namespace Go.Proofs.YtgloblokkejgmaaDoor
open Go.RowKit
def lastN (l : List UInt8) (k : Nat) : Nat := (l[k]?.map UInt8.toNat).getD 0
theorem lastN_lt (l : List UInt8) (k : Nat) : lastN l k < 256 := by
  unfold lastN
  cases l[k]? with
  | none => simp
  | some c => simpa using c.toNat_lt
set_option maxRecDepth 100000 in
theorem last_any (s : ByteArray) (k : Nat) (w : World) (hm : s.size ≤ 9223372036854775807) : Calls Tryd.prog 70 #[.string s, .int .i64 (k : Int)] w fun e w' => e = .returned (.int .u8 (lastN s.data.toList k : Int)) ∧ w' = w := by
  have hsz : s.data.toList.length = s.size := by simp
  by_cases h : k < s.size
  · have hat := str_at h
    have hN : lastN s.data.toList k = s[k].toNat := by unfold lastN; rw [hat]; rfl
    have k0 : (0 : Int) ≤ (k : Int) := by omega
    have k1 : (k : Int) < (s.size : Int) := by omega
    rw [hN]
    clear hat hN
    go_enter Tryd.func70, Tryd.ntmps70
    repeat' ((fail_if_success at_builtin); (first | go_skip | go_guarded | go_step))
    go_ret
    exact ⟨rfl, rfl⟩
  · have hN : lastN s.data.toList k = 0 := by unfold lastN; rw [List.getElem?_eq_none (by omega)]; rfl
    have k1 : ¬ (k : Int) < (s.size : Int) := by omega
    rw [hN]
    clear hN
    go_enter Tryd.func70, Tryd.ntmps70
    repeat' ((fail_if_success at_builtin); (first | go_skip | go_guarded | go_step))
    go_ret
    exact ⟨rfl, rfl⟩
/-- what member tells -/
def RetM (l : List UInt8) (k : Nat) (e : Ending) : Prop := ∃ (x n : Nat) (ok : Bool), e = .returned (.tuple #[.int .u8 (x : Int), .int .i64 (n : Int), .bool ok]) ∧ x < 256 ∧ (charAt l k = none → ok = false) ∧ (∀ y m, charAt l k = some (y, m) → x = y ∧ n = k + m ∧ ok = true)
set_option maxRecDepth 100000 in
theorem member_any (s : ByteArray) (k : Nat) (w : World) (hm : s.size ≤ 1000000) (hk : k ≤ 1000000) : Calls Tryd.prog 100 #[.string s, .int .i64 (k : Int)] w fun e w' => RetM s.data.toList k e ∧ w' = w := by
  have hsz : s.data.toList.length = s.size := by simp
  by_cases h : k < s.size
  · have hat := str_at h
    have k0 : (0 : Int) ≤ (k : Int) := by omega
    have k1 : (k : Int) < (s.size : Int) := by omega
    have k2 : ¬ (s.size : Int) ≤ (k : Int) := by omega
    by_cases h92 : s[k].toNat = 92
    · have q0 : (s[k].toNat : Int) = 92 := by omega
      have CL := fun w' => last_any s (k + 1) w' (by omega)
      have hch : charAt s.data.toList k = if k + 1 < s.size then some (lastN s.data.toList (k + 1), 2) else none := by
        unfold charAt
        rw [hat]
        dsimp only
        rw [if_neg (by omega), if_neg (by omega)]
        by_cases h1 : k + 1 < s.size
        · rw [if_pos h1]
          have h2 := str_at h1
          unfold lastN
          rw [h2]
          rfl
        · rw [if_neg h1, List.getElem?_eq_none (by omega)]
      have hx := lastN_lt s.data.toList (k + 1)
      generalize lastN s.data.toList (k + 1) = x at *
      by_cases h1 : k + 1 < s.size
      · rw [if_pos h1] at hch
        have k3 : (k : Int) + 1 < (s.size : Int) := by omega
        replace hch := Lib.hid hch
        replace CL := Lib.hid CL
        clear hat h1
        go_enter Tryd.func100, Tryd.ntmps100
        repeat' ((fail_if_success at_builtin); (first | go_skip | go_guarded | go_step))
        refine (CL.out _).mono ?_
        rintro e w1 ⟨rfl, rfl⟩
        dsimp only
        repeat' ((fail_if_success at_builtin); (first | go_skip | go_guarded | go_step))
        refine bodyPost_ret (v := .tuple #[.int .u8 (x : Int), .int .i64 ((k : Int) + 1 + 1), .bool true]) (by simp only [results, Tryd.results100]; go_simp; try rfl) rfl ?_
        exact ⟨⟨x, k + 2, true, by go_num, hx, fun e => (by rw [hch.out] at e; cases e), fun y m e => (by rw [hch.out] at e; cases e; exact ⟨rfl, rfl, rfl⟩)⟩, rfl⟩
      · rw [if_neg h1] at hch
        have k3 : ¬ (k : Int) + 1 < (s.size : Int) := by omega
        replace hch := Lib.hid hch
        replace CL := Lib.hid CL
        clear hat h1
        go_enter Tryd.func100, Tryd.ntmps100
        repeat' ((fail_if_success at_builtin); (first | go_skip | go_guarded | go_step))
        refine (CL.out _).mono ?_
        rintro e w1 ⟨rfl, rfl⟩
        dsimp only
        repeat' ((fail_if_success at_builtin); (first | go_skip | go_guarded | go_step))
        refine bodyPost_ret (v := .tuple #[.int .u8 (x : Int), .int .i64 ((k : Int) + 1 + 1), .bool false]) (by simp only [results, Tryd.results100]; go_simp; try rfl) rfl ?_
        exact ⟨⟨x, k + 2, false, by go_num, hx, fun _ => rfl, fun y m e => (by rw [hch.out] at e; cases e)⟩, rfl⟩
    · have q0 : ¬ ((s[k].toNat : Int) = 92) := by omega
      have q1 : ((s[k].toNat : Int) == 92) = false := by simpa using q0
      by_cases h93 : s[k].toNat = 93
      · have q2 : (s[k].toNat : Int) = 93 := by omega
        have hch : charAt s.data.toList k = none := by unfold charAt; rw [hat]; dsimp only; rw [if_pos (.inl h93)]
        replace hch := Lib.hid hch
        clear hat q0 q1 h92
        go_enter Tryd.func100, Tryd.ntmps100
        repeat' ((fail_if_success at_builtin); (first | go_skip | go_guarded | go_step))
        refine bodyPost_ret (v := .tuple #[.int .u8 0, .int .i64 (k : Int), .bool false]) (by simp only [results, Tryd.results100]; go_simp; try rfl) rfl ?_
        exact ⟨⟨0, k, false, rfl, by omega, fun _ => rfl, fun y m e => (by rw [hch.out] at e; cases e)⟩, rfl⟩
      · have q2 : ¬ ((s[k].toNat : Int) = 93) := by omega
        have q3 : ((s[k].toNat : Int) == 93) = false := by simpa using q2
        by_cases h45 : s[k].toNat = 45
        · have q4 : (s[k].toNat : Int) = 45 := by omega
          have hch : charAt s.data.toList k = none := by unfold charAt; rw [hat]; dsimp only; rw [if_pos (.inr h45)]
          replace hch := Lib.hid hch
          clear hat q0 q1 q2 q3 h92 h93
          go_enter Tryd.func100, Tryd.ntmps100
          repeat' ((fail_if_success at_builtin); (first | go_skip | go_guarded | go_step))
          refine bodyPost_ret (v := .tuple #[.int .u8 0, .int .i64 (k : Int), .bool false]) (by simp only [results, Tryd.results100]; go_simp; try rfl) rfl ?_
          exact ⟨⟨0, k, false, rfl, by omega, fun _ => rfl, fun y m e => (by rw [hch.out] at e; cases e)⟩, rfl⟩
        · have q4 : ¬ ((s[k].toNat : Int) = 45) := by omega
          have q5 : ((s[k].toNat : Int) == 45) = false := by simpa using q4
          have hch : charAt s.data.toList k = some (s[k].toNat, 1) := by unfold charAt; rw [hat]; dsimp only; rw [if_neg (by omega), if_pos h92]
          have hx : s[k].toNat < 256 := s[k].toNat_lt
          replace hch := Lib.hid hch
          clear hat
          go_enter Tryd.func100, Tryd.ntmps100
          repeat' ((fail_if_success at_builtin); (first | go_skip | go_guarded | go_step))
          refine bodyPost_ret (v := .tuple #[.int .u8 (s[k].toNat : Int), .int .i64 ((k : Int) + 1), .bool true]) (by simp only [results, Tryd.results100]; go_simp; try rfl) rfl ?_
          exact ⟨⟨s[k].toNat, k + 1, true, by go_num, hx, fun e => (by rw [hch.out] at e; cases e), fun y m e => (by rw [hch.out] at e; cases e; exact ⟨rfl, rfl, rfl⟩)⟩, rfl⟩
  · have hch : charAt s.data.toList k = none := char_out (by omega)
    have k1 : ¬ (k : Int) < (s.size : Int) := by omega
    have k2 : (s.size : Int) ≤ (k : Int) := by omega
    replace hch := Lib.hid hch
    go_enter Tryd.func100, Tryd.ntmps100
    repeat' ((fail_if_success at_builtin); (first | go_skip | go_guarded | go_step))
    refine bodyPost_ret (v := .tuple #[.int .u8 0, .int .i64 (k : Int), .bool false]) (by simp only [results, Tryd.results100]; go_simp; try rfl) rfl ?_
    exact ⟨⟨0, k, false, rfl, by omega, fun _ => rfl, fun y m e => (by rw [hch.out] at e; cases e)⟩, rfl⟩
abbrev icells (l : List (Nat × Nat)) : List Value := l.flatMap fun x => [.int .u8 (x.1 : Int), .int .u8 (x.2 : Int)]
set_option maxRecDepth 100000 in
theorem many_any (k : Nat) (it : List (Nat × Nat)) (A : Option Addr) (n c : Nat) (w : World) : Calls Tryd.prog 95 #[.agg #[.int .i64 (k : Int), .slice A n c]] w fun e w' => e = .returned (.bool (manyR ⟨k, it⟩)) ∧ Below w.heap.size w w' := by
  have hb := (Below.refl w.heap.size w).alloc (Nat.le_refl _) (.cells #[.int .i64 (k : Int), .slice A n c] 117)
  by_cases h1 : k = 1
  · subst h1
    go_enter Tryd.func95, Tryd.ntmps95
    repeat' ((fail_if_success at_builtin); (first | go_skip | go_guarded | go_step))
    go_ret
    exact ⟨rfl, hb⟩
  · have q1 : ((k : Int) == 1) = false := by simpa using (by omega : ¬ (k : Int) = 1)
    by_cases h2 : k = 2
    · subst h2
      go_enter Tryd.func95, Tryd.ntmps95
      repeat' ((fail_if_success at_builtin); (first | go_skip | go_guarded | go_step))
      go_ret
      exact ⟨rfl, hb⟩
    · have q2 : ((k : Int) == 2) = false := by simpa using (by omega : ¬ (k : Int) = 2)
      have hN : manyR ⟨k, it⟩ = false := by unfold manyR; simp [h1, h2]
      rw [hN]
      clear hN h1 h2
      go_enter Tryd.func95, Tryd.ntmps95
      repeat' ((fail_if_success at_builtin); (first | go_skip | go_guarded | go_step))
      go_ret
      exact ⟨rfl, hb⟩
theorem inI_cons {l : List (Nat × Nat)} {i c : Nat} (h : i < l.length) : inI (l.drop i) c = ((decide (l[i].1 ≤ c) && decide (c ≤ l[i].2)) || inI (l.drop (i + 1)) c) := by
  rw [List.drop_eq_getElem_cons h]
  rfl
set_option maxRecDepth 100000 in
set_option maxHeartbeats 1000000 in
theorem fits_any (k : Nat) (it : List (Nat × Nat)) (ch : Nat) (A : Option Addr) (c : Nat) (w : World) (hs : Seq w w.heap.size 2 A it.length (icells it)) (hl : it.length ≤ 1000000) :
    Calls Tryd.prog 96 #[.agg #[.int .i64 (k : Int), .slice A it.length c], .int .u8 (ch : Int)] w fun e w' => e = .returned (.bool (fitR ⟨k, it⟩ ch)) ∧ Below w.heap.size w w' := by
  have hb := (Below.refl w.heap.size w).alloc (Nat.le_refl _) (.cells #[.int .i64 (k : Int), .slice A it.length c] 117)
  by_cases h1 : k = 1
  · subst h1
    go_enter Tryd.func96, Tryd.ntmps96
    repeat' ((fail_if_success at_builtin); (first | go_skip | go_guarded | go_step))
    go_ret
    exact ⟨rfl, hb⟩
  · have q1 : ((k : Int) == 1) = false := by simpa using (by omega : ¬ (k : Int) = 1)
    by_cases h47 : k ≠ 5 ∧ ch = 47
    · obtain ⟨h5, rfl⟩ := h47
      have hN : fitR ⟨k, it⟩ 47 = false := by unfold fitR; rw [if_neg h1, if_pos ⟨h5, rfl⟩]
      have q5 : ((k : Int) != 5) = true := by simpa using (by omega : ¬ (k : Int) = 5)
      rw [hN]
      clear hN h1 h5
      go_enter Tryd.func96, Tryd.ntmps96
      repeat' ((fail_if_success at_builtin); (first | go_skip | go_guarded | go_step))
      go_ret
      exact ⟨rfl, hb⟩
    · by_cases h23 : k = 2 ∨ k = 3
      · have hN : fitR ⟨k, it⟩ ch = true := by unfold fitR; rw [if_neg h1, if_neg h47, if_pos h23]
        have hne : ¬ ch = 47 := fun e => h47 ⟨by omega, e⟩
        have q47 : ((ch : Int) == 47) = false := by simpa using (by omega : ¬ (ch : Int) = 47)
        rw [hN]
        clear hN h1 h47
        rcases h23 with rfl | rfl
        all_goals
          go_enter Tryd.func96, Tryd.ntmps96
          repeat' ((fail_if_success at_builtin); (first | go_skip | go_guarded | go_step))
          go_ret
          exact ⟨rfl, hb⟩
      · by_cases h5 : k = 5
        · have q5 : ((k : Int) != 5) = false := by simp [h5]
          have hN : fitR ⟨k, it⟩ ch = inI it ch := by unfold fitR; rw [if_neg h1, if_neg h47, if_neg (by omega)]
          have q2 : ((k : Int) == 2) = false := by simpa using (by omega : ¬ (k : Int) = 2)
          have q3 : ((k : Int) == 3) = false := by simpa using (by omega : ¬ (k : Int) = 3)
          rw [hN]
          clear hN h1 h47 h23 h5
          have hz : w.heap.size < (w.alloc (.cells #[.int .i64 (k : Int), .slice A it.length c] 117)).heap.size := by simp
          have d0 : (w.alloc (.cells #[.int .i64 (k : Int), .slice A it.length c] 117)).cell? ⟨w.heap.size, 0, none⟩ = some (.int .i64 (k : Int)) := by simp [go_sem]
          have d1 : (w.alloc (.cells #[.int .i64 (k : Int), .slice A it.length c] 117)).cell? ⟨w.heap.size, 1, none⟩ = some (.slice A it.length c) := by simp [go_sem]
          have hs1 := hs.below hb
          go_enter Tryd.func96, Tryd.ntmps96
          repeat' ((fail_if_success at_builtin); (first | go_skip | go_guarded | go_step))
          generalize w.alloc (.cells #[.int .i64 (k : Int), .slice A it.length c] 117) = w1 at *
          go_loopw [5] (fun u5 wr => ∃ i : Nat, i ≤ it.length ∧ u5 = .int .i64 (i : Int) ∧ wr = w1 ∧ inI it ch = inI (it.drop i) ch) (fun u5 _ => it.length - (intOf u5).toNat)
          case atStart => exact ⟨0, by omega, rfl, rfl, rfl⟩
          case round =>
            obtain ⟨i, hi, rfl, rfl, hall⟩ := hrel
            by_cases hlt : i < it.length
            · obtain ⟨b, o, rfl, hbB, hcell⟩ := hs1.2 (by omega)
              have hci : it[i]? = some it[i] := List.getElem?_eq_getElem hlt
              have fl : ∀ j u, ([.int .u8 (it[i].1 : Int), .int .u8 (it[i].2 : Int)] : List Value)[j]? = some u → (icells it)[i * 2 + j]? = some u := fun j u hu => flatE_at (f := fun x : Nat × Nat => [.int .u8 (x.1 : Int), .int .u8 (x.2 : Int)]) (sz := 2) (fun _ => rfl) hci hu
              have e0 := hcell (i * 2) _ (fl 0 _ rfl)
              have e1 := (congrArg (fun q => wr.cell? ⟨b, q, none⟩) (by omega : o + i * 2 + 1 = o + (i * 2 + 1))).trans (hcell (i * 2 + 1) _ (fl 1 _ rfl))
              rw [inI_cons hlt] at hall
              have i0 : (0 : Int) ≤ (i : Int) := by omega
              have i1 : (i : Int) < (it.length : Int) := by omega
              generalize it[i] = x at *
              obtain ⟨lo, hi2⟩ := x
              dsimp only at e0 e1 hall
              clear hcell hci fl
              by_cases ha : lo ≤ ch
              · have ha2 : (lo : Int) ≤ (ch : Int) := by omega
                by_cases hc : ch ≤ hi2
                · have hc2 : (ch : Int) ≤ (hi2 : Int) := by omega
                  rw [decide_eq_true ha, decide_eq_true hc, Bool.true_and, Bool.true_or] at hall
                  replace hall := Lib.hid hall
                  clear ha hc
                  repeat' ((fail_if_success at_builtin); (first | go_skip | go_guarded | go_step))
                  go_ret
                  exact ⟨by rw [hall.out]; rfl, hb⟩
                · have hc2 : ¬ (ch : Int) ≤ (hi2 : Int) := by omega
                  rw [decide_eq_false hc, Bool.and_false, Bool.false_or] at hall
                  replace hall := Lib.hid hall
                  clear ha hc
                  repeat' ((fail_if_success at_builtin); (first | go_skip | go_guarded | go_step))
                  go_roundw
                  case rel => exact ⟨i + 1, by omega, by go_num, trivial, hall.out⟩
                  case measure => simp [intOf]; omega
              · have ha2 : ¬ (lo : Int) ≤ (ch : Int) := by omega
                rw [decide_eq_false ha, Bool.false_and, Bool.false_or] at hall
                replace hall := Lib.hid hall
                clear ha
                repeat' ((fail_if_success at_builtin); (first | go_skip | go_guarded | go_step))
                go_roundw
                case rel => exact ⟨i + 1, by omega, by go_num, trivial, hall.out⟩
                case measure => simp [intOf]; omega
            · rw [List.drop_of_length_le (by omega)] at hall
              have i1 : ¬ ((i : Int) < (it.length : Int)) := by omega
              replace hall := Lib.hid hall
              repeat' ((fail_if_success at_builtin); (first | go_skip | go_guarded | go_step))
              go_ret
              exact ⟨by rw [hall.out]; rfl, hb⟩
        · have q5 : ((k : Int) != 5) = true := by simpa using (by omega : ¬ (k : Int) = 5)
          have q47 : ((ch : Int) == 47) = false := by simpa using (by omega : ¬ (ch : Int) = 47)
          have hN : fitR ⟨k, it⟩ ch = inI it ch := by unfold fitR; rw [if_neg h1, if_neg h47, if_neg (by omega)]
          have q2 : ((k : Int) == 2) = false := by simpa using (by omega : ¬ (k : Int) = 2)
          have q3 : ((k : Int) == 3) = false := by simpa using (by omega : ¬ (k : Int) = 3)
          rw [hN]
          clear hN h1 h47 h23 h5
          have hz : w.heap.size < (w.alloc (.cells #[.int .i64 (k : Int), .slice A it.length c] 117)).heap.size := by simp
          have d0 : (w.alloc (.cells #[.int .i64 (k : Int), .slice A it.length c] 117)).cell? ⟨w.heap.size, 0, none⟩ = some (.int .i64 (k : Int)) := by simp [go_sem]
          have d1 : (w.alloc (.cells #[.int .i64 (k : Int), .slice A it.length c] 117)).cell? ⟨w.heap.size, 1, none⟩ = some (.slice A it.length c) := by simp [go_sem]
          have hs1 := hs.below hb
          go_enter Tryd.func96, Tryd.ntmps96
          repeat' ((fail_if_success at_builtin); (first | go_skip | go_guarded | go_step))
          generalize w.alloc (.cells #[.int .i64 (k : Int), .slice A it.length c] 117) = w1 at *
          go_loopw [5] (fun u5 wr => ∃ i : Nat, i ≤ it.length ∧ u5 = .int .i64 (i : Int) ∧ wr = w1 ∧ inI it ch = inI (it.drop i) ch) (fun u5 _ => it.length - (intOf u5).toNat)
          case atStart => exact ⟨0, by omega, rfl, rfl, rfl⟩
          case round =>
            obtain ⟨i, hi, rfl, rfl, hall⟩ := hrel
            by_cases hlt : i < it.length
            · obtain ⟨b, o, rfl, hbB, hcell⟩ := hs1.2 (by omega)
              have hci : it[i]? = some it[i] := List.getElem?_eq_getElem hlt
              have fl : ∀ j u, ([.int .u8 (it[i].1 : Int), .int .u8 (it[i].2 : Int)] : List Value)[j]? = some u → (icells it)[i * 2 + j]? = some u := fun j u hu => flatE_at (f := fun x : Nat × Nat => [.int .u8 (x.1 : Int), .int .u8 (x.2 : Int)]) (sz := 2) (fun _ => rfl) hci hu
              have e0 := hcell (i * 2) _ (fl 0 _ rfl)
              have e1 := (congrArg (fun q => wr.cell? ⟨b, q, none⟩) (by omega : o + i * 2 + 1 = o + (i * 2 + 1))).trans (hcell (i * 2 + 1) _ (fl 1 _ rfl))
              rw [inI_cons hlt] at hall
              have i0 : (0 : Int) ≤ (i : Int) := by omega
              have i1 : (i : Int) < (it.length : Int) := by omega
              generalize it[i] = x at *
              obtain ⟨lo, hi2⟩ := x
              dsimp only at e0 e1 hall
              clear hcell hci fl
              by_cases ha : lo ≤ ch
              · have ha2 : (lo : Int) ≤ (ch : Int) := by omega
                by_cases hc : ch ≤ hi2
                · have hc2 : (ch : Int) ≤ (hi2 : Int) := by omega
                  rw [decide_eq_true ha, decide_eq_true hc, Bool.true_and, Bool.true_or] at hall
                  replace hall := Lib.hid hall
                  clear ha hc
                  repeat' ((fail_if_success at_builtin); (first | go_skip | go_guarded | go_step))
                  go_ret
                  exact ⟨by rw [hall.out]; rfl, hb⟩
                · have hc2 : ¬ (ch : Int) ≤ (hi2 : Int) := by omega
                  rw [decide_eq_false hc, Bool.and_false, Bool.false_or] at hall
                  replace hall := Lib.hid hall
                  clear ha hc
                  repeat' ((fail_if_success at_builtin); (first | go_skip | go_guarded | go_step))
                  go_roundw
                  case rel => exact ⟨i + 1, by omega, by go_num, trivial, hall.out⟩
                  case measure => simp [intOf]; omega
              · have ha2 : ¬ (lo : Int) ≤ (ch : Int) := by omega
                rw [decide_eq_false ha, Bool.false_and, Bool.false_or] at hall
                replace hall := Lib.hid hall
                clear ha
                repeat' ((fail_if_success at_builtin); (first | go_skip | go_guarded | go_step))
                go_roundw
                case rel => exact ⟨i + 1, by omega, by go_num, trivial, hall.out⟩
                case measure => simp [intOf]; omega
            · rw [List.drop_of_length_le (by omega)] at hall
              have i1 : ¬ ((i : Int) < (it.length : Int)) := by omega
              replace hall := Lib.hid hall
              repeat' ((fail_if_success at_builtin); (first | go_skip | go_guarded | go_step))
              go_ret
              exact ⟨by rw [hall.out]; rfl, hb⟩
end Go.Proofs.YtgloblokkejgmaaDoor
