/- Label: decimal, chosen. -/
import Derived.Test.YtppbblgdcckbdaaDoorLbR
import Derived.Test.YtppbblgdcckbdaaDoorLbC
namespace Go.Proofs.YtppbblgdcckbdaaDoor
open Go.RowKit
theorem digs_at : ∀ k, k < 10 → (⟨#[48, 49, 50, 51, 52, 53, 54, 55, 56, 57]⟩ : ByteArray).extract k (k + 1) = strS [dgC k] := by decide
theorem strS_app (a b : List UInt8) : strS a ++ strS b = strS (a ++ b) := by
  apply ByteArray.ext
  simp
theorem cat_eq (nm d : List UInt8) : strS nm ++ (⟨#[61]⟩ : ByteArray) ++ strS d = strS (nm ++ 61 :: d) := by
  rw [show (⟨#[61]⟩ : ByteArray) = strS [61] from rfl, strS_app, strS_app, List.append_assoc]
  rfl
theorem decL_le {n : Nat} (h : n ≤ 9007199254740992) : (decL n).length ≤ 16 := decL_len 15 n (Nat.lt_of_le_of_lt h (by decide))
theorem retS {a b : ByteArray} (h : a = b) : Ending.returned (.string a) = Ending.returned (.string b) := by rw [h]
theorem digs_cat {k : Nat} (hk : k ≤ 9) (t : List UInt8) : (⟨#[48, 49, 50, 51, 52, 53, 54, 55, 56, 57]⟩ : ByteArray).extract k (k + 1) ++ strS t = strS (dgC k :: t) := by rw [digs_at k (by omega), strS_app]; rfl
set_option maxRecDepth 100000 in
set_option maxHeartbeats 2000000 in
theorem decimal_any (n : Nat) (w : World) (hn : n ≤ MAXN) : Calls Tryd.prog 52 #[.int .i64 (n : Int)] w fun e w' => e = .returned (.string (strS (decL n))) ∧ Below w.heap.size w w' := by
  have hn2 : n ≤ 9007199254740992 := hn
  clear hn
  obtain ⟨D, hD⟩ : ∃ D, D = decL n := ⟨_, rfl⟩
  have hDl : D.length ≤ 16 := by rw [hD]; exact decL_le hn2
  replace hDl := Lib.hid hDl
  replace hD := Lib.hid hD
  go_enter Tryd.func52, Tryd.ntmps52
  repeat' ((fail_if_success at_builtin); (first | go_skip | go_guarded | go_step))
  go_loopw [0, 3] (fun u0 u3 wr => ∃ (v : Nat) (t : List UInt8), v ≤ 9007199254740992 ∧ u0 = .int .i64 (v : Int) ∧ u3 = .string (strS t) ∧ Below w.heap.size w wr ∧ D = decL v ++ t) (fun u0 _ _ => (intOf u0).toNat)
  case atStart => exact ⟨n, [], hn2, rfl, rfl, Below.refl _ _, by rw [hD.out]; simp⟩
  case round =>
    obtain ⟨v, t, hv, rfl, rfl, hb, hu⟩ := hrel
    have htl : t.length ≤ 16 := by have := hDl.out; rw [hu, List.length_append] at this; omega
    have sz1 : ¬ 9223372036854775807 < 1 + t.length := by omega
    by_cases h9 : 9 < v
    · have g9 : (9 : Int) < (v : Int) := by omega
      obtain ⟨D0, hD0⟩ : ∃ D0 : Nat, D0 = v % 10 := ⟨_, rfl⟩
      obtain ⟨V1, hV1⟩ : ∃ V1 : Nat, V1 = v / 10 := ⟨_, rfl⟩
      rw [decL_big h9, ← hD0, ← hV1] at hu
      have q1 : IntKind.i64.wrap ((v : Int) / 10) = (V1 : Int) := by rw [IntWalk.i64_in _ (by omega)]; omega
      have q2 : IntKind.i64.wrap ((v : Int) % 10) = (D0 : Int) := by rw [IntWalk.i64_in _ (by omega)]; omega
      have q3 : ((v : Int).tmod 10) = (D0 : Int) := by rw [Int.tmod_eq_emod_of_nonneg (by omega)]; omega
      have q4 : ((v : Int).tdiv 10) = (V1 : Int) := by rw [Int.tdiv_eq_ediv_of_nonneg (by omega)]; omega
      have q5 : IntKind.i64.wrap (D0 : Int) = (D0 : Int) := IntWalk.i64_in _ (by omega)
      have q6 : IntKind.i64.wrap (V1 : Int) = (V1 : Int) := IntWalk.i64_in _ (by omega)
      have ra : IntKind.i64.wrap ((D0 : Int) + 1) = (D0 : Int) + 1 := IntWalk.i64_in _ (by omega)
      have ea0 : (0 : Int) ≤ (D0 : Int) := by omega
      have ea1 : (D0 : Int) + 1 ≤ 10 := by omega
      have ea2 : (0 : Int) ≤ (D0 : Int) + 1 := by omega
      have ea3 : (D0 : Int) ≤ (D0 : Int) + 1 := by omega
      have hd9 : D0 ≤ 9 := by omega
      have hV : V1 < v := by omega
      have hcat := digs_cat hd9 t
      have hu2 : D = decL V1 ++ (dgC D0 :: t) := by rw [hu]; simp
      replace hu2 := Lib.hid hu2
      replace hcat := Lib.hid hcat
      replace hD0 := Lib.hid hD0
      replace hV1 := Lib.hid hV1
      replace hV := Lib.hid hV
      clear hu
      repeat' ((fail_if_success at_builtin); (first | go_skip | go_guarded | go_step))
      go_roundw
      case rel => exact ⟨V1, dgC D0 :: t, by have := hV.out; omega, by go_num, by first | rw [hcat.out] | (rw [← hcat.out]; rfl), hb, hu2.out⟩
      case measure => have := hV.out; simp [intOf]; omega
    · have g9 : ¬ (9 : Int) < (v : Int) := by omega
      rw [decL_small (by omega)] at hu
      have ra : IntKind.i64.wrap ((v : Int) + 1) = (v : Int) + 1 := IntWalk.i64_in _ (by omega)
      have ea0 : (0 : Int) ≤ (v : Int) := by omega
      have ea1 : (v : Int) + 1 ≤ 10 := by omega
      have ea2 : (0 : Int) ≤ (v : Int) + 1 := by omega
      have ea3 : (v : Int) ≤ (v : Int) + 1 := by omega
      have hcat := digs_cat (by omega : v ≤ 9) t
      replace hu := Lib.hid hu
      replace hcat := Lib.hid hcat
      repeat' ((fail_if_success at_builtin); (first | go_skip | go_guarded | go_step))
      go_ret
      exact ⟨retS (by rw [← hD.out, hu.out]; exact hcat.out), hb⟩
set_option maxRecDepth 100000 in
set_option maxHeartbeats 4000000 in
theorem chosen_any (nm : List UInt8) (a b : Cs) (w : World) (h3 : a.lo ≤ MAXN) (h4 : a.hi ≤ MAXN) (hnm : nm.length ≤ 1000000) : Calls Tryd.prog 36 #[.string (strS nm), .agg (cval a), .agg (cval b)] w fun e w' => e = .returned (.string (strS (chL nm (chS a b)))) ∧ Below w.heap.size w w' := by
  obtain ⟨a1, a2, a3, a4⟩ := a
  obtain ⟨b1, b2, b3, b4⟩ := b
  have n3 : a3 ≤ 9007199254740992 := h3
  have n4 : a4 ≤ 9007199254740992 := h4
  clear h3 h4
  have s0 : ¬ 9223372036854775807 < nm.length + 1 := by omega
  have s3 : ¬ 9223372036854775807 < nm.length + 1 + (decL a3).length := by have := decL_le n3; omega
  have s4 : ¬ 9223372036854775807 < nm.length + 1 + (decL a4).length := by have := decL_le n4; omega
  have hb0 : Below w.heap.size w ((w.alloc (.cells #[.bool a1, .bool a2, .int .i64 (a3 : Int), .int .i64 (a4 : Int)] 53)).alloc (.cells #[.bool b1, .bool b2, .int .i64 (b3 : Int), .int .i64 (b4 : Int)] 53)) := ((Below.refl _ _).alloc (Nat.le_refl _) _).alloc (by simp) _
  cases a1
  · cases a2
    · by_cases h1 : a3 ≤ a4
      · have h1i : (a3 : Int) ≤ (a4 : Int) := by omega
        by_cases h2 : b4 < b3
        · have h2i : (b4 : Int) < (b3 : Int) := by omega
          have hv : chL nm (chS ⟨false, false, a3, a4⟩ ⟨b1, b2, b3, b4⟩) = chL nm (some (some a3)) := by congr 1; try (unfold chS; simp [h1, h2])
          replace hv := Lib.hid hv
          go_enter Tryd.func36, Tryd.ntmps36
          repeat' ((fail_if_success at_builtin); (first | go_skip | go_guarded | go_step))
          refine (decimal_any a3 _ (by omega)).mono ?_
          rintro e w3 ⟨rfl, hb3⟩
          dsimp only
          have hb4 := hb0.trans (hb3.mono hb0.size)
          repeat' ((fail_if_success at_builtin); (first | go_skip | go_guarded | go_step))
          go_ret
          exact ⟨retS (by rw [hv.out]; exact cat_eq nm _), hb4⟩
        · have h2i : ¬ (b4 : Int) < (b3 : Int) := by omega
          by_cases h3 : a3 < b3
          · have h3i : (a3 : Int) < (b3 : Int) := by omega
            have hv : chL nm (chS ⟨false, false, a3, a4⟩ ⟨b1, b2, b3, b4⟩) = chL nm (some (some a3)) := by congr 1; try (unfold chS; simp [h1, h3])
            replace hv := Lib.hid hv
            go_enter Tryd.func36, Tryd.ntmps36
            repeat' ((fail_if_success at_builtin); (first | go_skip | go_guarded | go_step))
            refine (decimal_any a3 _ (by omega)).mono ?_
            rintro e w3 ⟨rfl, hb3⟩
            dsimp only
            have hb4 := hb0.trans (hb3.mono hb0.size)
            repeat' ((fail_if_success at_builtin); (first | go_skip | go_guarded | go_step))
            go_ret
            exact ⟨retS (by rw [hv.out]; exact cat_eq nm _), hb4⟩
          · have h3i : ¬ (a3 : Int) < (b3 : Int) := by omega
            by_cases h4 : b4 < a3
            · have h4i : (b4 : Int) < (a3 : Int) := by omega
              have hv : chL nm (chS ⟨false, false, a3, a4⟩ ⟨b1, b2, b3, b4⟩) = chL nm (some (some a3)) := by congr 1; try (unfold chS; simp [h1, h4])
              replace hv := Lib.hid hv
              go_enter Tryd.func36, Tryd.ntmps36
              repeat' ((fail_if_success at_builtin); (first | go_skip | go_guarded | go_step))
              refine (decimal_any a3 _ (by omega)).mono ?_
              rintro e w3 ⟨rfl, hb3⟩
              dsimp only
              have hb4 := hb0.trans (hb3.mono hb0.size)
              repeat' ((fail_if_success at_builtin); (first | go_skip | go_guarded | go_step))
              go_ret
              exact ⟨retS (by rw [hv.out]; exact cat_eq nm _), hb4⟩
            · have h4i : ¬ (b4 : Int) < (a3 : Int) := by omega
              by_cases h5 : b4 < a4
              · have h5i : (b4 : Int) < (a4 : Int) := by omega
                have hv : chL nm (chS ⟨false, false, a3, a4⟩ ⟨b1, b2, b3, b4⟩) = chL nm (some (some a4)) := by congr 1; try (unfold chS; simp [h1, h2, h3, h4, h5])
                replace hv := Lib.hid hv
                go_enter Tryd.func36, Tryd.ntmps36
                repeat' ((fail_if_success at_builtin); (first | go_skip | go_guarded | go_step))
                refine (decimal_any a4 _ (by omega)).mono ?_
                rintro e w3 ⟨rfl, hb3⟩
                dsimp only
                have hb4 := hb0.trans (hb3.mono hb0.size)
                repeat' ((fail_if_success at_builtin); (first | go_skip | go_guarded | go_step))
                go_ret
                exact ⟨retS (by rw [hv.out]; exact cat_eq nm _), hb4⟩
              · have h5i : ¬ (b4 : Int) < (a4 : Int) := by omega
                have hv : chL nm (chS ⟨false, false, a3, a4⟩ ⟨b1, b2, b3, b4⟩) = chL nm (some (some a3)) := by congr 1; try (unfold chS; simp [h1, h2, h3, h4, h5])
                replace hv := Lib.hid hv
                go_enter Tryd.func36, Tryd.ntmps36
                repeat' ((fail_if_success at_builtin); (first | go_skip | go_guarded | go_step))
                refine (decimal_any a3 _ (by omega)).mono ?_
                rintro e w3 ⟨rfl, hb3⟩
                dsimp only
                have hb4 := hb0.trans (hb3.mono hb0.size)
                repeat' ((fail_if_success at_builtin); (first | go_skip | go_guarded | go_step))
                go_ret
                exact ⟨retS (by rw [hv.out]; exact cat_eq nm _), hb4⟩
      · have h1i : ¬ (a3 : Int) ≤ (a4 : Int) := by omega
        have hv : chL nm (chS ⟨false, false, a3, a4⟩ ⟨b1, b2, b3, b4⟩) = chL nm (some (some a3)) := by congr 1; try (unfold chS; simp [h1])
        replace hv := Lib.hid hv
        go_enter Tryd.func36, Tryd.ntmps36
        repeat' ((fail_if_success at_builtin); (first | go_skip | go_guarded | go_step))
        refine (decimal_any a3 _ (by omega)).mono ?_
        rintro e w3 ⟨rfl, hb3⟩
        dsimp only
        have hb4 := hb0.trans (hb3.mono hb0.size)
        repeat' ((fail_if_success at_builtin); (first | go_skip | go_guarded | go_step))
        go_ret
        exact ⟨retS (by rw [hv.out]; exact cat_eq nm _), hb4⟩
    · cases b2
      · have hv : chL nm (chS ⟨false, true, a3, a4⟩ ⟨b1, false, b3, b4⟩) = chL nm (some none) := by congr 1; try (unfold chS; simp)
        replace hv := Lib.hid hv
        go_enter Tryd.func36, Tryd.ntmps36
        repeat' ((fail_if_success at_builtin); (first | go_skip | go_guarded | go_step))
        go_ret
        exact ⟨retS (by rw [hv.out]; rfl), hb0⟩
      · by_cases h1 : a3 ≤ a4
        · have h1i : (a3 : Int) ≤ (a4 : Int) := by omega
          by_cases h2 : b4 < b3
          · have h2i : (b4 : Int) < (b3 : Int) := by omega
            have hv : chL nm (chS ⟨false, true, a3, a4⟩ ⟨b1, true, b3, b4⟩) = chL nm (some (some a3)) := by congr 1; try (unfold chS; simp [h1, h2])
            replace hv := Lib.hid hv
            go_enter Tryd.func36, Tryd.ntmps36
            repeat' ((fail_if_success at_builtin); (first | go_skip | go_guarded | go_step))
            refine (decimal_any a3 _ (by omega)).mono ?_
            rintro e w3 ⟨rfl, hb3⟩
            dsimp only
            have hb4 := hb0.trans (hb3.mono hb0.size)
            repeat' ((fail_if_success at_builtin); (first | go_skip | go_guarded | go_step))
            go_ret
            exact ⟨retS (by rw [hv.out]; exact cat_eq nm _), hb4⟩
          · have h2i : ¬ (b4 : Int) < (b3 : Int) := by omega
            by_cases h3 : a3 < b3
            · have h3i : (a3 : Int) < (b3 : Int) := by omega
              have hv : chL nm (chS ⟨false, true, a3, a4⟩ ⟨b1, true, b3, b4⟩) = chL nm (some (some a3)) := by congr 1; try (unfold chS; simp [h1, h3])
              replace hv := Lib.hid hv
              go_enter Tryd.func36, Tryd.ntmps36
              repeat' ((fail_if_success at_builtin); (first | go_skip | go_guarded | go_step))
              refine (decimal_any a3 _ (by omega)).mono ?_
              rintro e w3 ⟨rfl, hb3⟩
              dsimp only
              have hb4 := hb0.trans (hb3.mono hb0.size)
              repeat' ((fail_if_success at_builtin); (first | go_skip | go_guarded | go_step))
              go_ret
              exact ⟨retS (by rw [hv.out]; exact cat_eq nm _), hb4⟩
            · have h3i : ¬ (a3 : Int) < (b3 : Int) := by omega
              by_cases h4 : b4 < a3
              · have h4i : (b4 : Int) < (a3 : Int) := by omega
                have hv : chL nm (chS ⟨false, true, a3, a4⟩ ⟨b1, true, b3, b4⟩) = chL nm (some (some a3)) := by congr 1; try (unfold chS; simp [h1, h4])
                replace hv := Lib.hid hv
                go_enter Tryd.func36, Tryd.ntmps36
                repeat' ((fail_if_success at_builtin); (first | go_skip | go_guarded | go_step))
                refine (decimal_any a3 _ (by omega)).mono ?_
                rintro e w3 ⟨rfl, hb3⟩
                dsimp only
                have hb4 := hb0.trans (hb3.mono hb0.size)
                repeat' ((fail_if_success at_builtin); (first | go_skip | go_guarded | go_step))
                go_ret
                exact ⟨retS (by rw [hv.out]; exact cat_eq nm _), hb4⟩
              · have h4i : ¬ (b4 : Int) < (a3 : Int) := by omega
                by_cases h5 : b4 < a4
                · have h5i : (b4 : Int) < (a4 : Int) := by omega
                  have hv : chL nm (chS ⟨false, true, a3, a4⟩ ⟨b1, true, b3, b4⟩) = chL nm (some (some a4)) := by congr 1; try (unfold chS; simp [h1, h2, h3, h4, h5])
                  replace hv := Lib.hid hv
                  go_enter Tryd.func36, Tryd.ntmps36
                  repeat' ((fail_if_success at_builtin); (first | go_skip | go_guarded | go_step))
                  refine (decimal_any a4 _ (by omega)).mono ?_
                  rintro e w3 ⟨rfl, hb3⟩
                  dsimp only
                  have hb4 := hb0.trans (hb3.mono hb0.size)
                  repeat' ((fail_if_success at_builtin); (first | go_skip | go_guarded | go_step))
                  go_ret
                  exact ⟨retS (by rw [hv.out]; exact cat_eq nm _), hb4⟩
                · have h5i : ¬ (b4 : Int) < (a4 : Int) := by omega
                  have hv : chL nm (chS ⟨false, true, a3, a4⟩ ⟨b1, true, b3, b4⟩) = chL nm (some none) := by congr 1; try (unfold chS; simp [h1, h2, h3, h4, h5])
                  replace hv := Lib.hid hv
                  go_enter Tryd.func36, Tryd.ntmps36
                  repeat' ((fail_if_success at_builtin); (first | go_skip | go_guarded | go_step))
                  go_ret
                  exact ⟨retS (by rw [hv.out]; rfl), hb0⟩
        · have h1i : ¬ (a3 : Int) ≤ (a4 : Int) := by omega
          have hv : chL nm (chS ⟨false, true, a3, a4⟩ ⟨b1, true, b3, b4⟩) = chL nm (some none) := by congr 1; try (unfold chS; simp [h1])
          replace hv := Lib.hid hv
          go_enter Tryd.func36, Tryd.ntmps36
          repeat' ((fail_if_success at_builtin); (first | go_skip | go_guarded | go_step))
          go_ret
          exact ⟨retS (by rw [hv.out]; rfl), hb0⟩
  · cases b1
    · have hv : chL nm (chS ⟨true, a2, a3, a4⟩ ⟨false, b2, b3, b4⟩) = chL nm (none) := by congr 1; try (unfold chS; simp)
      replace hv := Lib.hid hv
      go_enter Tryd.func36, Tryd.ntmps36
      repeat' ((fail_if_success at_builtin); (first | go_skip | go_guarded | go_step))
      go_ret
      exact ⟨retS (by rw [hv.out]; rfl), hb0⟩
    · cases a2
      · by_cases h1 : a3 ≤ a4
        · have h1i : (a3 : Int) ≤ (a4 : Int) := by omega
          by_cases h2 : b4 < b3
          · have h2i : (b4 : Int) < (b3 : Int) := by omega
            have hv : chL nm (chS ⟨true, false, a3, a4⟩ ⟨true, b2, b3, b4⟩) = chL nm (some (some a3)) := by congr 1; try (unfold chS; simp [h1, h2])
            replace hv := Lib.hid hv
            go_enter Tryd.func36, Tryd.ntmps36
            repeat' ((fail_if_success at_builtin); (first | go_skip | go_guarded | go_step))
            refine (decimal_any a3 _ (by omega)).mono ?_
            rintro e w3 ⟨rfl, hb3⟩
            dsimp only
            have hb4 := hb0.trans (hb3.mono hb0.size)
            repeat' ((fail_if_success at_builtin); (first | go_skip | go_guarded | go_step))
            go_ret
            exact ⟨retS (by rw [hv.out]; exact cat_eq nm _), hb4⟩
          · have h2i : ¬ (b4 : Int) < (b3 : Int) := by omega
            by_cases h3 : a3 < b3
            · have h3i : (a3 : Int) < (b3 : Int) := by omega
              have hv : chL nm (chS ⟨true, false, a3, a4⟩ ⟨true, b2, b3, b4⟩) = chL nm (some (some a3)) := by congr 1; try (unfold chS; simp [h1, h3])
              replace hv := Lib.hid hv
              go_enter Tryd.func36, Tryd.ntmps36
              repeat' ((fail_if_success at_builtin); (first | go_skip | go_guarded | go_step))
              refine (decimal_any a3 _ (by omega)).mono ?_
              rintro e w3 ⟨rfl, hb3⟩
              dsimp only
              have hb4 := hb0.trans (hb3.mono hb0.size)
              repeat' ((fail_if_success at_builtin); (first | go_skip | go_guarded | go_step))
              go_ret
              exact ⟨retS (by rw [hv.out]; exact cat_eq nm _), hb4⟩
            · have h3i : ¬ (a3 : Int) < (b3 : Int) := by omega
              by_cases h4 : b4 < a3
              · have h4i : (b4 : Int) < (a3 : Int) := by omega
                have hv : chL nm (chS ⟨true, false, a3, a4⟩ ⟨true, b2, b3, b4⟩) = chL nm (some (some a3)) := by congr 1; try (unfold chS; simp [h1, h4])
                replace hv := Lib.hid hv
                go_enter Tryd.func36, Tryd.ntmps36
                repeat' ((fail_if_success at_builtin); (first | go_skip | go_guarded | go_step))
                refine (decimal_any a3 _ (by omega)).mono ?_
                rintro e w3 ⟨rfl, hb3⟩
                dsimp only
                have hb4 := hb0.trans (hb3.mono hb0.size)
                repeat' ((fail_if_success at_builtin); (first | go_skip | go_guarded | go_step))
                go_ret
                exact ⟨retS (by rw [hv.out]; exact cat_eq nm _), hb4⟩
              · have h4i : ¬ (b4 : Int) < (a3 : Int) := by omega
                by_cases h5 : b4 < a4
                · have h5i : (b4 : Int) < (a4 : Int) := by omega
                  have hv : chL nm (chS ⟨true, false, a3, a4⟩ ⟨true, b2, b3, b4⟩) = chL nm (some (some a4)) := by congr 1; try (unfold chS; simp [h1, h2, h3, h4, h5])
                  replace hv := Lib.hid hv
                  go_enter Tryd.func36, Tryd.ntmps36
                  repeat' ((fail_if_success at_builtin); (first | go_skip | go_guarded | go_step))
                  refine (decimal_any a4 _ (by omega)).mono ?_
                  rintro e w3 ⟨rfl, hb3⟩
                  dsimp only
                  have hb4 := hb0.trans (hb3.mono hb0.size)
                  repeat' ((fail_if_success at_builtin); (first | go_skip | go_guarded | go_step))
                  go_ret
                  exact ⟨retS (by rw [hv.out]; exact cat_eq nm _), hb4⟩
                · have h5i : ¬ (b4 : Int) < (a4 : Int) := by omega
                  have hv : chL nm (chS ⟨true, false, a3, a4⟩ ⟨true, b2, b3, b4⟩) = chL nm (none) := by congr 1; try (unfold chS; simp [h1, h2, h3, h4, h5])
                  replace hv := Lib.hid hv
                  go_enter Tryd.func36, Tryd.ntmps36
                  repeat' ((fail_if_success at_builtin); (first | go_skip | go_guarded | go_step))
                  go_ret
                  exact ⟨retS (by rw [hv.out]; rfl), hb0⟩
        · have h1i : ¬ (a3 : Int) ≤ (a4 : Int) := by omega
          have hv : chL nm (chS ⟨true, false, a3, a4⟩ ⟨true, b2, b3, b4⟩) = chL nm (none) := by congr 1; try (unfold chS; simp [h1])
          replace hv := Lib.hid hv
          go_enter Tryd.func36, Tryd.ntmps36
          repeat' ((fail_if_success at_builtin); (first | go_skip | go_guarded | go_step))
          go_ret
          exact ⟨retS (by rw [hv.out]; rfl), hb0⟩
      · cases b2
        · have hv : chL nm (chS ⟨true, true, a3, a4⟩ ⟨true, false, b3, b4⟩) = chL nm (some none) := by congr 1; try (unfold chS; simp)
          replace hv := Lib.hid hv
          go_enter Tryd.func36, Tryd.ntmps36
          repeat' ((fail_if_success at_builtin); (first | go_skip | go_guarded | go_step))
          go_ret
          exact ⟨retS (by rw [hv.out]; rfl), hb0⟩
        · by_cases h1 : a3 ≤ a4
          · have h1i : (a3 : Int) ≤ (a4 : Int) := by omega
            by_cases h2 : b4 < b3
            · have h2i : (b4 : Int) < (b3 : Int) := by omega
              have hv : chL nm (chS ⟨true, true, a3, a4⟩ ⟨true, true, b3, b4⟩) = chL nm (some (some a3)) := by congr 1; try (unfold chS; simp [h1, h2])
              replace hv := Lib.hid hv
              go_enter Tryd.func36, Tryd.ntmps36
              repeat' ((fail_if_success at_builtin); (first | go_skip | go_guarded | go_step))
              refine (decimal_any a3 _ (by omega)).mono ?_
              rintro e w3 ⟨rfl, hb3⟩
              dsimp only
              have hb4 := hb0.trans (hb3.mono hb0.size)
              repeat' ((fail_if_success at_builtin); (first | go_skip | go_guarded | go_step))
              go_ret
              exact ⟨retS (by rw [hv.out]; exact cat_eq nm _), hb4⟩
            · have h2i : ¬ (b4 : Int) < (b3 : Int) := by omega
              by_cases h3 : a3 < b3
              · have h3i : (a3 : Int) < (b3 : Int) := by omega
                have hv : chL nm (chS ⟨true, true, a3, a4⟩ ⟨true, true, b3, b4⟩) = chL nm (some (some a3)) := by congr 1; try (unfold chS; simp [h1, h3])
                replace hv := Lib.hid hv
                go_enter Tryd.func36, Tryd.ntmps36
                repeat' ((fail_if_success at_builtin); (first | go_skip | go_guarded | go_step))
                refine (decimal_any a3 _ (by omega)).mono ?_
                rintro e w3 ⟨rfl, hb3⟩
                dsimp only
                have hb4 := hb0.trans (hb3.mono hb0.size)
                repeat' ((fail_if_success at_builtin); (first | go_skip | go_guarded | go_step))
                go_ret
                exact ⟨retS (by rw [hv.out]; exact cat_eq nm _), hb4⟩
              · have h3i : ¬ (a3 : Int) < (b3 : Int) := by omega
                by_cases h4 : b4 < a3
                · have h4i : (b4 : Int) < (a3 : Int) := by omega
                  have hv : chL nm (chS ⟨true, true, a3, a4⟩ ⟨true, true, b3, b4⟩) = chL nm (some (some a3)) := by congr 1; try (unfold chS; simp [h1, h4])
                  replace hv := Lib.hid hv
                  go_enter Tryd.func36, Tryd.ntmps36
                  repeat' ((fail_if_success at_builtin); (first | go_skip | go_guarded | go_step))
                  refine (decimal_any a3 _ (by omega)).mono ?_
                  rintro e w3 ⟨rfl, hb3⟩
                  dsimp only
                  have hb4 := hb0.trans (hb3.mono hb0.size)
                  repeat' ((fail_if_success at_builtin); (first | go_skip | go_guarded | go_step))
                  go_ret
                  exact ⟨retS (by rw [hv.out]; exact cat_eq nm _), hb4⟩
                · have h4i : ¬ (b4 : Int) < (a3 : Int) := by omega
                  by_cases h5 : b4 < a4
                  · have h5i : (b4 : Int) < (a4 : Int) := by omega
                    have hv : chL nm (chS ⟨true, true, a3, a4⟩ ⟨true, true, b3, b4⟩) = chL nm (some (some a4)) := by congr 1; try (unfold chS; simp [h1, h2, h3, h4, h5])
                    replace hv := Lib.hid hv
                    go_enter Tryd.func36, Tryd.ntmps36
                    repeat' ((fail_if_success at_builtin); (first | go_skip | go_guarded | go_step))
                    refine (decimal_any a4 _ (by omega)).mono ?_
                    rintro e w3 ⟨rfl, hb3⟩
                    dsimp only
                    have hb4 := hb0.trans (hb3.mono hb0.size)
                    repeat' ((fail_if_success at_builtin); (first | go_skip | go_guarded | go_step))
                    go_ret
                    exact ⟨retS (by rw [hv.out]; exact cat_eq nm _), hb4⟩
                  · have h5i : ¬ (b4 : Int) < (a4 : Int) := by omega
                    have hv : chL nm (chS ⟨true, true, a3, a4⟩ ⟨true, true, b3, b4⟩) = chL nm (none) := by congr 1; try (unfold chS; simp [h1, h2, h3, h4, h5])
                    replace hv := Lib.hid hv
                    go_enter Tryd.func36, Tryd.ntmps36
                    repeat' ((fail_if_success at_builtin); (first | go_skip | go_guarded | go_step))
                    go_ret
                    exact ⟨retS (by rw [hv.out]; rfl), hb0⟩
          · have h1i : ¬ (a3 : Int) ≤ (a4 : Int) := by omega
            have hv : chL nm (chS ⟨true, true, a3, a4⟩ ⟨true, true, b3, b4⟩) = chL nm (none) := by congr 1; try (unfold chS; simp [h1])
            replace hv := Lib.hid hv
            go_enter Tryd.func36, Tryd.ntmps36
            repeat' ((fail_if_success at_builtin); (first | go_skip | go_guarded | go_step))
            go_ret
            exact ⟨retS (by rw [hv.out]; rfl), hb0⟩
end Go.Proofs.YtppbblgdcckbdaaDoor
