/- TakeUint of both: contracts. -/
import Derived.Test.YtjipnomokggcfaaPut
import Derived.Test.YtjipnomokggcfaaOctPure
namespace Go.Proofs.Ytjipnomokggcfaa
open Go.RowKit
def trip (k3 : IntKind) (t : Nat × Nat × Nat) : Ending := .returned (.tuple #[.int .u64 (t.1 : Int), .int .i64 (t.2.1 : Int), .int k3 (t.2.2 : Int)])
theorem trip_of {k3 : IntKind} {t : Nat × Nat × Nat} {a b c : Int} {x y z : Nat} (h : t = (x, y, z)) (h1 : a = x) (h2 : b = y) (h3 : c = z) : Ending.returned (.tuple #[.int .u64 a, .int .i64 b, .int k3 c]) = trip k3 t := by
  subst h h1 h2 h3; rfl
set_option maxRecDepth 100000 in
set_option maxHeartbeats 400000 in
theorem takeUint_any (A : Option Addr) (n c : Nat) (l : List UInt8) (w : World) (B : Nat) (hl : l.length = n) (hm : n ≤ 1000000000) (hs : Seq w B 1 A n (l.map bv)) :
    Calls Try.prog 19 #[.slice A n c] w fun e w' => e = trip .i64 (takeU l) ∧ w = w' := by
  go_enter Try.func19, Try.ntmps19
  repeat' (first | go_skip | go_guarded | go_step)
  go_loop [5, 10] (fun u5 u10 => ∃ (k acc : Nat), k ≤ n ∧ k ≤ 9 ∧ acc < 128 ^ k ∧ u10 = .int .i64 (k : Int) ∧ u5 = .int .u64 (acc : Int) ∧ tu k acc (l.drop k) = takeU l) (fun _ u10 => n - (intOf u10).toNat)
  case atStart => exact ⟨0, 0, by omega, by omega, by simp, rfl, rfl, rfl⟩
  case round =>
    obtain ⟨k, acc, hk, hk9, hacc, rfl, rfl, htu⟩ := hrel
    have Htu := Lib.hid htu; clear htu
    have Hacc := Lib.hid hacc; clear hacc
    by_cases hlt : k < n
    · obtain ⟨b, o, rfl, hb, hc⟩ := hs.2 (by omega)
      obtain ⟨x, hx⟩ : ∃ x, l[k]? = some x := ⟨l[k]'(by omega), List.getElem?_eq_getElem (by omega)⟩
      have hcell := hc k (bv x) (by simp [hx])
      have Hx := Lib.hid hx; clear hx
      clear hc
      have hx256 : (x.toNat : Int) < 256 := by have := x.toNat_lt; omega
      have hd : (decide ((k : Int) < n)) = true := by simpa using hlt
      have hor := fun h9 => or_group (x := x.toNat) hk9 Hacc.out (by omega) h9
      have Hor := Lib.hid hor; clear hor
      have H9 : Hid (k = 9 ↔ ((k : Int) == 9) = true) := by unfold Hid; simp; omega
      have H0 : Hid (x.toNat = 0 ↔ ((x.toNat : Int) == 0) = true) := by unfold Hid; simp
      rcases Bool.eq_false_or_eq_true ((k : Int) == 9) with e9 | e9 <;> rcases Bool.eq_false_or_eq_true ((x.toNat : Int) == 0) with e0 | e0
      all_goals
        have h9 := H9.out
        have h0 := H0.out
        rw [e9] at h9
        rw [e0] at h0
        clear H9 H0
        have H9 := Lib.hid h9; clear h9
        have H0 := Lib.hid h0; clear h0
        repeat' (first | go_skip | go_guarded | go_step)
      all_goals have h9 := H9.out
      all_goals have h0 := H0.out
      all_goals simp only [iff_true, Bool.false_eq_true, iff_false] at h9 h0
      all_goals first
        | (go_ret3; exact ⟨trip_of (Htu.out.symm.trans (by subst h9; exact tu_nine Hx.out (by omega))) rfl rfl rfl, rfl⟩)
        | (go_ret3; exact ⟨trip_of (Htu.out.symm.trans (tu_zero Hx.out h0 (by omega))) rfl rfl rfl, rfl⟩)
        | (go_ret3; refine ⟨trip_of (Htu.out.symm.trans (tu_last Hx.out (by omega) (by omega) (by omega))) ?_ rfl rfl, rfl⟩; rw [Hor.out (by omega)]; congr 2; rw [Nat.mod_eq_of_lt (by omega)])
        | skip
      all_goals
        have hge : (128 : Int) ≤ (x.toNat : Int) := by assumption
        first | (exfalso; omega) | skip
      all_goals
        have hge : (128 : Int) ≤ (x.toNat : Int) := by assumption
        go_round
        case rel =>
          refine ⟨k + 1, acc + (x.toNat - 128) * 128 ^ k, by omega, by omega, acc_lt Hacc.out (by omega), by go_num, ?_, ?_⟩
          · rw [Hor.out (by omega), show x.toNat % 128 = x.toNat - 128 from by omega]
          · rw [← Htu.out]; exact (tu_more Hx.out h9 (by omega)).symm
        case measure => simp [intOf]; omega
    · repeat' (first | go_skip | go_guarded | go_step)
      go_ret3
      exact ⟨trip_of (Htu.out.symm.trans (tu_end (by omega))) rfl rfl rfl, rfl⟩

set_option maxRecDepth 100000 in
set_option maxHeartbeats 400000 in
theorem rTakeUint_any (A : Option Addr) (n c : Nat) (l : List UInt8) (w : World) (B : Nat) (hl : l.length = n) (hm : n ≤ 1000000000) (hs : Seq w B 1 A n (l.map bv)) :
    Calls Try.prog 24 #[.slice A n c] w fun e w' => e = trip .i64 (takeU l) ∧ w = w' := by
  go_enter Try.func24, Try.ntmps24
  repeat' (first | go_skip | go_guarded | go_step)
  go_loop [5, 6, 7] (fun u5 u6 u7 => ∃ (k acc p : Nat), k ≤ n ∧ k ≤ 9 ∧ acc < 128 ^ k ∧ p = 128 ^ k ∧ u7 = .int .i64 (k : Int) ∧ u5 = .int .u64 (acc : Int) ∧ u6 = .int .u64 (p : Int) ∧ tu k acc (l.drop k) = takeU l) (fun _ _ u7 => n - (intOf u7).toNat)
  case atStart => exact ⟨0, 0, 1, by omega, by omega, by simp, by simp, rfl, rfl, rfl, rfl⟩
  case round =>
    obtain ⟨k, acc, p, hk, hk9, hacc, hp, rfl, rfl, rfl, htu⟩ := hrel
    have Htu := Lib.hid htu; clear htu
    have Hacc := Lib.hid hacc; clear hacc
    have Hp := Lib.hid hp; clear hp
    by_cases hlt : k < n
    · obtain ⟨b, o, rfl, hb, hc⟩ := hs.2 (by omega)
      obtain ⟨x, hx⟩ : ∃ x, l[k]? = some x := ⟨l[k]'(by omega), List.getElem?_eq_getElem (by omega)⟩
      have hcell := hc k (bv x) (by simp [hx])
      have Hx := Lib.hid hx; clear hx
      clear hc
      have hx256 : (x.toNat : Int) < 256 := by have := x.toNat_lt; omega
      have hor := fun h9 => add_group (x := x.toNat) Hp.out hk9 Hacc.out (by omega) h9
      have Hor := Lib.hid hor; clear hor
      have H9 : Hid (k = 9 ↔ ((k : Int) == 9) = true) := by unfold Hid; simp; omega
      have H0 : Hid (x.toNat = 0 ↔ ((x.toNat : Int) == 0) = true) := by unfold Hid; simp
      rcases Bool.eq_false_or_eq_true ((k : Int) == 9) with e9 | e9 <;> rcases Bool.eq_false_or_eq_true ((x.toNat : Int) == 0) with e0 | e0
      all_goals
        have h9 := H9.out
        have h0 := H0.out
        rw [e9] at h9
        rw [e0] at h0
        clear H9 H0
        have H9 := Lib.hid h9; clear h9
        have H0 := Lib.hid h0; clear h0
        repeat' (first | go_skip | go_guarded | go_step)
      all_goals have h9 := H9.out
      all_goals have h0 := H0.out
      all_goals simp only [iff_true, Bool.false_eq_true, iff_false] at h9 h0
      all_goals first
        | (go_ret3; exact ⟨trip_of (Htu.out.symm.trans (by subst h9; exact tu_nine Hx.out (by omega))) rfl rfl rfl, rfl⟩)
        | (go_ret3; exact ⟨trip_of (Htu.out.symm.trans (tu_zero Hx.out h0 (by omega))) rfl rfl rfl, rfl⟩)
        | (go_ret3; refine ⟨trip_of (Htu.out.symm.trans (tu_last Hx.out (by omega) (by omega) (by omega))) ?_ rfl rfl, rfl⟩; rw [Hor.out (by omega)]; congr 2; rw [Nat.mod_eq_of_lt (by omega)])
        | skip
      all_goals
        have hge : (128 : Int) ≤ (x.toNat : Int) := by assumption
        first | (exfalso; omega) | skip
      all_goals
        have hge : (128 : Int) ≤ (x.toNat : Int) := by assumption
        have hby := by_group (k := k) Hp.out (by omega)
        go_round
        case rel =>
          refine ⟨k + 1, acc + (x.toNat - 128) * 128 ^ k, p * 128, by omega, by omega, acc_lt Hacc.out (by omega), hby.2, by go_num, ?_, ?_, ?_⟩
          · rw [Hor.out (by omega), show x.toNat % 128 = x.toNat - 128 from by omega]
          · rw [hby.1]
          · rw [← Htu.out]; exact (tu_more Hx.out h9 (by omega)).symm
        case measure => simp [intOf]; omega
    · repeat' (first | go_skip | go_guarded | go_step)
      go_ret3
      exact ⟨trip_of (Htu.out.symm.trans (tu_end (by omega))) rfl rfl rfl, rfl⟩
end Go.Proofs.Ytjipnomokggcfaa
