/- Valid of both, whole: contracts. -/
import Derived.Test.YtjipnomokggcfaaVal
import Derived.Deep.QuietTactic
import Derived.BigQuiet
namespace Go.Proofs.Ytjipnomokggcfaa
open Go.RowKit
theorem valid_all : ∀ (f : Flds) (i : Nat) (k x : Int) (s : ByteArray) (sub : Flds), f.get? i = some (k, x, s, sub) → ValOK 30 k x s sub
  | .nil, i, _, _, _, _, h => by simp [Flds.get?] at h
  | .cons k x s sub r, 0, _, _, _, _, h => by
    simp only [Flds.get?, Option.some.injEq, Prod.mk.injEq] at h
    obtain ⟨rfl, rfl, rfl, rfl⟩ := h
    exact valid_body k x s sub (valid_all sub)
  | .cons _ _ _ _ r, i + 1, k, x, s, sub, h => valid_all r i k x s sub h
theorem valid_any (k x : Int) (s : ByteArray) (sub : Flds) : ValOK 30 k x s sub := valid_body k x s sub (valid_all sub)

set_option maxRecDepth 100000 in
set_option maxHeartbeats 400000 in
theorem rvalid_body (k x : Int) (s : ByteArray) (sub : Flds) (ih : ∀ i k' x' s' sub', sub.get? i = some (k', x', s', sub') → ValOK 31 k' x' s' sub') : ValOK 31 k x s sub := by
  intro A c csub w B d hB hseq hrep hsz hd
  have hlen := Flds.length_le_size sub
  have Ih := Lib.hid ih; clear ih
  by_cases h1 : 128 < d
  · go_enter Try.func31, Try.ntmps31
    repeat' (first | go_skip | go_guarded | go_step)
    go_ret
    exact ⟨ret_i (by unfold vone; rw [if_pos h1]; rfl), (Below.refl _ _).alloc (Nat.le_refl _) _⟩
  · go_enter Try.func31, Try.ntmps31
    repeat' (first | go_skip | go_guarded | go_step)
    go_quiet (fail)
    repeat' (first | go_skip | go_guarded | go_step)
    all_goals first
      | (go_ret
         refine ⟨ret_i ?_, ((Below.refl _ _).alloc (Nat.le_refl _) _).trans ⟨rfl, rfl, rfl, Nat.le_refl _, fun _ _ => rfl⟩⟩
         have h2 : clean k x s sub = false := by unfold clean; simp_all; try omega
         unfold vone
         rw [if_neg h1, if_pos h2]
         rfl)
      | skip
    all_goals
      have h2 : clean k x s sub = true := by unfold clean; simp_all; try omega
      go_loopw [8] (fun u8 wr => ∃ i : Nat, i ≤ sub.length ∧ u8 = .int .i64 (i : Int) ∧ w.heap.size < wr.heap.size ∧ wr.cell? ⟨w.heap.size, 3, none⟩ = some (.slice A sub.length c) ∧ Below w.heap.size w wr ∧ vld (d + 1) (sub.drop i) = vld (d + 1) sub) (fun u8 _ => sub.length - (intOf u8).toNat)
      case atStart => exact ⟨0, by omega, rfl, by simp, by simp [go_sem], ((Below.refl _ _).alloc (Nat.le_refl _) _).trans ⟨rfl, rfl, rfl, Nat.le_refl _, fun _ _ => rfl⟩, by rw [Flds.drop_zero]⟩
      case round =>
        obtain ⟨i, hi, rfl, hz, hbox, hbr, hv⟩ := hrel
        have Hv := Lib.hid hv; clear hv
        by_cases hlt : i < sub.length
        · first | (exfalso; omega) | skip
          all_goals
            obtain ⟨⟨k', x', s', sub'⟩, hg⟩ := Flds.get?_lt sub i hlt
            obtain ⟨b, o, hA, hbB, hcell⟩ := hseq.2 (by omega)
            rw [hA] at hbox
            obtain ⟨A', c', csub', g1, g2, g3, g4, hk', hx', hseq', hrep'⟩ := hrep.at_ hg
            have hcell' := fun j u hu => (hbr.cell (p := ⟨b, o + j, none⟩) (by simp; omega)).trans (hcell j u hu)
            have e1 := hcell' _ _ g1
            have e2 := hcell' _ _ g2
            rw [← Nat.add_assoc] at e2
            have e3 := hcell' _ _ g3
            rw [← Nat.add_assoc] at e3
            have e4 := hcell' _ _ g4
            rw [← Nat.add_assoc] at e4
            clear hcell hcell' g1 g2 g3 g4
            have hv13 := vone_le (d + 1) k' x' s' sub'
            have hsz' := Flds.get?_size sub i hg
            have C := Ih.out i k' x' s' sub' hg A' c' csub' wr B (d + 1) (Nat.le_trans hB hbr.size) (hseq'.below (hbr.mono hB)) (hrep'.below (hbr.mono hB)) (by omega) (by omega)
            have Hc := Lib.hid C; clear C
            have Hv1 := Lib.hid (vld_at (d := d + 1) hg)
            have Hg := Lib.hid hg; clear hg
            have HA := Lib.hid hA; clear hA
            have He : Hid (vone (d + 1) k' x' s' sub' = 0 ↔ ((vone (d + 1) k' x' s' sub' : Int) != 0) = false) := by unfold Hid; simp
            generalize vone (d + 1) k' x' s' sub' = E at *
            rcases Bool.eq_false_or_eq_true ((E : Int) != 0) with e0 | e0
            · repeat' (first | (go_at_call 31; refine Hc.out.mono ?_; rintro e w1 ⟨rfl, hb1⟩; dsimp only) | go_skip | go_guarded | go_step)
              go_ret
              refine ⟨ret_i ?_, hbr.trans (hb1.mono hbr.size)⟩
              have hne : ¬ E = 0 := by rw [He.out, e0]; simp
              have := Hv.out
              rw [Hv1.out, if_neg hne] at this
              unfold vone
              rw [if_neg h1, if_neg (by simp [h2]), ← this]
            · repeat' (first | (go_at_call 31; refine Hc.out.mono ?_; rintro e w1 ⟨rfl, hb1⟩; dsimp only) | go_skip | go_guarded | go_step)
              go_roundw
              case rel =>
                refine ⟨i + 1, by omega, by go_num, Nat.lt_of_lt_of_le hz hb1.size, ?_, hbr.trans (hb1.mono hbr.size), ?_⟩
                · rw [hb1.cell (p := ⟨w.heap.size, 3, none⟩) hz, hbox, HA.out]
                · rw [← Hv.out, Hv1.out, if_pos (He.out.2 e0)]
              case measure => simp [intOf]; omega
        · repeat' (first | go_skip | go_guarded | go_step)
          go_ret
          refine ⟨ret_i ?_, hbr⟩
          have := Hv.out
          rw [Flds.drop_end _ _ (by omega)] at this
          unfold vone
          rw [if_neg h1, if_neg (by simp [h2]), ← this]
          rfl
theorem rvalid_all : ∀ (f : Flds) (i : Nat) (k x : Int) (s : ByteArray) (sub : Flds), f.get? i = some (k, x, s, sub) → ValOK 31 k x s sub
  | .nil, i, _, _, _, _, h => by simp [Flds.get?] at h
  | .cons k x s sub r, 0, _, _, _, _, h => by
    simp only [Flds.get?, Option.some.injEq, Prod.mk.injEq] at h
    obtain ⟨rfl, rfl, rfl, rfl⟩ := h
    exact rvalid_body k x s sub (rvalid_all sub)
  | .cons _ _ _ _ r, i + 1, k, x, s, sub, h => rvalid_all r i k x s sub h
theorem rvalid_any (k x : Int) (s : ByteArray) (sub : Flds) : ValOK 31 k x s sub := rvalid_body k x s sub (rvalid_all sub)

set_option maxRecDepth 100000 in
set_option maxHeartbeats 400000 in
theorem Valid_any (k x : Int) (s : ByteArray) (sub : Flds) (A : Option Addr) (c : Nat) (csub : List Value) (w : World) (B : Nat) (hB : B ≤ w.heap.size) (hseq : Seq w B 4 A sub.length csub) (hrep : RepF w B sub csub) (hsz : sub.size ≤ 1000000000) :
    Calls Try.prog 10 #[.agg (fcells k x s A sub.length c)] w fun e w' => e = .returned (.int .i64 (vone 1 k x s sub : Int)) ∧ Below w.heap.size w w' := by
  have hba := (Below.refl w.heap.size w).alloc (Nat.le_refl _) (.cells (fcells k x s A sub.length c) 27)
  have C := valid_any k x s sub A c csub _ B 1 (Nat.le_trans hB hba.size) (hseq.below (hba.mono hB)) (hrep.below (hba.mono hB)) hsz (by omega)
  have Hc := Lib.hid C; clear C
  go_enter Try.func10, Try.ntmps10
  repeat' (first | (go_at_call 30; refine Hc.out.mono ?_; rintro e w1 ⟨rfl, hb1⟩; dsimp only) | go_skip | go_guarded | go_step)
  go_ret
  exact ⟨rfl, hba.trans (hb1.mono hba.size)⟩
set_option maxRecDepth 100000 in
set_option maxHeartbeats 400000 in
theorem rValid_any (k x : Int) (s : ByteArray) (sub : Flds) (A : Option Addr) (c : Nat) (csub : List Value) (w : World) (B : Nat) (hB : B ≤ w.heap.size) (hseq : Seq w B 4 A sub.length csub) (hrep : RepF w B sub csub) (hsz : sub.size ≤ 1000000000) :
    Calls Try.prog 11 #[.agg (fcells k x s A sub.length c)] w fun e w' => e = .returned (.int .i64 (vone 1 k x s sub : Int)) ∧ Below w.heap.size w w' := by
  have hba := (Below.refl w.heap.size w).alloc (Nat.le_refl _) (.cells (fcells k x s A sub.length c) 27)
  have C := rvalid_any k x s sub A c csub _ B 1 (Nat.le_trans hB hba.size) (hseq.below (hba.mono hB)) (hrep.below (hba.mono hB)) hsz (by omega)
  have Hc := Lib.hid C; clear C
  go_enter Try.func11, Try.ntmps11
  repeat' (first | (go_at_call 31; refine Hc.out.mono ?_; rintro e w1 ⟨rfl, hb1⟩; dsimp only) | go_skip | go_guarded | go_step)
  go_ret
  exact ⟨rfl, hba.trans (hb1.mono hba.size)⟩
end Go.Proofs.Ytjipnomokggcfaa
