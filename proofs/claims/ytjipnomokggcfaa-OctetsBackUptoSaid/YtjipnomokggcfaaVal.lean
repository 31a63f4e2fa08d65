/- Valid of both: contracts. -/
import Derived.Test.YtjipnomokggcfaaFld
namespace Go.Proofs.Ytjipnomokggcfaa
open Go.RowKit
abbrev fcells (k x : Int) (s : ByteArray) (A : Option Addr) (n c : Nat) : Array Value := #[.int .i64 k, .int .i64 x, .string s, .slice A n c]
set_option maxRecDepth 100000 in
set_option maxHeartbeats 400000 in
theorem clean_any (k x : Int) (s : ByteArray) (A : Option Addr) (c : Nat) (sub : Flds) (w : World) :
    Calls Try.prog 37 #[.agg (fcells k x s A sub.length c)] w fun e w' => e = .returned (.bool (clean k x s sub)) ∧ Below w.heap.size w w' := by
  go_enter Try.func37, Try.ntmps37
  repeat' (first | go_skip | go_guarded | go_step)
  all_goals
    go_ret
    refine ⟨ret_b ?_, (Below.refl _ _).alloc (Nat.le_refl _) _⟩
  all_goals (unfold clean; simp_all)

/-- a function that checks one field at a depth does so -/
def ValOK (F : FuncId) (k x : Int) (s : ByteArray) (sub : Flds) : Prop :=
  ∀ (A : Option Addr) (c : Nat) (csub : List Value) (w : World) (B d : Nat), B ≤ w.heap.size → Seq w B 4 A sub.length csub → RepF w B sub csub → sub.size ≤ 1000000000 → d ≤ 129 →
    Calls Try.prog F #[.agg (fcells k x s A sub.length c), .int .i64 (d : Int)] w fun e w' => e = .returned (.int .i64 (vone d k x s sub : Int)) ∧ Below w.heap.size w w'
set_option maxRecDepth 100000 in
set_option maxHeartbeats 400000 in
theorem valid_body (k x : Int) (s : ByteArray) (sub : Flds) (ih : ∀ i k' x' s' sub', sub.get? i = some (k', x', s', sub') → ValOK 30 k' x' s' sub') : ValOK 30 k x s sub := by
  intro A c csub w B d hB hseq hrep hsz hd
  have hlen := Flds.length_le_size sub
  have Ih := Lib.hid ih; clear ih
  by_cases h1 : 128 < d
  · go_enter Try.func30, Try.ntmps30
    repeat' (first | go_skip | go_guarded | go_step)
    go_ret
    exact ⟨ret_i (by unfold vone; rw [if_pos h1]; rfl), (Below.refl _ _).alloc (Nat.le_refl _) _⟩
  · by_cases h2 : clean k x s sub = false
    · go_enter Try.func30, Try.ntmps30
      repeat' (first | (go_at_call 37; refine (clean_any k x s A c sub _).mono ?_; rintro e w1 ⟨rfl, hb1⟩; obtain ⟨hc1, hf1⟩ := bcell hb1; dsimp only) | go_skip | go_guarded | go_step)
      go_ret
      exact ⟨ret_i (by unfold vone; rw [if_neg h1, if_pos h2]; rfl), ((Below.refl _ _).alloc (Nat.le_refl _) _).trans (hb1.mono (by simp))⟩
    · have h2 : clean k x s sub = true := by simpa using h2
      go_enter Try.func30, Try.ntmps30
      repeat' (first | (go_at_call 37; refine (clean_any k x s A c sub _).mono ?_; rintro e w1 ⟨rfl, hb1⟩; obtain ⟨hc1, hf1⟩ := bcell hb1; dsimp only) | go_skip | go_guarded | go_step)
      have hb1 := ((Below.refl w.heap.size w).alloc (Nat.le_refl _) (.cells (fcells k x s A sub.length c) 27)).trans (hb1.mono (by simp))
      clear hc1 hf1
      go_loopw [18] (fun u18 wr => ∃ i : Nat, i ≤ sub.length ∧ u18 = .int .i64 (i : Int) ∧ Below w.heap.size w wr ∧ vld (d + 1) (sub.drop i) = vld (d + 1) sub) (fun u18 _ => sub.length - (intOf u18).toNat)
      case atStart => exact ⟨0, by omega, rfl, hb1, by rw [Flds.drop_zero]⟩
      case round =>
        obtain ⟨i, hi, rfl, hbr, hv⟩ := hrel
        clear hb1
        have Hv := Lib.hid hv; clear hv
        by_cases hlt : i < sub.length
        · obtain ⟨⟨k', x', s', sub'⟩, hg⟩ := Flds.get?_lt sub i hlt
          obtain ⟨b, o, rfl, hbB, hcell⟩ := hseq.2 (by omega)
          obtain ⟨A', c', csub', g1, g2, g3, g4, hk', hx', hseq', hrep'⟩ := hrep.at_ hg
          have hcell' := fun j u hu => (hbr.cell (p := ⟨b, o + j, none⟩) (by simp; omega)).trans (hcell j u hu)
          have e1 := hcell' _ _ g1
          have e2 := hcell' _ _ g2
          rw [← Nat.add_assoc] at e2
          have e3 := hcell' _ _ g3
          rw [← Nat.add_assoc] at e3
          have e4 := hcell' _ _ g4
          rw [← Nat.add_assoc] at e4
          clear hcell hcell' g1 g2 g3 g4
          have hv13 := vone_le (d + 1) k' x' s' sub'
          have hsz' := Flds.get?_size sub i hg
          have hba := fun cs => hbr.alloc hbr.size (.cells cs 27)
          have hBa := fun cs => (hba cs).size
          have C := fun cs => Ih.out i k' x' s' sub' hg A' c' csub' _ B (d + 1) (Nat.le_trans hB (hBa cs)) (hseq'.below ((hba cs).mono hB)) (hrep'.below ((hba cs).mono hB)) (by omega) (by omega)
          have Hc := Lib.hid C; clear C hBa
          have hbn := fun cs (w1 : World) h => (hba cs).trans (Below.mono (B := (wr.alloc (.cells cs 27)).heap.size) (w' := w1) h (hba cs).size)
          have Hbn := Lib.hid hbn; clear hbn hba
          have Hv1 := Lib.hid (vld_at (d := d + 1) hg)
          have Hg := Lib.hid hg; clear hg
          have He : Hid (vone (d + 1) k' x' s' sub' = 0 ↔ ((vone (d + 1) k' x' s' sub' : Int) != 0) = false) := by unfold Hid; simp
          generalize vone (d + 1) k' x' s' sub' = E at *
          rcases Bool.eq_false_or_eq_true ((E : Int) != 0) with e0 | e0
          · repeat' (first | (go_at_call 30; refine (Hc.out _).mono ?_; rintro e w1 ⟨rfl, hb1⟩; have hb1 := Hbn.out _ _ hb1; dsimp only) | go_skip | go_guarded | go_step)
            go_ret
            refine ⟨ret_i ?_, hb1⟩
            have hne : ¬ E = 0 := by rw [He.out, e0]; simp
            have := Hv.out
            rw [Hv1.out, if_neg hne] at this
            unfold vone
            rw [if_neg h1, if_neg (by simp [h2]), ← this]
          · repeat' (first | (go_at_call 30; refine (Hc.out _).mono ?_; rintro e w1 ⟨rfl, hb1⟩; have hb1 := Hbn.out _ _ hb1; dsimp only) | go_skip | go_guarded | go_step)
            go_roundw
            case rel =>
              refine ⟨i + 1, by omega, by go_num, hb1, ?_⟩
              rw [← Hv.out, Hv1.out, if_pos (He.out.2 e0)]
            case measure => simp [intOf]; omega
        · repeat' (first | go_skip | go_guarded | go_step)
          go_ret
          refine ⟨ret_i ?_, hbr⟩
          have := Hv.out
          rw [Flds.drop_end _ _ (by omega)] at this
          unfold vone
          rw [if_neg h1, if_neg (by simp [h2]), ← this]
          rfl
end Go.Proofs.Ytjipnomokggcfaa
