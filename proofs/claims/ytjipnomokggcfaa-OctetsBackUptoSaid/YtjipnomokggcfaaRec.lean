/- Clone, Record of both: contracts. -/
import Derived.Test.YtjipnomokggcfaaWrite
namespace Go.Proofs.Ytjipnomokggcfaa
open Go.RowKit
theorem fld_info : Info Try.prog 27 (.agg #[.int .i64 0, .int .i64 0, .string ByteArray.empty, .slice none 0 0]) 4 56 := by unfold Info; kernel_rfl
def RetFlds (w : World) (n : Nat) (cs : List Value) (e : Ending) (w' : World) : Prop := ∃ A c, e = .returned (.slice A n c) ∧ Own w w' 27 4 (.slice A n c) n cs
set_option maxRecDepth 100000 in
set_option maxHeartbeats 400000 in
theorem clone_any (A : Option Addr) (n c : Nat) (cs : List Value) (w : World) (B : Nat) (hnil : A = none → c = 0) (hs : Seq w B 4 A n cs) (h1 : ∀ u ∈ cs, u.oneCell' = true) (hn : n ≤ 1000000000) (hB : B ≤ w.heap.size) :
    Calls Try.prog 32 #[.slice A n c] w (RetFlds w n cs) := by
  rcases A with _ | ad
  · obtain rfl := hnil rfl
    obtain rfl : n = 0 := by
      rcases Nat.eq_zero_or_pos n with h | h
      · exact h
      · obtain ⟨_, _, h, _⟩ := hs.2 h
        cases h
    obtain rfl : cs = [] := List.eq_nil_of_length_eq_zero (by simpa using hs.1)
    have hq := Lib.run_eql_slice_nil (P := Try.prog) w 22 27 none 0 0 0 0 Try.underlying22
    go_enter Try.func32, Try.ntmps32
    repeat' ((fail_if_success at_builtin); (first | go_skip | go_guarded | go_step))
    go_ret
    exact ⟨none, 0, rfl, Own.nil_ _ _ _⟩
  · have hq := Lib.run_eql_slice_nil (P := Try.prog) w 22 27 (some ad) n c 0 0 Try.underlying22
    go_enter Try.func32, Try.ntmps32
    repeat' ((fail_if_success at_builtin); (first | go_skip | go_guarded | go_step))
    have hba := (Below.refl w.heap.size w).alloc (Nat.le_refl _) (.cells #[] 27)
    refine wp_appS (Own.empty_lit w 27 4) Try.underlying22 fld_info (hs.below (hba.mono hB)) h1 (by omega) ?_
    intro v w1 hown _
    repeat' ((fail_if_success at_builtin); (first | go_skip | go_guarded | go_step))
    go_ret
    rw [Nat.zero_add, List.nil_append] at hown
    obtain ⟨A, c, rfl⟩ := hown.slice_form
    exact ⟨A, c, rfl, hown⟩
set_option maxRecDepth 100000 in
set_option maxHeartbeats 400000 in
theorem record_any (f : Flds) (A : Option Addr) (c : Nat) (cs : List Value) (w : World) (B : Nat) (hnil : A = none → c = 0) (hB : B ≤ w.heap.size) (hseq : Seq w B 4 A f.length cs) (hrep : RepF w B f cs) (hsz : f.size ≤ 1000000000) :
    Calls Try.prog 13 #[.slice A f.length c] w (RetBytes w (Lib.uvarint f.length ++ encs (f.fix f.length))) := by
  have hlen := Flds.length_le_size f
  go_enter Try.func13, Try.ntmps13
  repeat' ((fail_if_success at_builtin); (first | go_skip | go_guarded | go_step))
  refine (clone_any A f.length c cs w B hnil hseq (repF_one hrep) (by omega) hB).mono ?_
  rintro e w1 ⟨A1, c1, rfl, h⟩
  dsimp only
  repeat' ((fail_if_success at_builtin); (first | go_skip | go_guarded | go_step))
  have hrep1 := hrep.below (h.2.mono hB)
  go_loopw [9] (fun u9 wr => ∃ (i : Nat) (cs' : List Value), i ≤ f.length ∧ u9 = .int .i64 (i : Int) ∧ Own w wr 27 4 (.slice A1 f.length c1) f.length cs' ∧ RepF wr B (f.fix i) cs') (fun u9 _ => f.length - (intOf u9).toNat)
  case atStart => exact ⟨0, cs, by omega, rfl, h, by rw [fix_zero]; exact hrep1⟩
  case round =>
    obtain ⟨i, cs', hi, rfl, hown, hr⟩ := hrel
    clear h hrep1
    by_cases hlt : i < f.length
    · obtain ⟨⟨k, x, s, sub⟩, hg⟩ := Flds.get?_lt f i hlt
      have hg' := hg
      rw [← fix_get f i i (Nat.le_refl _)] at hg'
      obtain ⟨b, rfl, hgW, hgw, hcell, hfro⟩ := hown.head (by omega)
      obtain ⟨A', c', csub', g1, g2, g3, g4, hk', hx', hseq', hrep'⟩ := hr.at_ hg'
      have e1 := hcell _ _ g1
      have e2 := hcell _ _ g2
      have e3 := hcell _ _ g3
      have e4 := hcell _ _ g4
      clear hcell
      have hsz' := Flds.get?_size f i hg
      have He : Hid (vone 1 k x s sub = 0 ↔ ((vone 1 k x s sub : Int) != 0) = false) := by unfold Hid; simp
      have C := Valid_any k x s sub A' c' csub' wr B (Nat.le_trans hB hown.2.size) hseq' hrep' (by omega)
      have Hc := Lib.hid C; clear C
      have Hg := Lib.hid hg; clear hg hg'
      rcases Bool.eq_false_or_eq_true ((vone 1 k x s sub : Int) != 0) with e0 | e0
      all_goals
        repeat' (first | (go_at_call 10; refine Hc.out.mono ?_; rintro e w1 ⟨rfl, hb1⟩; obtain ⟨hc1, hf1⟩ := bcell hb1; dsimp only) | go_skip | go_guarded | go_step)
      · have hne : vone 1 k x s sub ≠ 0 := by
          have := He.out
          rw [e0] at this
          simpa using this
        have hBb : B ≤ b := Nat.le_trans hB hgW
        have hown1 := ((((hown.below hb1).store hgW (i * 4) (.int .i64 0)).store hgW (i * 4 + 1) (.int .i64 0)).store hgW (i * 4 + 2) (.string ByteArray.empty)).store hgW (i * 4 + 3) (.slice none 0 0)
        have hr1 := (repF_zero f i (hr.below (hb1.mono (Nat.le_trans hB hown.2.size))) Hg.out hne).below (((((Below.refl B w1).setCell (p := ⟨b, i * 4, none⟩) hBb (.int .i64 0)).setCell (p := ⟨b, i * 4 + 1, none⟩) hBb (.int .i64 0)).setCell (p := ⟨b, i * 4 + 2, none⟩) hBb (.string ByteArray.empty)).setCell (p := ⟨b, i * 4 + 3, none⟩) hBb (.slice none 0 0))
        go_roundw
        case rel => exact ⟨i + 1, _, by omega, by go_num, hown1, hr1⟩
        case measure => simp [intOf]; omega
      · have he : vone 1 k x s sub = 0 := He.out.2 e0
        go_roundw
        case rel =>
          refine ⟨i + 1, _, by omega, by go_num, hown.below hb1, ?_⟩
          rw [fix_keep f i Hg.out he]
          exact hr.below (hb1.mono (Nat.le_trans hB hown.2.size))
        case measure => simp [intOf]; omega
    · repeat' (first | go_skip | go_guarded | go_step)
      obtain rfl : i = f.length := by omega
      have hl := fix_length f f.length
      have hs := fix_size f f.length
      have W := write_any (f.fix f.length) A1 c1 cs' wr wr.heap.size 1 (Nat.le_refl _) (by rw [hl]; exact hown.seq) (hr.more (Nat.le_trans hB hown.2.size)) (by omega) (fix_fine f f.length (Nat.le_refl _))
      rw [hl] at W
      refine W.mono ?_
      rintro e w2 ⟨A2, c2, rfl, h2⟩
      dsimp only
      repeat' (first | go_skip | go_guarded | go_step)
      go_ret
      exact ⟨A2, c2, rfl, h2.up hown.2⟩
end Go.Proofs.Ytjipnomokggcfaa
