/- Same: two slices that hold the same fields. -/
import Derived.Test.YtjipnomokggcfaaFields
import Derived.Deep.RegionHeld3
namespace Go.Proofs.Ytjipnomokggcfaa
open Go.RowKit
def SameOK (f : Flds) : Prop :=
  ∀ (A1 : Option Addr) (c1 : Nat) (cs1 : List Value) (A2 : Option Addr) (c2 : Nat) (cs2 : List Value) (w : World) (B : Nat), B ≤ w.heap.size → Seq w B 4 A1 f.length cs1 → RepF w B f cs1 → Seq w B 4 A2 f.length cs2 → RepF w B f cs2 → f.size ≤ 1000000000 →
    Calls Try.prog 29 #[.slice A1 f.length c1, .slice A2 f.length c2] w fun e w' => e = .returned (.bool true) ∧ Below w.heap.size w w'
set_option maxRecDepth 100000 in
set_option maxHeartbeats 2000000 in
theorem same_body (f : Flds) (ih : ∀ i k x s sub, f.get? i = some (k, x, s, sub) → SameOK sub) : SameOK f := by
  intro A1 c1 cs1 A2 c2 cs2 w B hB hs1 hr1 hs2 hr2 hsz
  have hlen := Flds.length_le_size f
  have Ih := Lib.hid ih; clear ih
  go_enter Try.func29, Try.ntmps29
  repeat' ((fail_if_success at_builtin); (first | go_skip | go_guarded | go_step))
  go_loopw [5] (fun u5 wr => ∃ (i : Nat), i ≤ f.length ∧ u5 = .int .i64 (i : Int) ∧ Below w.heap.size w wr) (fun u5 _ => f.length - (intOf u5).toNat)
  case atStart => exact ⟨0, by omega, rfl, Below.refl _ _⟩
  case round =>
    obtain ⟨i, hi, rfl, hbr⟩ := hrel
    by_cases hlt : i < f.length
    · obtain ⟨⟨k, x, s, sub⟩, hg⟩ := Flds.get?_lt f i hlt
      obtain ⟨b1, o1, rfl, hb1, hcell1⟩ := hs1.2 (by omega)
      obtain ⟨b2, o2, rfl, hb2, hcell2⟩ := hs2.2 (by omega)
      obtain ⟨A3, c3, cs3, g1, g2, g3, g4, _, _, hs3, hr3⟩ := RepF.at_ hr1 hg
      obtain ⟨A4, c4, cs4, g5, g6, g7, g8, _, _, hs4, hr4⟩ := RepF.at_ hr2 hg
      have e1 := (hbr.cell (p := ⟨b1, o1 + i * 4, none⟩) (by dsimp only; omega)).trans (hcell1 _ _ g1)
      have e2 := (hbr.cell (p := ⟨b1, o1 + (i * 4 + 1), none⟩) (by dsimp only; omega)).trans (hcell1 _ _ g2)
      have e3 := (hbr.cell (p := ⟨b1, o1 + (i * 4 + 2), none⟩) (by dsimp only; omega)).trans (hcell1 _ _ g3)
      have e4 := (hbr.cell (p := ⟨b1, o1 + (i * 4 + 3), none⟩) (by dsimp only; omega)).trans (hcell1 _ _ g4)
      have e5 := (hbr.cell (p := ⟨b2, o2 + i * 4, none⟩) (by dsimp only; omega)).trans (hcell2 _ _ g5)
      have e6 := (hbr.cell (p := ⟨b2, o2 + (i * 4 + 1), none⟩) (by dsimp only; omega)).trans (hcell2 _ _ g6)
      have e7 := (hbr.cell (p := ⟨b2, o2 + (i * 4 + 2), none⟩) (by dsimp only; omega)).trans (hcell2 _ _ g7)
      have e8 := (hbr.cell (p := ⟨b2, o2 + (i * 4 + 3), none⟩) (by dsimp only; omega)).trans (hcell2 _ _ g8)
      rw [← Nat.add_assoc] at e2 e3 e4 e6 e7 e8
      clear g1 g2 g3 g4 g5 g6 g7 g8 hcell1 hcell2 hr1 hr2 hs1 hs2
      have hbw1 : b1 < wr.heap.size := by have := hbr.size; omega
      have hbw2 : b2 < wr.heap.size := by have := hbr.size; omega
      have hsz' := Flds.get?_size f i hg
      have C := fun (w2 : World) (hb : Below wr.heap.size wr w2) => Ih.out i k x s sub hg A3 c3 cs3 A4 c4 cs4 w2 B (Nat.le_trans (Nat.le_trans hB hbr.size) hb.size) (hs3.below ((hbr.mono hB).trans (hb.mono (Nat.le_trans hB hbr.size)))) (hr3.below ((hbr.mono hB).trans (hb.mono (Nat.le_trans hB hbr.size)))) (hs4.below ((hbr.mono hB).trans (hb.mono (Nat.le_trans hB hbr.size)))) (hr4.below ((hbr.mono hB).trans (hb.mono (Nat.le_trans hB hbr.size)))) (by omega)
      replace C := Lib.hid C
      clear hs3 hr3 hs4 hr4 hg
      have f1 : (0 : Int) ≤ (i : Int) := by omega
      have f2 : (i : Int) < (f.length : Int) := by omega
      have hl2 := Flds.length_le_size sub
      repeat' ((fail_if_success at_builtin); (first | go_skip | go_guarded | go_step))
      go_cut [67] (fun u67 wx => Below w.heap.size w wx ∧ u67 = .bool false)
      case first =>
        go_region_held3 (fun w' => Below wr.heap.size wr w' ∧ w'.cell? ⟨b1, o1 + i * 4, none⟩ = some (.int .i64 k) ∧ w'.cell? ⟨b1, o1 + i * 4 + 1, none⟩ = some (.int .i64 x) ∧ w'.cell? ⟨b1, o1 + i * 4 + 2, none⟩ = some (.string s) ∧ w'.cell? ⟨b1, o1 + i * 4 + 3, none⟩ = some (.slice A3 sub.length c3) ∧
            w'.cell? ⟨b2, o2 + i * 4, none⟩ = some (.int .i64 k) ∧ w'.cell? ⟨b2, o2 + i * 4 + 1, none⟩ = some (.int .i64 x) ∧ w'.cell? ⟨b2, o2 + i * 4 + 2, none⟩ = some (.string s) ∧ w'.cell? ⟨b2, o2 + i * 4 + 3, none⟩ = some (.slice A4 sub.length c4))
          (first | exact ⟨(Below.refl _ _).drew, e1, e2, e3, e4, e5, e6, e7, e8⟩ | exact ⟨(Below.refl _ _).drew.trans (hbq.mono (Nat.le_refl _)), (hbq.cell (p := ⟨b1, _, none⟩) hbw1).trans e1, (hbq.cell (p := ⟨b1, _, none⟩) hbw1).trans e2, (hbq.cell (p := ⟨b1, _, none⟩) hbw1).trans e3, (hbq.cell (p := ⟨b1, _, none⟩) hbw1).trans e4, (hbq.cell (p := ⟨b2, _, none⟩) hbw2).trans e5, (hbq.cell (p := ⟨b2, _, none⟩) hbw2).trans e6, (hbq.cell (p := ⟨b2, _, none⟩) hbw2).trans e7, (hbq.cell (p := ⟨b2, _, none⟩) hbw2).trans e8⟩)
          (first | (go_at_call 29; refine (C.out _ (And.left (by assumption))).mono ?_; rintro e w7 ⟨rfl, hbq⟩; dsimp only))
        all_goals
          repeat' ((fail_if_success at_builtin); (first | go_skip | go_guarded | go_step))
          go_meet
        case rel => exact ⟨hbr.trans (Below.mono ((Below.refl _ _).drew.trans (hbq.mono (Nat.le_refl _))) hbr.size), rfl⟩
      case rest =>
        obtain ⟨hbx, rfl⟩ := hcut
        clear e1 e2 e3 e4 e5 e6 e7 e8
        have f3 : IntKind.i64.wrap ((i : Int) + 1) = (i : Int) + 1 := IntWalk.i64_in _ (by omega)
        repeat' ((fail_if_success at_builtin); (first | go_skip | go_guarded | go_step))
        go_roundw
        case rel => exact ⟨i + 1, by omega, by congr 1, hbx⟩
        case measure => simp [intOf]; omega
    · repeat' ((fail_if_success at_builtin); (first | go_skip | go_guarded | go_step))
      go_ret
      exact ⟨rfl, hbr⟩
theorem same_all : ∀ (f : Flds) (i : Nat) (k x : Int) (s : ByteArray) (sub : Flds), f.get? i = some (k, x, s, sub) → SameOK sub
  | .nil, i, _, _, _, _, h => by simp [Flds.get?] at h
  | .cons k x s sub r, 0, _, _, _, _, h => by
    simp only [Flds.get?, Option.some.injEq, Prod.mk.injEq] at h
    obtain ⟨rfl, rfl, rfl, rfl⟩ := h
    exact same_body sub (same_all sub)
  | .cons _ _ _ _ r, i + 1, k, x, s, sub, h => same_all r i k x s sub h
theorem same_any (f : Flds) : SameOK f := same_body f (same_all f)
end Go.Proofs.Ytjipnomokggcfaa
