/- Cache: the law Full. -/
import Derived.Test.YtpdlapdnjmoaoaaDoorCaK1
import Derived.Test.YtpdlapdnjmoaoaaDoorHk
namespace Go.Proofs.YtpdlapdnjmoaoaaDoor
open Go.RowKit
theorem dig_ext : ∀ (k : Nat), k < 10 → (⟨#[48, 49, 50, 51, 52, 53, 54, 55, 56, 57]⟩ : ByteArray).extract k (k + 1) = ⟨#[digC k]⟩ := by decide
theorem keyK_cat (i : Nat) (hi : i < 10000) : ((((⟨#[107]⟩ : ByteArray) ++ (⟨#[48, 49, 50, 51, 52, 53, 54, 55, 56, 57]⟩ : ByteArray).extract (i / 1000) (i / 1000 + 1)) ++ (⟨#[48, 49, 50, 51, 52, 53, 54, 55, 56, 57]⟩ : ByteArray).extract (i / 100 % 10) (i / 100 % 10 + 1)) ++ (⟨#[48, 49, 50, 51, 52, 53, 54, 55, 56, 57]⟩ : ByteArray).extract (i / 10 % 10) (i / 10 % 10 + 1)) ++ (⟨#[48, 49, 50, 51, 52, 53, 54, 55, 56, 57]⟩ : ByteArray).extract (i % 10) (i % 10 + 1) = keyK i := by
  have e : ∀ k, digC (k % 10) = digC k := fun k => by unfold digC; rw [Nat.mod_mod]
  rw [dig_ext _ (by omega), dig_ext _ (by omega), dig_ext _ (by omega), dig_ext _ (by omega), e, e, e]
  rfl
structure KInv (w wr : World) (A : Option Addr) (c i : Nat) : Prop where
  own : wr.ownsRow (w.heap.size + 1) 42 8 (.slice A i c) i (entsC (fullK i))
  x : CAx w wr w.heap.size 100 A i c (fullK i)
theorem KInv.at {w wr wx : World} {A : Option Addr} {c i : Nat} (h : KInv w wr A c i) (hb : Below wr.heap.size wr wx) : KInv w wx A c i := by
  have hs : w.heap.size + 1 ≤ wr.heap.size := h.x.lo
  obtain ⟨W0, hW0, hO⟩ := own_any h.own hs
  have hO2 := hO.below hb
  exact ⟨by rw [← hW0]; exact hO2.1, h.x.at hb⟩
theorem KInv.start (w : World) : KInv w (w.alloc (.cells #[.int .i64 100, .slice none 0 0] 24)) none 0 0 :=
  ⟨World.ownsRow_nil _ _ _ _, CAx.fresh (Below.refl _ _) 100 (l := fullK 0) rfl (seqE_nil _ _ none)⟩
theorem k2_far {W we : World} (hbe : Below (W.alloc (.cells (ent8 zeroE) 42)).drew.heap.size (W.alloc (.cells (ent8 zeroE) 42)).drew we) : CellsE we W.heap.size 0 zeroE ∧ (∀ j, we.frozen? ⟨W.heap.size, j, none⟩ = false) ∧ W.heap.size < we.heap.size ∧ Below W.drew.heap.size W.drew we := by
  have hl : W.heap.size < (W.alloc (.cells (ent8 zeroE) 42)).drew.heap.size := by rw [drew_hs]; simp
  have hz : CellsE (W.alloc (.cells (ent8 zeroE) 42)).drew W.heap.size 0 zeroE := ⟨by simp [go_sem], by simp [go_sem], by simp [go_sem], by simp [go_sem], by simp [go_sem], by simp [go_sem], by simp [go_sem], by simp [go_sem]⟩
  have hb0 : Below W.drew.heap.size W.drew (W.alloc (.cells (ent8 zeroE) 42)).drew := (Below.refl W.drew.heap.size W.drew).alloc (Nat.le_refl _) (.cells (ent8 zeroE) 42)
  exact ⟨hz.map (fun j => hbe.cell (p := ⟨W.heap.size, 0 + j, none⟩) hl), fun j => (hbe.frozen (p := ⟨W.heap.size, j, none⟩) hl).trans (by simp [go_sem]), Nat.lt_of_lt_of_le hl hbe.size, hb0.trans (hbe.mono hb0.size)⟩
/-- the entry's own block -/
def KEnt (w wx : World) (q i : Nat) : Prop := w.heap.size < q ∧ q < wx.heap.size ∧ CellsE wx q 0 (entK i)
theorem k2_new {w wx : World} {A : Option Addr} {c i : Nat} (h : KInv w wx A c i) : KEnt w (wx.alloc (.cells (ent8 (entK i)) 42)) wx.heap.size i ∧ KInv w (wx.alloc (.cells (ent8 (entK i)) 42)) A c i :=
  ⟨⟨h.x.lo, by simp, ⟨by simp [go_sem], by simp [go_sem], by simp [go_sem], by simp [go_sem], by simp [go_sem], by simp [go_sem], by simp [go_sem], by simp [go_sem]⟩⟩, h.at ((Below.refl _ _).alloc (Nat.le_refl _) _)⟩
theorem k2_old {w W we : World} {A : Option Addr} {c i : Nat} (h : KInv w W.drew A c i) (hlo : w.heap.size < W.heap.size) (zc : CellsE we W.heap.size 0 zeroE) (zl : W.heap.size < we.heap.size) (hbw : Below W.drew.heap.size W.drew we) :
    KEnt w (put8 we W.heap.size (entK i)) W.heap.size i ∧ KInv w (put8 we W.heap.size (entK i)) A c i :=
  ⟨⟨hlo, by rw [put8_size]; exact zl, put8_cells (entK i) zc⟩, h.at (put8_below hbw (Nat.le_refl _) _)⟩
theorem snoc_cell {w wx w10 : World} {A A3 : Option Addr} {c c3 i : Nat} (h : KInv w wx A c i) {W0 : World} (hW0 : W0.heap.size = w.heap.size + 1) (hO : Own W0 wx 42 8 (.slice A i c) i (entsC (fullK i)))
    (hg10 : Grew (wx.alloc (.cells (ent8 (entK i)) 42)) w10 (.slice A i c) (.slice A3 (i + 1) c3)) : w10.cell? ⟨w.heap.size, 1, none⟩ = some (.slice A i c) ∧ w10.frozen? ⟨w.heap.size, 1, none⟩ = false := by
  have hz := h.x.lo
  exact ⟨((hg10.cell (p := ⟨w.heap.size, 1, none⟩) (show w.heap.size < _ by simp; omega) (hO.old (show w.heap.size < _ by rw [hW0]; omega))).trans (((Below.refl wx.heap.size wx).alloc (Nat.le_refl _) _).cell (p := ⟨w.heap.size, 1, none⟩) hz)).trans h.x.c1,
    ((hg10.frozen (p := ⟨w.heap.size, 1, none⟩) (show w.heap.size < _ by simp; omega) (hO.old (show w.heap.size < _ by rw [hW0]; omega))).trans (((Below.refl wx.heap.size wx).alloc (Nat.le_refl _) _).frozen (p := ⟨w.heap.size, 1, none⟩) hz)).trans (h.x.fr 1)⟩
theorem KInv.snoc {w wx w10 : World} {A A3 : Option Addr} {c c3 i : Nat} (h : KInv w wx A c i) {W0 : World} (hW0 : W0.heap.size = w.heap.size + 1) (hO : Own W0 wx 42 8 (.slice A i c) i (entsC (fullK i)))
    (hO10 : Own W0 w10 42 8 (.slice A3 (i + 1) c3) (i + 1) (entsC (fullK i) ++ (ent8 (entK i)).toList)) (hg10 : Grew (wx.alloc (.cells (ent8 (entK i)) 42)) w10 (.slice A i c) (.slice A3 (i + 1) c3)) :
    KInv w (w10.setCell ⟨w.heap.size, 1, none⟩ (.slice A3 (i + 1) c3)) A3 c3 (i + 1) := by
  have hz := h.x.lo
  have hent : entsC (fullK i) ++ (ent8 (entK i)).toList = entsC (fullK (i + 1)) := by rw [fullK_succ, entsC_app]; rfl
  have far : ∀ j, w10.cell? ⟨w.heap.size, j, none⟩ = wx.cell? ⟨w.heap.size, j, none⟩ := fun j => (hg10.cell (p := ⟨w.heap.size, j, none⟩) (show w.heap.size < _ by simp; omega) (hO.old (show w.heap.size < _ by rw [hW0]; omega))).trans (((Below.refl wx.heap.size wx).alloc (Nat.le_refl _) _).cell (p := ⟨w.heap.size, j, none⟩) hz)
  have farf : ∀ j, w10.frozen? ⟨w.heap.size, j, none⟩ = wx.frozen? ⟨w.heap.size, j, none⟩ := fun j => (hg10.frozen (p := ⟨w.heap.size, j, none⟩) (show w.heap.size < _ by simp; omega) (hO.old (show w.heap.size < _ by rw [hW0]; omega))).trans (((Below.refl wx.heap.size wx).alloc (Nat.le_refl _) _).frozen (p := ⟨w.heap.size, j, none⟩) hz)
  have hs10 : wx.heap.size ≤ w10.heap.size := by have := hg10.by_.size; simp at this; omega
  have h10 : Below w.heap.size w w10 := h.x.below.trans ⟨hg10.by_.os, hg10.by_.tape, hg10.by_.output, hs10, fun k hk => (hg10.by_.block k (by simp; omega) (hO.old (by rw [hW0]; omega))).trans (((Below.refl wx.heap.size wx).alloc (Nat.le_refl _) _).block k (by omega))⟩
  have hown := ownsRow_setCell_below hO10.1 (a := ⟨w.heap.size, 1, none⟩) (by show w.heap.size < _; omega) (.slice A3 (i + 1) c3)
  rw [hW0, hent] at hown
  have hsz : (w10.setCell ⟨w.heap.size, 1, none⟩ (.slice A3 (i + 1) c3)).heap.size = w10.heap.size := by simp [World.setCell]
  refine ⟨hown, h10.setCell (p := ⟨w.heap.size, 1, none⟩) (Nat.le_refl _) _, Nat.le_refl _, by rw [hsz]; omega, ?_, ?_, fun j hj => ?_, fun j => ?_, (fullK_len _).symm, Seq.of_own hown⟩
  · rw [World.cell?_setCell_other _ _ _ _ (by intro e; injection e with _ e2; omega)]
    exact (far 0).trans h.x.c0
  · exact World.cell?_setCell_same w10 ⟨w.heap.size, 1, none⟩ _ ((far 1).trans h.x.c1)
  · rw [World.cell?_setCell_other _ _ _ _ (by intro e; injection e with _ e2; omega)]
    exact (far j).trans (h.x.no j hj)
  · rw [World.frozen?_setCell]
    exact (farf j).trans (h.x.fr j)
set_option maxRecDepth 100000 in
set_option maxHeartbeats 8000000 in
theorem full_law (n : Nat) (hn : n < 256) (w : World) (hR : Ready w) : Calls Tryd.prog 6 #[.int .u8 (n : Int)] w fun e w' => e = .returned (.bool true) ∧ Below w.heap.size w w' := by
  have CA := fun (w' : World) (h : Below w.heap.size w w') => awake_any w' (hR.below h)
  replace CA := Lib.hid CA
  by_cases hn2 : 2 < n
  · have hn3 : (2 : Int) < (n : Int) := by omega
    go_enter Tryd.func6, Tryd.ntmps6
    repeat' ((fail_if_success at_builtin); (first | go_skip | go_guarded | go_step))
    refine (CA.out _ (Below.refl _ _)).mono ?_
    rintro e w1 ⟨rfl, hb1⟩
    dsimp only
    repeat' ((fail_if_success at_builtin); (first | go_skip | go_guarded | go_step))
    go_ret
    exact ⟨rfl, hb1⟩
  · have hn3 : ¬ (2 : Int) < (n : Int) := by omega
    obtain ⟨N, hN⟩ : ∃ N : Nat, N + n = 1024 := ⟨1024 - n, by omega⟩
    have hNn : IntKind.i64.wrap (1024 - (n : Int)) = (N : Int) := by rw [IntWalk.i64_in _ (by omega)]; omega
    have hI := KInv.start w
    go_enter Tryd.func6, Tryd.ntmps6
    repeat' ((fail_if_success at_builtin); (first | go_skip | go_guarded | go_step))
    generalize World.alloc w _ = w1 at *
    go_loopw [4] (fun u4 wr => ∃ (i : Nat) (A : Option Addr) (c : Nat), i ≤ N ∧ u4 = .int .i64 (i : Int) ∧ KInv w wr A c i) (fun u4 wr => N - (intOf u4).toNat)
    case atStart => exact ⟨0, none, 0, by omega, rfl, hI⟩
    case round =>
      obtain ⟨i, A, c, hi, rfl, hI2⟩ := hrel
      clear hI
      have hI := hI2
      clear hI2
      by_cases hlt : i < N
      · have hlt2 : (i : Int) < (N : Int) := by omega
        have hN1024 : N ≤ 1024 := by omega
        have i0 : (0 : Int) ≤ (i : Int) := by omega
        have i2 : IntKind.i64.wrap ((i : Int) + 1) = (i : Int) + 1 := IntWalk.i64_in _ (by omega)
        have hic : i < 1024 := by omega
        obtain ⟨A0, hA0⟩ : ∃ A0 : Nat, A0 = i / 1000 := ⟨_, rfl⟩
        obtain ⟨B9, hB9⟩ : ∃ B9 : Nat, B9 = i / 100 := ⟨_, rfl⟩
        obtain ⟨B0, hB0⟩ : ∃ B0 : Nat, B0 = i / 100 % 10 := ⟨_, rfl⟩
        obtain ⟨C9, hC9⟩ : ∃ C9 : Nat, C9 = i / 10 := ⟨_, rfl⟩
        obtain ⟨C0, hC0⟩ : ∃ C0 : Nat, C0 = i / 10 % 10 := ⟨_, rfl⟩
        obtain ⟨D0, hD0⟩ : ∃ D0 : Nat, D0 = i % 10 := ⟨_, rfl⟩
        have qa : IntKind.i64.wrap ((i : Int) / 1000) = (A0 : Int) := by rw [IntWalk.i64_in _ (by omega)]; omega
        have qb : IntKind.i64.wrap ((i : Int) / 100) = (B9 : Int) := by rw [IntWalk.i64_in _ (by omega)]; omega
        have qc : IntKind.i64.wrap ((i : Int) / 10) = (C9 : Int) := by rw [IntWalk.i64_in _ (by omega)]; omega
        have qb2 : IntKind.i64.wrap ((B9 : Int) % 10) = (B0 : Int) := by rw [IntWalk.i64_in _ (by omega)]; omega
        have qc2 : IntKind.i64.wrap ((C9 : Int) % 10) = (C0 : Int) := by rw [IntWalk.i64_in _ (by omega)]; omega
        have qd2 : IntKind.i64.wrap ((i : Int) % 10) = (D0 : Int) := by rw [IntWalk.i64_in _ (by omega)]; omega
        have qb3 : ((B9 : Int).tmod 10) = (B0 : Int) := by rw [Int.tmod_eq_emod_of_nonneg (by omega)]; omega
        have qc3 : ((C9 : Int).tmod 10) = (C0 : Int) := by rw [Int.tmod_eq_emod_of_nonneg (by omega)]; omega
        have qd3 : ((i : Int).tmod 10) = (D0 : Int) := by rw [Int.tmod_eq_emod_of_nonneg (by omega)]; omega
        have ra : IntKind.i64.wrap ((A0 : Int) + 1) = (A0 : Int) + 1 := IntWalk.i64_in _ (by omega)
        have rb : IntKind.i64.wrap ((B0 : Int) + 1) = (B0 : Int) + 1 := IntWalk.i64_in _ (by omega)
        have rc : IntKind.i64.wrap ((C0 : Int) + 1) = (C0 : Int) + 1 := IntWalk.i64_in _ (by omega)
        have rd : IntKind.i64.wrap ((D0 : Int) + 1) = (D0 : Int) + 1 := IntWalk.i64_in _ (by omega)
        have ea1 : (A0 : Int) + 1 ≤ 10 := by omega
        have ea2 : (0 : Int) ≤ (A0 : Int) + 1 := by omega
        have ea3 : (A0 : Int) ≤ (A0 : Int) + 1 := by omega
        have eb1 : (B0 : Int) + 1 ≤ 10 := by omega
        have eb2 : (0 : Int) ≤ (B0 : Int) + 1 := by omega
        have eb3 : (B0 : Int) ≤ (B0 : Int) + 1 := by omega
        have ec1 : (C0 : Int) + 1 ≤ 10 := by omega
        have ec2 : (0 : Int) ≤ (C0 : Int) + 1 := by omega
        have ec3 : (C0 : Int) ≤ (C0 : Int) + 1 := by omega
        have ed1 : (D0 : Int) + 1 ≤ 10 := by omega
        have ed2 : (0 : Int) ≤ (D0 : Int) + 1 := by omega
        have ed3 : (D0 : Int) ≤ (D0 : Int) + 1 := by omega
        have ek := keyK_cat i (by omega)
        rw [← hA0, ← hB0, ← hC0, ← hD0] at ek
        replace ek := Lib.hid ek
        replace hN := Lib.hid hN
        replace hA0 := Lib.hid hA0
        replace hB9 := Lib.hid hB9
        replace hB0 := Lib.hid hB0
        replace hC9 := Lib.hid hC9
        replace hC0 := Lib.hid hC0
        replace hD0 := Lib.hid hD0
        repeat' ((fail_if_success at_builtin); (first | go_skip | go_guarded | go_step))
        replace hI := hI.at (Below.refl _ _).drew
        have hlo := hI.x.lo
        simp only [drew_hs] at hlo
        go_cut [5] (fun u5 wx => ∃ q, u5 = .pointer (some ⟨q, 0, none⟩) ∧ KEnt w wx q i ∧ KInv w wx A c i)
        case first =>
          refine wp_region_held_drew (S := fun _ => True) (by kernel_rfl) trivial (fun hHeld => ?_)
          refine wpAnyH_take (i := 0) (v := ?v574) rfl (by kernel_rfl) (by kernel_rfl) (by kernel_rfl) (fun _ _ _ h => h) (Or.inl ⟨by rfl, ?hy574⟩) (by assumption) ?rest574
          case hy574 => (intro w hSw; (try dsimp only at hSw); go_simp; (try rw [if_neg (by omega)]); try with_reducible rfl)
          simp only [Act.put, List.getElem_toArray, List.getElem_cons_zero, List.getElem_cons_succ, List.setIfInBounds_toArray, List.set_cons_zero, List.set_cons_succ]
          refine wpAnyH_take (i := 1) (v := ?v575) rfl (by kernel_rfl) (by kernel_rfl) (by kernel_rfl) (fun _ _ _ h => h) (Or.inl ⟨by rfl, ?hy575⟩) (by assumption) ?rest575
          case hy575 => (intro w hSw; (try dsimp only at hSw); go_simp; (try rw [if_neg (by omega)]); try with_reducible rfl)
          simp only [Act.put, List.getElem_toArray, List.getElem_cons_zero, List.getElem_cons_succ, List.setIfInBounds_toArray, List.set_cons_zero, List.set_cons_succ]
          refine wpAnyH_take (i := 2) (v := ?v576) rfl (by kernel_rfl) (by kernel_rfl) (by kernel_rfl) (fun _ _ _ h => h) (Or.inl ⟨by rfl, ?hy576⟩) (by assumption) ?rest576
          case hy576 => (intro w hSw; (try dsimp only at hSw); go_simp; (try rw [if_neg (by omega)]); try with_reducible rfl)
          simp only [Act.put, List.getElem_toArray, List.getElem_cons_zero, List.getElem_cons_succ, List.setIfInBounds_toArray, List.set_cons_zero, List.set_cons_succ]
          refine wpAnyH_take (i := 3) (v := ?v577) rfl (by kernel_rfl) (by kernel_rfl) (by kernel_rfl) (fun _ _ _ h => h) (Or.inl ⟨by rfl, ?hy577⟩) (by assumption) ?rest577
          case hy577 => (intro w hSw; (try dsimp only at hSw); go_simp; (try rw [if_neg (by omega)]); try with_reducible rfl)
          simp only [Act.put, List.getElem_toArray, List.getElem_cons_zero, List.getElem_cons_succ, List.setIfInBounds_toArray, List.set_cons_zero, List.set_cons_succ]
          refine wpAnyH_take (i := 4) (v := ?v578) rfl (by kernel_rfl) (by kernel_rfl) (by kernel_rfl) (fun _ _ _ h => h) (Or.inl ⟨by rfl, ?hy578⟩) (by assumption) ?rest578
          case hy578 => (intro w hSw; (try dsimp only at hSw); go_simp; (try rw [if_neg (by omega)]); try with_reducible rfl)
          simp only [Act.put, List.getElem_toArray, List.getElem_cons_zero, List.getElem_cons_succ, List.setIfInBounds_toArray, List.set_cons_zero, List.set_cons_succ]
          refine wpAnyH_take (i := 5) (v := ?v579) rfl (by kernel_rfl) (by kernel_rfl) (by kernel_rfl) (fun _ _ _ h => h) (Or.inl ⟨by rfl, ?hy579⟩) (by assumption) ?rest579
          case hy579 => (intro w hSw; (try dsimp only at hSw); go_simp; (try rw [if_neg (by omega)]); try with_reducible rfl)
          simp only [Act.put, List.getElem_toArray, List.getElem_cons_zero, List.getElem_cons_succ, List.setIfInBounds_toArray, List.set_cons_zero, List.set_cons_succ]
          refine wpAnyH_take (i := 6) (v := ?v580) rfl (by kernel_rfl) (by kernel_rfl) (by kernel_rfl) (fun _ _ _ h => h) (Or.inl ⟨by rfl, ?hy580⟩) (by assumption) ?rest580
          case hy580 => (intro w hSw; (try dsimp only at hSw); go_simp; (try rw [if_neg (by omega)]); try with_reducible rfl)
          simp only [Act.put, List.getElem_toArray, List.getElem_cons_zero, List.getElem_cons_succ, List.setIfInBounds_toArray, List.set_cons_zero, List.set_cons_succ]
          refine wpAnyH_take (i := 7) (v := ?v581) rfl (by kernel_rfl) (by kernel_rfl) (by kernel_rfl) (fun _ _ _ h => h) (Or.inl ⟨by rfl, ?hy581⟩) (by assumption) ?rest581
          case hy581 => (intro w hSw; (try dsimp only at hSw); go_simp; (try rw [if_neg (by omega)]); try with_reducible rfl)
          simp only [Act.put, List.getElem_toArray, List.getElem_cons_zero, List.getElem_cons_succ, List.setIfInBounds_toArray, List.set_cons_zero, List.set_cons_succ]
          refine wpAnyH_take (i := 8) (v := ?v582) rfl (by kernel_rfl) (by kernel_rfl) (by kernel_rfl) (fun _ _ _ h => h) (Or.inl ⟨by rfl, ?hy582⟩) (by assumption) ?rest582
          case hy582 => (intro w hSw; (try dsimp only at hSw); go_simp; (try rw [if_neg (by omega)]); try with_reducible rfl)
          simp only [Act.put, List.getElem_toArray, List.getElem_cons_zero, List.getElem_cons_succ, List.setIfInBounds_toArray, List.set_cons_zero, List.set_cons_succ]
          refine wpAnyH_take (i := 9) (v := ?v583) rfl (by kernel_rfl) (by kernel_rfl) (by kernel_rfl) (fun _ _ _ h => h) (Or.inl ⟨by rfl, ?hy583⟩) (by assumption) ?rest583
          case hy583 => (intro w hSw; (try dsimp only at hSw); go_simp; (try rw [if_neg (by omega)]); try with_reducible rfl)
          simp only [Act.put, List.getElem_toArray, List.getElem_cons_zero, List.getElem_cons_succ, List.setIfInBounds_toArray, List.set_cons_zero, List.set_cons_succ]
          refine wpAnyH_take (i := 10) (v := ?v584) rfl (by kernel_rfl) (by kernel_rfl) (by kernel_rfl) (fun _ _ _ h => h) (Or.inl ⟨by rfl, ?hy584⟩) (by assumption) ?rest584
          case hy584 => (intro w hSw; (try dsimp only at hSw); go_simp; (try rw [if_neg (by omega)]); try with_reducible rfl)
          simp only [Act.put, List.getElem_toArray, List.getElem_cons_zero, List.getElem_cons_succ, List.setIfInBounds_toArray, List.set_cons_zero, List.set_cons_succ]
          refine wpAnyH_take (i := 11) (v := ?v585) rfl (by kernel_rfl) (by kernel_rfl) (by kernel_rfl) (fun _ _ _ h => h) (Or.inl ⟨by rfl, ?hy585⟩) (by assumption) ?rest585
          case hy585 => (intro w hSw; (try dsimp only at hSw); go_simp; (try rw [if_neg (by omega)]); try with_reducible rfl)
          simp only [Act.put, List.getElem_toArray, List.getElem_cons_zero, List.getElem_cons_succ, List.setIfInBounds_toArray, List.set_cons_zero, List.set_cons_succ]
          refine wpAnyH_take (i := 12) (v := ?v586) rfl (by kernel_rfl) (by kernel_rfl) (by kernel_rfl) (fun _ _ _ h => h) (Or.inl ⟨by rfl, ?hy586⟩) (by assumption) ?rest586
          case hy586 => (intro w hSw; (try dsimp only at hSw); go_simp; (try rw [if_neg (by omega)]); try with_reducible rfl)
          simp only [Act.put, List.getElem_toArray, List.getElem_cons_zero, List.getElem_cons_succ, List.setIfInBounds_toArray, List.set_cons_zero, List.set_cons_succ]
          refine wpAnyH_take (i := 13) (v := ?v587) rfl (by kernel_rfl) (by kernel_rfl) (by kernel_rfl) (fun _ _ _ h => h) (Or.inl ⟨by rfl, ?hy587⟩) (by assumption) ?rest587
          case hy587 => (intro w hSw; (try dsimp only at hSw); go_simp; (try rw [if_neg (by omega)]); try with_reducible rfl)
          simp only [Act.put, List.getElem_toArray, List.getElem_cons_zero, List.getElem_cons_succ, List.setIfInBounds_toArray, List.set_cons_zero, List.set_cons_succ]
          refine wpAnyH_take (i := 14) (v := ?v588) rfl (by kernel_rfl) (by kernel_rfl) (by kernel_rfl) (fun _ _ _ h => h) (Or.inl ⟨by rfl, ?hy588⟩) (by assumption) ?rest588
          case hy588 => (intro w hSw; (try dsimp only at hSw); go_simp; (try rw [if_neg (by omega)]); try with_reducible rfl)
          simp only [Act.put, List.getElem_toArray, List.getElem_cons_zero, List.getElem_cons_succ, List.setIfInBounds_toArray, List.set_cons_zero, List.set_cons_succ]
          refine wpAnyH_take (i := 15) (v := ?v589) rfl (by kernel_rfl) (by kernel_rfl) (by kernel_rfl) (fun _ _ _ h => h) (Or.inl ⟨by rfl, ?hy589⟩) (by assumption) ?rest589
          case hy589 => (intro w hSw; (try dsimp only at hSw); go_simp; (try rw [if_neg (by omega)]); try with_reducible rfl)
          simp only [Act.put, List.getElem_toArray, List.getElem_cons_zero, List.getElem_cons_succ, List.setIfInBounds_toArray, List.set_cons_zero, List.set_cons_succ]
          refine wpAnyH_take (i := 16) (v := ?v590) rfl (by kernel_rfl) (by kernel_rfl) (by kernel_rfl) (fun _ _ _ h => h) (Or.inl ⟨by rfl, ?hy590⟩) (by assumption) ?rest590
          case hy590 => (intro w hSw; (try dsimp only at hSw); go_simp; (try rw [if_neg (by omega)]); try with_reducible rfl)
          simp only [Act.put, List.getElem_toArray, List.getElem_cons_zero, List.getElem_cons_succ, List.setIfInBounds_toArray, List.set_cons_zero, List.set_cons_succ]
          refine wpAnyH_take (i := 17) (v := ?v591) rfl (by kernel_rfl) (by kernel_rfl) (by kernel_rfl) (fun _ _ _ h => h) (Or.inl ⟨by rfl, ?hy591⟩) (by assumption) ?rest591
          case hy591 => (intro w hSw; (try dsimp only at hSw); go_simp; (try rw [if_neg (by omega)]); try with_reducible rfl)
          simp only [Act.put, List.getElem_toArray, List.getElem_cons_zero, List.getElem_cons_succ, List.setIfInBounds_toArray, List.set_cons_zero, List.set_cons_succ]
          refine wpAnyH_take (i := 18) (v := ?v592) rfl (by kernel_rfl) (by kernel_rfl) (by kernel_rfl) (fun _ _ _ h => h) (Or.inl ⟨by rfl, ?hy592⟩) (by assumption) ?rest592
          case hy592 => (intro w hSw; (try dsimp only at hSw); go_simp; (try rw [if_neg (by omega)]); try with_reducible rfl)
          simp only [Act.put, List.getElem_toArray, List.getElem_cons_zero, List.getElem_cons_succ, List.setIfInBounds_toArray, List.set_cons_zero, List.set_cons_succ]
          refine wpAnyH_take (i := 19) (v := ?v593) rfl (by kernel_rfl) (by kernel_rfl) (by kernel_rfl) (fun _ _ _ h => h) (Or.inl ⟨by rfl, ?hy593⟩) (by assumption) ?rest593
          case hy593 => (intro w hSw; (try dsimp only at hSw); go_simp; (try rw [if_neg (by omega)]); try with_reducible rfl)
          simp only [Act.put, List.getElem_toArray, List.getElem_cons_zero, List.getElem_cons_succ, List.setIfInBounds_toArray, List.set_cons_zero, List.set_cons_succ]
          refine wpAnyH_take (i := 20) (v := ?v594) rfl (by kernel_rfl) (by kernel_rfl) (by kernel_rfl) (fun _ _ _ h => h) (Or.inl ⟨by rfl, ?hy594⟩) (by assumption) ?rest594
          case hy594 => (intro w hSw; (try dsimp only at hSw); go_simp; (try rw [if_neg (by omega)]); try with_reducible rfl)
          simp only [Act.put, List.getElem_toArray, List.getElem_cons_zero, List.getElem_cons_succ, List.setIfInBounds_toArray, List.set_cons_zero, List.set_cons_succ]
          refine wpAnyH_take (i := 21) (v := ?v595) rfl (by kernel_rfl) (by kernel_rfl) (by kernel_rfl) (fun _ _ _ h => h) (Or.inl ⟨by rfl, ?hy595⟩) (by assumption) ?rest595
          case hy595 => (intro w hSw; (try dsimp only at hSw); go_simp; (try rw [if_neg (by omega)]); try with_reducible rfl)
          simp only [Act.put, List.getElem_toArray, List.getElem_cons_zero, List.getElem_cons_succ, List.setIfInBounds_toArray, List.set_cons_zero, List.set_cons_succ]
          refine wpAnyH_take (i := 22) (v := ?v596) rfl (by kernel_rfl) (by kernel_rfl) (by kernel_rfl) (fun _ _ _ h => h) (Or.inl ⟨by rfl, ?hy596⟩) (by assumption) ?rest596
          case hy596 => (intro w hSw; (try dsimp only at hSw); go_simp; (try rw [if_neg (by omega)]); try with_reducible rfl)
          simp only [Act.put, List.getElem_toArray, List.getElem_cons_zero, List.getElem_cons_succ, List.setIfInBounds_toArray, List.set_cons_zero, List.set_cons_succ]
          refine wpAnyH_take (i := 23) (v := ?v597) rfl (by kernel_rfl) (by kernel_rfl) (by kernel_rfl) (fun _ _ _ h => h) (Or.inl ⟨by rfl, ?hy597⟩) (by assumption) ?rest597
          case hy597 => (intro w hSw; (try dsimp only at hSw); go_simp; (try rw [if_neg (by omega)]); try with_reducible rfl)
          simp only [Act.put, List.getElem_toArray, List.getElem_cons_zero, List.getElem_cons_succ, List.setIfInBounds_toArray, List.set_cons_zero, List.set_cons_succ]
          refine wpAnyH_take (i := 24) (v := ?v598) rfl (by kernel_rfl) (by kernel_rfl) (by kernel_rfl) (fun _ _ _ h => h) (Or.inl ⟨by rfl, ?hy598⟩) (by assumption) ?rest598
          case hy598 => (intro w hSw; (try dsimp only at hSw); go_simp; (try rw [if_neg (by omega)]); try with_reducible rfl)
          simp only [Act.put, List.getElem_toArray, List.getElem_cons_zero, List.getElem_cons_succ, List.setIfInBounds_toArray, List.set_cons_zero, List.set_cons_succ]
          refine wpAnyH_take (i := 25) (v := ?v599) rfl (by kernel_rfl) (by kernel_rfl) (by kernel_rfl) (fun _ _ _ h => h) (Or.inl ⟨by rfl, ?hy599⟩) (by assumption) ?rest599
          case hy599 => (intro w hSw; (try dsimp only at hSw); go_simp; (try rw [if_neg (by omega)]); try with_reducible rfl)
          simp only [Act.put, List.getElem_toArray, List.getElem_cons_zero, List.getElem_cons_succ, List.setIfInBounds_toArray, List.set_cons_zero, List.set_cons_succ]
          refine wpAnyH_take (i := 26) (v := ?v600) rfl (by kernel_rfl) (by kernel_rfl) (by kernel_rfl) (fun _ _ _ h => h) (Or.inl ⟨by rfl, ?hy600⟩) (by assumption) ?rest600
          case hy600 => (intro w hSw; (try dsimp only at hSw); go_simp; (try rw [if_neg (by omega)]); try with_reducible rfl)
          simp only [Act.put, List.getElem_toArray, List.getElem_cons_zero, List.getElem_cons_succ, List.setIfInBounds_toArray, List.set_cons_zero, List.set_cons_succ]
          refine wpAnyH_take (i := 27) (v := ?v601) rfl (by kernel_rfl) (by kernel_rfl) (by kernel_rfl) (fun _ _ _ h => h) (Or.inl ⟨by rfl, ?hy601⟩) (by assumption) ?rest601
          case hy601 => (intro w hSw; (try dsimp only at hSw); go_simp; (try rw [if_neg (by omega)]); try with_reducible rfl)
          simp only [Act.put, List.getElem_toArray, List.getElem_cons_zero, List.getElem_cons_succ, List.setIfInBounds_toArray, List.set_cons_zero, List.set_cons_succ]
          refine wpAnyH_take (i := 28) (v := ?v602) rfl (by kernel_rfl) (by kernel_rfl) (by kernel_rfl) (fun _ _ _ h => h) (Or.inl ⟨by rfl, ?hy602⟩) (by assumption) ?rest602
          case hy602 => (intro w hSw; (try dsimp only at hSw); go_simp; (try rw [if_neg (by omega)]); try with_reducible rfl)
          simp only [Act.put, List.getElem_toArray, List.getElem_cons_zero, List.getElem_cons_succ, List.setIfInBounds_toArray, List.set_cons_zero, List.set_cons_succ]
          refine wpAnyH_take (i := 29) (v := ?v603) rfl (by kernel_rfl) (by kernel_rfl) (by kernel_rfl) (fun _ _ _ h => h) (Or.inl ⟨by rfl, ?hy603⟩) (by assumption) ?rest603
          case hy603 => (intro w hSw; (try dsimp only at hSw); go_simp; (try rw [if_neg (by omega)]); try with_reducible rfl)
          simp only [Act.put, List.getElem_toArray, List.getElem_cons_zero, List.getElem_cons_succ, List.setIfInBounds_toArray, List.set_cons_zero, List.set_cons_succ]
          refine wpAnyH_take (i := 30) (v := ?v604) rfl (by kernel_rfl) (by kernel_rfl) (by kernel_rfl) (fun _ _ _ h => h) (Or.inl ⟨by rfl, ?hy604⟩) (by assumption) ?rest604
          case hy604 => (intro w hSw; (try dsimp only at hSw); go_simp; (try rw [if_neg (by omega)]); try with_reducible rfl)
          simp only [Act.put, List.getElem_toArray, List.getElem_cons_zero, List.getElem_cons_succ, List.setIfInBounds_toArray, List.set_cons_zero, List.set_cons_succ]
          refine wpAnyH_take (i := 31) (v := ?v605) rfl (by kernel_rfl) (by kernel_rfl) (by kernel_rfl) (fun _ _ _ h => h) (Or.inl ⟨by rfl, ?hy605⟩) (by assumption) ?rest605
          case hy605 => (intro w hSw; (try dsimp only at hSw); go_simp; (try rw [if_neg (by omega)]); try with_reducible rfl)
          simp only [Act.put, List.getElem_toArray, List.getElem_cons_zero, List.getElem_cons_succ, List.setIfInBounds_toArray, List.set_cons_zero, List.set_cons_succ]
          refine wpAnyH_ready (rs := [32, 33]) (by kernel_rfl) (by simp) ?_
          refine AllReadyH.cons rfl (fun K hK => ?_) ?_
          · go_simp
            go_at_call 22
            rw [ek.out]
            refine (entry_any _ _ _).mono ?_
            rintro e we ⟨rfl, hbe⟩
            dsimp only
            first | (obtain ⟨zc, zf, zl, hbw⟩ := k2_far hbe; obtain ⟨z0, z1, z2, z3, z4, z5, z6, z7⟩ := zc; have zc := (k2_far hbe).1; simp only [Nat.zero_add] at z1 z2 z3 z4 z5 z6 z7) | have hbw := hbe
            refine hK.out _ _ trivial (fun hHeld => ?_)
            clear hK K
            try simp only [Act.put, List.getElem_toArray, List.getElem_cons_zero, List.getElem_cons_succ, List.setIfInBounds_toArray, List.set_cons_zero, List.set_cons_succ]
            refine wpAnyH_ready (rs := [33]) (by kernel_rfl) (by simp) ?_
            refine AllReadyH.cons rfl (fun K hK => ?_) ?_
            · go_simp
              refine hK.out _ _ trivial (fun hHeld => ?_)
              clear hK K
              try simp only [Act.put, List.getElem_toArray, List.getElem_cons_zero, List.getElem_cons_succ, List.setIfInBounds_toArray, List.set_cons_zero, List.set_cons_succ]
              refine wpAnyH_ready (rs := [34]) (by kernel_rfl) (by simp) ?_
              refine AllReadyH.cons rfl (fun K hK => ?_) ?_
              · go_simp
                refine hK.out _ _ trivial (fun hHeld => ?_)
                clear hK K
                try simp only [Act.put, List.getElem_toArray, List.getElem_cons_zero, List.getElem_cons_succ, List.setIfInBounds_toArray, List.set_cons_zero, List.set_cons_succ]
                refine wpAnyH_done (by kernel_rfl) ?_ _
                repeat' ((fail_if_success at_builtin); (first | go_skip | go_guarded | go_step))
                go_meet
                case rel =>
                  refine ⟨_, rfl, ?_⟩
                  first
                  | (have hB := k2_old hI hlo zc zl hbw; exact hB)
                  | (have hA := k2_new (hI.at hbw); exact hA)
              exact AllReadyH.nil
            exact AllReadyH.nil
          refine AllReadyH.cons rfl (fun K hK => ?_) ?_
          · go_simp
            refine hK.out _ _ trivial (fun hHeld => ?_)
            clear hK K
            try simp only [Act.put, List.getElem_toArray, List.getElem_cons_zero, List.getElem_cons_succ, List.setIfInBounds_toArray, List.set_cons_zero, List.set_cons_succ]
            refine wpAnyH_ready (rs := [32]) (by kernel_rfl) (by simp) ?_
            refine AllReadyH.cons rfl (fun K hK => ?_) ?_
            · go_simp
              go_at_call 22
              rw [ek.out]
              refine (entry_any _ _ _).mono ?_
              rintro e we ⟨rfl, hbe⟩
              dsimp only
              first | (obtain ⟨zc, zf, zl, hbw⟩ := k2_far hbe; obtain ⟨z0, z1, z2, z3, z4, z5, z6, z7⟩ := zc; have zc := (k2_far hbe).1; simp only [Nat.zero_add] at z1 z2 z3 z4 z5 z6 z7) | have hbw := hbe
              refine hK.out _ _ trivial (fun hHeld => ?_)
              clear hK K
              try simp only [Act.put, List.getElem_toArray, List.getElem_cons_zero, List.getElem_cons_succ, List.setIfInBounds_toArray, List.set_cons_zero, List.set_cons_succ]
              refine wpAnyH_ready (rs := [34]) (by kernel_rfl) (by simp) ?_
              refine AllReadyH.cons rfl (fun K hK => ?_) ?_
              · go_simp
                refine hK.out _ _ trivial (fun hHeld => ?_)
                clear hK K
                try simp only [Act.put, List.getElem_toArray, List.getElem_cons_zero, List.getElem_cons_succ, List.setIfInBounds_toArray, List.set_cons_zero, List.set_cons_succ]
                refine wpAnyH_done (by kernel_rfl) ?_ _
                repeat' ((fail_if_success at_builtin); (first | go_skip | go_guarded | go_step))
                go_meet
                case rel =>
                  refine ⟨_, rfl, ?_⟩
                  first
                  | (have hB := k2_old hI hlo zc zl hbw; exact hB)
                  | (have hA := k2_new (hI.at hbw); exact hA)
              exact AllReadyH.nil
            exact AllReadyH.nil
          exact AllReadyH.nil
        case rest =>
          clear hI qa qb qc qb2 qc2 qd2 qb3 qc3 qd3 ra rb rc rd ea1 ea2 ea3 eb1 eb2 eb3 ec1 ec2 ec3 ed1 ed2 ed3
          obtain ⟨q, rfl, ⟨hq1, hq2, hE⟩, hI⟩ := hcut
          obtain ⟨W0, hW0, hO⟩ := own_any hI.own hI.x.lo
          replace hW0 := Lib.hid hW0
          have hby : (i + 1) * 88 ≤ 140737488355328 := by omega
          have k1 := hI.x.c1
          have kf := hI.x.fr 1
          obtain ⟨e0, e1, e2, e3, e4, e5, e6, e7⟩ := hE
          simp only [Nat.zero_add] at e1 e2 e3 e4 e5 e6 e7
          repeat' ((fail_if_success at_builtin); (first | go_skip | go_guarded | go_step))
          refine wp_app1 hO Tryd.underlying22 ent_info hby ?_
          intro v w10 hO10 hg10
          obtain ⟨A3, c3, rfl⟩ := hO10.slice_form
          have hJ := hI.snoc hW0.out hO hO10 hg10
          obtain ⟨g1, g2⟩ := snoc_cell hI hW0.out hO hg10
          clear k1 kf e0 e1 e2 e3 e4 e5 e6 e7 hI hO hO10 hg10
          repeat' ((fail_if_success at_builtin); (first | go_skip | go_guarded | go_step))
          go_roundw
          case rel => exact ⟨i + 1, A3, c3, by omega, by go_num, hJ⟩
          case measure => simp [intOf]; omega
      · obtain rfl : i = N := by omega
        have hlt2 : ¬ (i : Int) < (i : Int) := by omega
        have hC := hI.x
        have hi24 : i ≤ 1024 := by omega
        have hN2 := hN
        replace hN := Lib.hid hN
        have hE0 : saveE 100 (fullK i) newK 5 = 0 := fullK_saveE i hi24
        replace hE0 := Lib.hid hE0
        have CS := fun (w' : World) (hC : CAx w w' w.heap.size 100 A i c (fullK i)) => save_any 100 (fullK i) newK 5 A i c w' (hR.below hC.below) hC.len hC.seq (by omega) (fullK_fit i) newK_fit
        replace CS := Lib.hid CS
        clear hI
        repeat' ((fail_if_success at_builtin); (first | go_skip | go_guarded | go_step))
        go_cut [6, 7] (fun u6 u7 wx => u7 = .int .i64 0 ∧ ∃ d, u6 = .pointer (some ⟨d, 0, none⟩) ∧ CAx w wx w.heap.size 100 A i c (fullK i) ∧ ∃ A n c, CAx w wx d 100 A n c (saveL 100 (fullK i) newK 5))
        case first =>
          have k0 := hC.c0
          have k1 := hC.c1
          have kl := hC.lo
          replace hC := hC.at (Below.refl _ _).drew
          refine wp_region_held_drew (S := fun _ => True) (by kernel_rfl) trivial (fun hHeld => ?_)
          refine wpAnyH_ready (rs := [0, 1, 6]) (by kernel_rfl) (by simp) ?_
          refine AllReadyH.cons rfl (fun K hK => ?_) ?_
          · go_simp
            refine hK.out _ _ trivial (fun hHeld => ?_)
            clear hK K
            try simp only [Act.put, List.getElem_toArray, List.getElem_cons_zero, List.getElem_cons_succ, List.setIfInBounds_toArray, List.set_cons_zero, List.set_cons_succ]
            refine wpAnyH_ready (rs := [1, 6]) (by kernel_rfl) (by simp) ?_
            refine AllReadyH.cons rfl (fun K hK => ?_) ?_
            · go_simp
              go_at_call 22
              refine (entry_any _ _ _).mono ?_
              rintro e we ⟨rfl, hbe⟩
              dsimp only
              replace hC := hC.at hbe
              try replace hD := hD.at hbe
              have k0 := hC.c0
              have k1 := hC.c1
              refine hK.out _ _ trivial (fun hHeld => ?_)
              clear hK K
              try simp only [Act.put, List.getElem_toArray, List.getElem_cons_zero, List.getElem_cons_succ, List.setIfInBounds_toArray, List.set_cons_zero, List.set_cons_succ]
              refine wpAnyH_ready (rs := [2, 6]) (by kernel_rfl) (by simp) ?_
              refine AllReadyH.cons rfl (fun K hK => ?_) ?_
              · go_simp
                go_at_call 20
                refine (CS.out _ hC).mono ?_
                rintro e ws ⟨A', n', c', rfl, hn', hs', hbs⟩
                dsimp only
                replace hC := hC.at hbs
                have hCs := hC
                try replace hD := hD.at hbs
                rw [hE0.out]
                replace hn' := Lib.hid hn'
                have k0 := hC.c0
                have k1 := hC.c1
                first | (have d0 := hD.c0; have d1 := hD.c1; have df := hD.fr; have dl := hD.lo) | skip
                refine hK.out _ _ trivial (fun hHeld => ?_)
                clear hK K
                try simp only [Act.put, List.getElem_toArray, List.getElem_cons_zero, List.getElem_cons_succ, List.setIfInBounds_toArray, List.set_cons_zero, List.set_cons_succ]
                refine wpAnyH_take (i := 3) (v := ?v606) rfl (by kernel_rfl) (by kernel_rfl) (by kernel_rfl) (fun _ _ _ h => h) (Or.inl ⟨by rfl, ?hy606⟩) (by assumption) ?rest606
                case hy606 => (intro w hSw; (try dsimp only at hSw); go_simp; try with_reducible rfl)
                simp only [Act.put, List.getElem_toArray, List.getElem_cons_zero, List.getElem_cons_succ, List.setIfInBounds_toArray, List.set_cons_zero, List.set_cons_succ]
                refine wpAnyH_take (i := 4) (v := ?v607) rfl (by kernel_rfl) (by kernel_rfl) (by kernel_rfl) (fun _ _ _ h => h) (Or.inl ⟨by rfl, ?hy607⟩) (by assumption) ?rest607
                case hy607 => (intro w hSw; (try dsimp only at hSw); go_simp; try with_reducible rfl)
                simp only [Act.put, List.getElem_toArray, List.getElem_cons_zero, List.getElem_cons_succ, List.setIfInBounds_toArray, List.set_cons_zero, List.set_cons_succ]
                refine wpAnyH_take (i := 5) (v := ?v608) rfl (by kernel_rfl) (by kernel_rfl) (by kernel_rfl) (fun _ _ _ h => h) (Or.inl ⟨by rfl, ?hy608⟩) (by assumption) ?rest608
                case hy608 => (intro w hSw; (try dsimp only at hSw); go_simp; try with_reducible rfl)
                simp only [Act.put, List.getElem_toArray, List.getElem_cons_zero, List.getElem_cons_succ, List.setIfInBounds_toArray, List.set_cons_zero, List.set_cons_succ]
                refine wpAnyH_ready (rs := [6]) (by kernel_rfl) (by simp) ?_
                refine AllReadyH.cons rfl (fun K hK => ?_) ?_
                · go_simp
                  have hD := CAx.fresh (w := w) (c := 0) hC.below 0 (l := []) rfl (seqE_nil _ _ none)
                  have hbd := hC.lo
                  try simp only [drew_hs] at hD hbd
                  replace hC := hC.at ((Below.refl _ _).alloc (Nat.le_refl _) (.cells #[.int .i64 0, .slice none 0 0] 24))
                  have k0 := hC.c0
                  have k1 := hC.c1
                  refine hK.out _ _ trivial (fun hHeld => ?_)
                  clear hK K
                  try simp only [Act.put, List.getElem_toArray, List.getElem_cons_zero, List.getElem_cons_succ, List.setIfInBounds_toArray, List.set_cons_zero, List.set_cons_succ]
                  refine wpAnyH_ready (rs := [7]) (by kernel_rfl) (by simp) ?_
                  refine AllReadyH.cons rfl (fun K hK => ?_) ?_
                  · go_simp
                    refine hK.out _ _ trivial (fun hHeld => ?_)
                    clear hK K
                    try simp only [Act.put, List.getElem_toArray, List.getElem_cons_zero, List.getElem_cons_succ, List.setIfInBounds_toArray, List.set_cons_zero, List.set_cons_succ]
                    refine wpAnyH_take (i := 8) (v := ?v609) rfl (by kernel_rfl) (by kernel_rfl) (by kernel_rfl) (fun _ _ _ h => h) (Or.inl ⟨by rfl, ?hy609⟩) (by assumption) ?rest609
                    case hy609 => (intro w hSw; (try dsimp only at hSw); go_simp; try with_reducible rfl)
                    simp only [Act.put, List.getElem_toArray, List.getElem_cons_zero, List.getElem_cons_succ, List.setIfInBounds_toArray, List.set_cons_zero, List.set_cons_succ]
                    refine wpAnyH_done (by kernel_rfl) ?_ _
                    repeat' ((fail_if_success at_builtin); (first | go_skip | go_guarded | go_step))
                    go_meet
                    case rel => first
                      | exact ⟨rfl, _, rfl, hC.far hD hbd _ _, A', n', c', hD.put 100 hn'.out hs'⟩
                      | exact ⟨rfl, _, rfl, hCs.at ((Below.refl _ _).alloc (Nat.le_refl _) _), A', n', c', CAx.fresh hCs.below 100 hn'.out hs'⟩
                  exact AllReadyH.nil
                exact AllReadyH.nil
              refine AllReadyH.cons rfl (fun K hK => ?_) ?_
              · go_simp
                have hD := CAx.fresh (w := w) (c := 0) hC.below 0 (l := []) rfl (seqE_nil _ _ none)
                have hbd := hC.lo
                try simp only [drew_hs] at hD hbd
                replace hC := hC.at ((Below.refl _ _).alloc (Nat.le_refl _) (.cells #[.int .i64 0, .slice none 0 0] 24))
                have k0 := hC.c0
                have k1 := hC.c1
                refine hK.out _ _ trivial (fun hHeld => ?_)
                clear hK K
                try simp only [Act.put, List.getElem_toArray, List.getElem_cons_zero, List.getElem_cons_succ, List.setIfInBounds_toArray, List.set_cons_zero, List.set_cons_succ]
                refine wpAnyH_ready (rs := [2]) (by kernel_rfl) (by simp) ?_
                refine AllReadyH.cons rfl (fun K hK => ?_) ?_
                · go_simp
                  go_at_call 20
                  refine (CS.out _ hC).mono ?_
                  rintro e ws ⟨A', n', c', rfl, hn', hs', hbs⟩
                  dsimp only
                  replace hC := hC.at hbs
                  have hCs := hC
                  try replace hD := hD.at hbs
                  rw [hE0.out]
                  replace hn' := Lib.hid hn'
                  have k0 := hC.c0
                  have k1 := hC.c1
                  first | (have d0 := hD.c0; have d1 := hD.c1; have df := hD.fr; have dl := hD.lo) | skip
                  refine hK.out _ _ trivial (fun hHeld => ?_)
                  clear hK K
                  try simp only [Act.put, List.getElem_toArray, List.getElem_cons_zero, List.getElem_cons_succ, List.setIfInBounds_toArray, List.set_cons_zero, List.set_cons_succ]
                  refine wpAnyH_take (i := 3) (v := ?v610) rfl (by kernel_rfl) (by kernel_rfl) (by kernel_rfl) (fun _ _ _ h => h) (Or.inl ⟨by rfl, ?hy610⟩) (by assumption) ?rest610
                  case hy610 => (intro w hSw; (try dsimp only at hSw); go_simp; try with_reducible rfl)
                  simp only [Act.put, List.getElem_toArray, List.getElem_cons_zero, List.getElem_cons_succ, List.setIfInBounds_toArray, List.set_cons_zero, List.set_cons_succ]
                  refine wpAnyH_take (i := 4) (v := ?v611) rfl (by kernel_rfl) (by kernel_rfl) (by kernel_rfl) (fun _ _ _ h => h) (Or.inl ⟨by rfl, ?hy611⟩) (by assumption) ?rest611
                  case hy611 => (intro w hSw; (try dsimp only at hSw); go_simp; try with_reducible rfl)
                  simp only [Act.put, List.getElem_toArray, List.getElem_cons_zero, List.getElem_cons_succ, List.setIfInBounds_toArray, List.set_cons_zero, List.set_cons_succ]
                  refine wpAnyH_take (i := 5) (v := ?v612) rfl (by kernel_rfl) (by kernel_rfl) (by kernel_rfl) (fun _ _ _ h => h) (Or.inl ⟨by rfl, ?hy612⟩) (by assumption) ?rest612
                  case hy612 => (intro w hSw; (try dsimp only at hSw); go_simp; try with_reducible rfl)
                  simp only [Act.put, List.getElem_toArray, List.getElem_cons_zero, List.getElem_cons_succ, List.setIfInBounds_toArray, List.set_cons_zero, List.set_cons_succ]
                  refine wpAnyH_ready (rs := [7]) (by kernel_rfl) (by simp) ?_
                  refine AllReadyH.cons rfl (fun K hK => ?_) ?_
                  · go_simp
                    refine hK.out _ _ trivial (fun hHeld => ?_)
                    clear hK K
                    try simp only [Act.put, List.getElem_toArray, List.getElem_cons_zero, List.getElem_cons_succ, List.setIfInBounds_toArray, List.set_cons_zero, List.set_cons_succ]
                    refine wpAnyH_take (i := 8) (v := ?v613) rfl (by kernel_rfl) (by kernel_rfl) (by kernel_rfl) (fun _ _ _ h => h) (Or.inl ⟨by rfl, ?hy613⟩) (by assumption) ?rest613
                    case hy613 => (intro w hSw; (try dsimp only at hSw); go_simp; try with_reducible rfl)
                    simp only [Act.put, List.getElem_toArray, List.getElem_cons_zero, List.getElem_cons_succ, List.setIfInBounds_toArray, List.set_cons_zero, List.set_cons_succ]
                    refine wpAnyH_done (by kernel_rfl) ?_ _
                    repeat' ((fail_if_success at_builtin); (first | go_skip | go_guarded | go_step))
                    go_meet
                    case rel => first
                      | exact ⟨rfl, _, rfl, hC.far hD hbd _ _, A', n', c', hD.put 100 hn'.out hs'⟩
                      | exact ⟨rfl, _, rfl, hCs.at ((Below.refl _ _).alloc (Nat.le_refl _) _), A', n', c', CAx.fresh hCs.below 100 hn'.out hs'⟩
                  exact AllReadyH.nil
                exact AllReadyH.nil
              exact AllReadyH.nil
            refine AllReadyH.cons rfl (fun K hK => ?_) ?_
            · go_simp
              have hD := CAx.fresh (w := w) (c := 0) hC.below 0 (l := []) rfl (seqE_nil _ _ none)
              have hbd := hC.lo
              try simp only [drew_hs] at hD hbd
              replace hC := hC.at ((Below.refl _ _).alloc (Nat.le_refl _) (.cells #[.int .i64 0, .slice none 0 0] 24))
              have k0 := hC.c0
              have k1 := hC.c1
              refine hK.out _ _ trivial (fun hHeld => ?_)
              clear hK K
              try simp only [Act.put, List.getElem_toArray, List.getElem_cons_zero, List.getElem_cons_succ, List.setIfInBounds_toArray, List.set_cons_zero, List.set_cons_succ]
              refine wpAnyH_ready (rs := [1]) (by kernel_rfl) (by simp) ?_
              refine AllReadyH.cons rfl (fun K hK => ?_) ?_
              · go_simp
                go_at_call 22
                refine (entry_any _ _ _).mono ?_
                rintro e we ⟨rfl, hbe⟩
                dsimp only
                replace hC := hC.at hbe
                try replace hD := hD.at hbe
                have k0 := hC.c0
                have k1 := hC.c1
                refine hK.out _ _ trivial (fun hHeld => ?_)
                clear hK K
                try simp only [Act.put, List.getElem_toArray, List.getElem_cons_zero, List.getElem_cons_succ, List.setIfInBounds_toArray, List.set_cons_zero, List.set_cons_succ]
                refine wpAnyH_ready (rs := [2]) (by kernel_rfl) (by simp) ?_
                refine AllReadyH.cons rfl (fun K hK => ?_) ?_
                · go_simp
                  go_at_call 20
                  refine (CS.out _ hC).mono ?_
                  rintro e ws ⟨A', n', c', rfl, hn', hs', hbs⟩
                  dsimp only
                  replace hC := hC.at hbs
                  have hCs := hC
                  try replace hD := hD.at hbs
                  rw [hE0.out]
                  replace hn' := Lib.hid hn'
                  have k0 := hC.c0
                  have k1 := hC.c1
                  first | (have d0 := hD.c0; have d1 := hD.c1; have df := hD.fr; have dl := hD.lo) | skip
                  refine hK.out _ _ trivial (fun hHeld => ?_)
                  clear hK K
                  try simp only [Act.put, List.getElem_toArray, List.getElem_cons_zero, List.getElem_cons_succ, List.setIfInBounds_toArray, List.set_cons_zero, List.set_cons_succ]
                  refine wpAnyH_take (i := 3) (v := ?v614) rfl (by kernel_rfl) (by kernel_rfl) (by kernel_rfl) (fun _ _ _ h => h) (Or.inl ⟨by rfl, ?hy614⟩) (by assumption) ?rest614
                  case hy614 => (intro w hSw; (try dsimp only at hSw); go_simp; try with_reducible rfl)
                  simp only [Act.put, List.getElem_toArray, List.getElem_cons_zero, List.getElem_cons_succ, List.setIfInBounds_toArray, List.set_cons_zero, List.set_cons_succ]
                  refine wpAnyH_take (i := 4) (v := ?v615) rfl (by kernel_rfl) (by kernel_rfl) (by kernel_rfl) (fun _ _ _ h => h) (Or.inl ⟨by rfl, ?hy615⟩) (by assumption) ?rest615
                  case hy615 => (intro w hSw; (try dsimp only at hSw); go_simp; try with_reducible rfl)
                  simp only [Act.put, List.getElem_toArray, List.getElem_cons_zero, List.getElem_cons_succ, List.setIfInBounds_toArray, List.set_cons_zero, List.set_cons_succ]
                  refine wpAnyH_take (i := 5) (v := ?v616) rfl (by kernel_rfl) (by kernel_rfl) (by kernel_rfl) (fun _ _ _ h => h) (Or.inl ⟨by rfl, ?hy616⟩) (by assumption) ?rest616
                  case hy616 => (intro w hSw; (try dsimp only at hSw); go_simp; try with_reducible rfl)
                  simp only [Act.put, List.getElem_toArray, List.getElem_cons_zero, List.getElem_cons_succ, List.setIfInBounds_toArray, List.set_cons_zero, List.set_cons_succ]
                  refine wpAnyH_ready (rs := [7]) (by kernel_rfl) (by simp) ?_
                  refine AllReadyH.cons rfl (fun K hK => ?_) ?_
                  · go_simp
                    refine hK.out _ _ trivial (fun hHeld => ?_)
                    clear hK K
                    try simp only [Act.put, List.getElem_toArray, List.getElem_cons_zero, List.getElem_cons_succ, List.setIfInBounds_toArray, List.set_cons_zero, List.set_cons_succ]
                    refine wpAnyH_take (i := 8) (v := ?v617) rfl (by kernel_rfl) (by kernel_rfl) (by kernel_rfl) (fun _ _ _ h => h) (Or.inl ⟨by rfl, ?hy617⟩) (by assumption) ?rest617
                    case hy617 => (intro w hSw; (try dsimp only at hSw); go_simp; try with_reducible rfl)
                    simp only [Act.put, List.getElem_toArray, List.getElem_cons_zero, List.getElem_cons_succ, List.setIfInBounds_toArray, List.set_cons_zero, List.set_cons_succ]
                    refine wpAnyH_done (by kernel_rfl) ?_ _
                    repeat' ((fail_if_success at_builtin); (first | go_skip | go_guarded | go_step))
                    go_meet
                    case rel => first
                      | exact ⟨rfl, _, rfl, hC.far hD hbd _ _, A', n', c', hD.put 100 hn'.out hs'⟩
                      | exact ⟨rfl, _, rfl, hCs.at ((Below.refl _ _).alloc (Nat.le_refl _) _), A', n', c', CAx.fresh hCs.below 100 hn'.out hs'⟩
                  exact AllReadyH.nil
                exact AllReadyH.nil
              exact AllReadyH.nil
            exact AllReadyH.nil
          refine AllReadyH.cons rfl (fun K hK => ?_) ?_
          · go_simp
            go_at_call 22
            refine (entry_any _ _ _).mono ?_
            rintro e we ⟨rfl, hbe⟩
            dsimp only
            replace hC := hC.at hbe
            try replace hD := hD.at hbe
            have k0 := hC.c0
            have k1 := hC.c1
            refine hK.out _ _ trivial (fun hHeld => ?_)
            clear hK K
            try simp only [Act.put, List.getElem_toArray, List.getElem_cons_zero, List.getElem_cons_succ, List.setIfInBounds_toArray, List.set_cons_zero, List.set_cons_succ]
            refine wpAnyH_ready (rs := [0, 6]) (by kernel_rfl) (by simp) ?_
            refine AllReadyH.cons rfl (fun K hK => ?_) ?_
            · go_simp
              refine hK.out _ _ trivial (fun hHeld => ?_)
              clear hK K
              try simp only [Act.put, List.getElem_toArray, List.getElem_cons_zero, List.getElem_cons_succ, List.setIfInBounds_toArray, List.set_cons_zero, List.set_cons_succ]
              refine wpAnyH_ready (rs := [2, 6]) (by kernel_rfl) (by simp) ?_
              refine AllReadyH.cons rfl (fun K hK => ?_) ?_
              · go_simp
                go_at_call 20
                refine (CS.out _ hC).mono ?_
                rintro e ws ⟨A', n', c', rfl, hn', hs', hbs⟩
                dsimp only
                replace hC := hC.at hbs
                have hCs := hC
                try replace hD := hD.at hbs
                rw [hE0.out]
                replace hn' := Lib.hid hn'
                have k0 := hC.c0
                have k1 := hC.c1
                first | (have d0 := hD.c0; have d1 := hD.c1; have df := hD.fr; have dl := hD.lo) | skip
                refine hK.out _ _ trivial (fun hHeld => ?_)
                clear hK K
                try simp only [Act.put, List.getElem_toArray, List.getElem_cons_zero, List.getElem_cons_succ, List.setIfInBounds_toArray, List.set_cons_zero, List.set_cons_succ]
                refine wpAnyH_take (i := 3) (v := ?v618) rfl (by kernel_rfl) (by kernel_rfl) (by kernel_rfl) (fun _ _ _ h => h) (Or.inl ⟨by rfl, ?hy618⟩) (by assumption) ?rest618
                case hy618 => (intro w hSw; (try dsimp only at hSw); go_simp; try with_reducible rfl)
                simp only [Act.put, List.getElem_toArray, List.getElem_cons_zero, List.getElem_cons_succ, List.setIfInBounds_toArray, List.set_cons_zero, List.set_cons_succ]
                refine wpAnyH_take (i := 4) (v := ?v619) rfl (by kernel_rfl) (by kernel_rfl) (by kernel_rfl) (fun _ _ _ h => h) (Or.inl ⟨by rfl, ?hy619⟩) (by assumption) ?rest619
                case hy619 => (intro w hSw; (try dsimp only at hSw); go_simp; try with_reducible rfl)
                simp only [Act.put, List.getElem_toArray, List.getElem_cons_zero, List.getElem_cons_succ, List.setIfInBounds_toArray, List.set_cons_zero, List.set_cons_succ]
                refine wpAnyH_take (i := 5) (v := ?v620) rfl (by kernel_rfl) (by kernel_rfl) (by kernel_rfl) (fun _ _ _ h => h) (Or.inl ⟨by rfl, ?hy620⟩) (by assumption) ?rest620
                case hy620 => (intro w hSw; (try dsimp only at hSw); go_simp; try with_reducible rfl)
                simp only [Act.put, List.getElem_toArray, List.getElem_cons_zero, List.getElem_cons_succ, List.setIfInBounds_toArray, List.set_cons_zero, List.set_cons_succ]
                refine wpAnyH_ready (rs := [6]) (by kernel_rfl) (by simp) ?_
                refine AllReadyH.cons rfl (fun K hK => ?_) ?_
                · go_simp
                  have hD := CAx.fresh (w := w) (c := 0) hC.below 0 (l := []) rfl (seqE_nil _ _ none)
                  have hbd := hC.lo
                  try simp only [drew_hs] at hD hbd
                  replace hC := hC.at ((Below.refl _ _).alloc (Nat.le_refl _) (.cells #[.int .i64 0, .slice none 0 0] 24))
                  have k0 := hC.c0
                  have k1 := hC.c1
                  refine hK.out _ _ trivial (fun hHeld => ?_)
                  clear hK K
                  try simp only [Act.put, List.getElem_toArray, List.getElem_cons_zero, List.getElem_cons_succ, List.setIfInBounds_toArray, List.set_cons_zero, List.set_cons_succ]
                  refine wpAnyH_ready (rs := [7]) (by kernel_rfl) (by simp) ?_
                  refine AllReadyH.cons rfl (fun K hK => ?_) ?_
                  · go_simp
                    refine hK.out _ _ trivial (fun hHeld => ?_)
                    clear hK K
                    try simp only [Act.put, List.getElem_toArray, List.getElem_cons_zero, List.getElem_cons_succ, List.setIfInBounds_toArray, List.set_cons_zero, List.set_cons_succ]
                    refine wpAnyH_take (i := 8) (v := ?v621) rfl (by kernel_rfl) (by kernel_rfl) (by kernel_rfl) (fun _ _ _ h => h) (Or.inl ⟨by rfl, ?hy621⟩) (by assumption) ?rest621
                    case hy621 => (intro w hSw; (try dsimp only at hSw); go_simp; try with_reducible rfl)
                    simp only [Act.put, List.getElem_toArray, List.getElem_cons_zero, List.getElem_cons_succ, List.setIfInBounds_toArray, List.set_cons_zero, List.set_cons_succ]
                    refine wpAnyH_done (by kernel_rfl) ?_ _
                    repeat' ((fail_if_success at_builtin); (first | go_skip | go_guarded | go_step))
                    go_meet
                    case rel => first
                      | exact ⟨rfl, _, rfl, hC.far hD hbd _ _, A', n', c', hD.put 100 hn'.out hs'⟩
                      | exact ⟨rfl, _, rfl, hCs.at ((Below.refl _ _).alloc (Nat.le_refl _) _), A', n', c', CAx.fresh hCs.below 100 hn'.out hs'⟩
                  exact AllReadyH.nil
                exact AllReadyH.nil
              refine AllReadyH.cons rfl (fun K hK => ?_) ?_
              · go_simp
                have hD := CAx.fresh (w := w) (c := 0) hC.below 0 (l := []) rfl (seqE_nil _ _ none)
                have hbd := hC.lo
                try simp only [drew_hs] at hD hbd
                replace hC := hC.at ((Below.refl _ _).alloc (Nat.le_refl _) (.cells #[.int .i64 0, .slice none 0 0] 24))
                have k0 := hC.c0
                have k1 := hC.c1
                refine hK.out _ _ trivial (fun hHeld => ?_)
                clear hK K
                try simp only [Act.put, List.getElem_toArray, List.getElem_cons_zero, List.getElem_cons_succ, List.setIfInBounds_toArray, List.set_cons_zero, List.set_cons_succ]
                refine wpAnyH_ready (rs := [2]) (by kernel_rfl) (by simp) ?_
                refine AllReadyH.cons rfl (fun K hK => ?_) ?_
                · go_simp
                  go_at_call 20
                  refine (CS.out _ hC).mono ?_
                  rintro e ws ⟨A', n', c', rfl, hn', hs', hbs⟩
                  dsimp only
                  replace hC := hC.at hbs
                  have hCs := hC
                  try replace hD := hD.at hbs
                  rw [hE0.out]
                  replace hn' := Lib.hid hn'
                  have k0 := hC.c0
                  have k1 := hC.c1
                  first | (have d0 := hD.c0; have d1 := hD.c1; have df := hD.fr; have dl := hD.lo) | skip
                  refine hK.out _ _ trivial (fun hHeld => ?_)
                  clear hK K
                  try simp only [Act.put, List.getElem_toArray, List.getElem_cons_zero, List.getElem_cons_succ, List.setIfInBounds_toArray, List.set_cons_zero, List.set_cons_succ]
                  refine wpAnyH_take (i := 3) (v := ?v622) rfl (by kernel_rfl) (by kernel_rfl) (by kernel_rfl) (fun _ _ _ h => h) (Or.inl ⟨by rfl, ?hy622⟩) (by assumption) ?rest622
                  case hy622 => (intro w hSw; (try dsimp only at hSw); go_simp; try with_reducible rfl)
                  simp only [Act.put, List.getElem_toArray, List.getElem_cons_zero, List.getElem_cons_succ, List.setIfInBounds_toArray, List.set_cons_zero, List.set_cons_succ]
                  refine wpAnyH_take (i := 4) (v := ?v623) rfl (by kernel_rfl) (by kernel_rfl) (by kernel_rfl) (fun _ _ _ h => h) (Or.inl ⟨by rfl, ?hy623⟩) (by assumption) ?rest623
                  case hy623 => (intro w hSw; (try dsimp only at hSw); go_simp; try with_reducible rfl)
                  simp only [Act.put, List.getElem_toArray, List.getElem_cons_zero, List.getElem_cons_succ, List.setIfInBounds_toArray, List.set_cons_zero, List.set_cons_succ]
                  refine wpAnyH_take (i := 5) (v := ?v624) rfl (by kernel_rfl) (by kernel_rfl) (by kernel_rfl) (fun _ _ _ h => h) (Or.inl ⟨by rfl, ?hy624⟩) (by assumption) ?rest624
                  case hy624 => (intro w hSw; (try dsimp only at hSw); go_simp; try with_reducible rfl)
                  simp only [Act.put, List.getElem_toArray, List.getElem_cons_zero, List.getElem_cons_succ, List.setIfInBounds_toArray, List.set_cons_zero, List.set_cons_succ]
                  refine wpAnyH_ready (rs := [7]) (by kernel_rfl) (by simp) ?_
                  refine AllReadyH.cons rfl (fun K hK => ?_) ?_
                  · go_simp
                    refine hK.out _ _ trivial (fun hHeld => ?_)
                    clear hK K
                    try simp only [Act.put, List.getElem_toArray, List.getElem_cons_zero, List.getElem_cons_succ, List.setIfInBounds_toArray, List.set_cons_zero, List.set_cons_succ]
                    refine wpAnyH_take (i := 8) (v := ?v625) rfl (by kernel_rfl) (by kernel_rfl) (by kernel_rfl) (fun _ _ _ h => h) (Or.inl ⟨by rfl, ?hy625⟩) (by assumption) ?rest625
                    case hy625 => (intro w hSw; (try dsimp only at hSw); go_simp; try with_reducible rfl)
                    simp only [Act.put, List.getElem_toArray, List.getElem_cons_zero, List.getElem_cons_succ, List.setIfInBounds_toArray, List.set_cons_zero, List.set_cons_succ]
                    refine wpAnyH_done (by kernel_rfl) ?_ _
                    repeat' ((fail_if_success at_builtin); (first | go_skip | go_guarded | go_step))
                    go_meet
                    case rel => first
                      | exact ⟨rfl, _, rfl, hC.far hD hbd _ _, A', n', c', hD.put 100 hn'.out hs'⟩
                      | exact ⟨rfl, _, rfl, hCs.at ((Below.refl _ _).alloc (Nat.le_refl _) _), A', n', c', CAx.fresh hCs.below 100 hn'.out hs'⟩
                  exact AllReadyH.nil
                exact AllReadyH.nil
              exact AllReadyH.nil
            refine AllReadyH.cons rfl (fun K hK => ?_) ?_
            · go_simp
              have hD := CAx.fresh (w := w) (c := 0) hC.below 0 (l := []) rfl (seqE_nil _ _ none)
              have hbd := hC.lo
              try simp only [drew_hs] at hD hbd
              replace hC := hC.at ((Below.refl _ _).alloc (Nat.le_refl _) (.cells #[.int .i64 0, .slice none 0 0] 24))
              have k0 := hC.c0
              have k1 := hC.c1
              refine hK.out _ _ trivial (fun hHeld => ?_)
              clear hK K
              try simp only [Act.put, List.getElem_toArray, List.getElem_cons_zero, List.getElem_cons_succ, List.setIfInBounds_toArray, List.set_cons_zero, List.set_cons_succ]
              refine wpAnyH_ready (rs := [0]) (by kernel_rfl) (by simp) ?_
              refine AllReadyH.cons rfl (fun K hK => ?_) ?_
              · go_simp
                refine hK.out _ _ trivial (fun hHeld => ?_)
                clear hK K
                try simp only [Act.put, List.getElem_toArray, List.getElem_cons_zero, List.getElem_cons_succ, List.setIfInBounds_toArray, List.set_cons_zero, List.set_cons_succ]
                refine wpAnyH_ready (rs := [2]) (by kernel_rfl) (by simp) ?_
                refine AllReadyH.cons rfl (fun K hK => ?_) ?_
                · go_simp
                  go_at_call 20
                  refine (CS.out _ hC).mono ?_
                  rintro e ws ⟨A', n', c', rfl, hn', hs', hbs⟩
                  dsimp only
                  replace hC := hC.at hbs
                  have hCs := hC
                  try replace hD := hD.at hbs
                  rw [hE0.out]
                  replace hn' := Lib.hid hn'
                  have k0 := hC.c0
                  have k1 := hC.c1
                  first | (have d0 := hD.c0; have d1 := hD.c1; have df := hD.fr; have dl := hD.lo) | skip
                  refine hK.out _ _ trivial (fun hHeld => ?_)
                  clear hK K
                  try simp only [Act.put, List.getElem_toArray, List.getElem_cons_zero, List.getElem_cons_succ, List.setIfInBounds_toArray, List.set_cons_zero, List.set_cons_succ]
                  refine wpAnyH_take (i := 3) (v := ?v626) rfl (by kernel_rfl) (by kernel_rfl) (by kernel_rfl) (fun _ _ _ h => h) (Or.inl ⟨by rfl, ?hy626⟩) (by assumption) ?rest626
                  case hy626 => (intro w hSw; (try dsimp only at hSw); go_simp; try with_reducible rfl)
                  simp only [Act.put, List.getElem_toArray, List.getElem_cons_zero, List.getElem_cons_succ, List.setIfInBounds_toArray, List.set_cons_zero, List.set_cons_succ]
                  refine wpAnyH_take (i := 4) (v := ?v627) rfl (by kernel_rfl) (by kernel_rfl) (by kernel_rfl) (fun _ _ _ h => h) (Or.inl ⟨by rfl, ?hy627⟩) (by assumption) ?rest627
                  case hy627 => (intro w hSw; (try dsimp only at hSw); go_simp; try with_reducible rfl)
                  simp only [Act.put, List.getElem_toArray, List.getElem_cons_zero, List.getElem_cons_succ, List.setIfInBounds_toArray, List.set_cons_zero, List.set_cons_succ]
                  refine wpAnyH_take (i := 5) (v := ?v628) rfl (by kernel_rfl) (by kernel_rfl) (by kernel_rfl) (fun _ _ _ h => h) (Or.inl ⟨by rfl, ?hy628⟩) (by assumption) ?rest628
                  case hy628 => (intro w hSw; (try dsimp only at hSw); go_simp; try with_reducible rfl)
                  simp only [Act.put, List.getElem_toArray, List.getElem_cons_zero, List.getElem_cons_succ, List.setIfInBounds_toArray, List.set_cons_zero, List.set_cons_succ]
                  refine wpAnyH_ready (rs := [7]) (by kernel_rfl) (by simp) ?_
                  refine AllReadyH.cons rfl (fun K hK => ?_) ?_
                  · go_simp
                    refine hK.out _ _ trivial (fun hHeld => ?_)
                    clear hK K
                    try simp only [Act.put, List.getElem_toArray, List.getElem_cons_zero, List.getElem_cons_succ, List.setIfInBounds_toArray, List.set_cons_zero, List.set_cons_succ]
                    refine wpAnyH_take (i := 8) (v := ?v629) rfl (by kernel_rfl) (by kernel_rfl) (by kernel_rfl) (fun _ _ _ h => h) (Or.inl ⟨by rfl, ?hy629⟩) (by assumption) ?rest629
                    case hy629 => (intro w hSw; (try dsimp only at hSw); go_simp; try with_reducible rfl)
                    simp only [Act.put, List.getElem_toArray, List.getElem_cons_zero, List.getElem_cons_succ, List.setIfInBounds_toArray, List.set_cons_zero, List.set_cons_succ]
                    refine wpAnyH_done (by kernel_rfl) ?_ _
                    repeat' ((fail_if_success at_builtin); (first | go_skip | go_guarded | go_step))
                    go_meet
                    case rel => first
                      | exact ⟨rfl, _, rfl, hC.far hD hbd _ _, A', n', c', hD.put 100 hn'.out hs'⟩
                      | exact ⟨rfl, _, rfl, hCs.at ((Below.refl _ _).alloc (Nat.le_refl _) _), A', n', c', CAx.fresh hCs.below 100 hn'.out hs'⟩
                  exact AllReadyH.nil
                exact AllReadyH.nil
              exact AllReadyH.nil
            exact AllReadyH.nil
          refine AllReadyH.cons rfl (fun K hK => ?_) ?_
          · go_simp
            have hD := CAx.fresh (w := w) (c := 0) hC.below 0 (l := []) rfl (seqE_nil _ _ none)
            have hbd := hC.lo
            try simp only [drew_hs] at hD hbd
            replace hC := hC.at ((Below.refl _ _).alloc (Nat.le_refl _) (.cells #[.int .i64 0, .slice none 0 0] 24))
            have k0 := hC.c0
            have k1 := hC.c1
            refine hK.out _ _ trivial (fun hHeld => ?_)
            clear hK K
            try simp only [Act.put, List.getElem_toArray, List.getElem_cons_zero, List.getElem_cons_succ, List.setIfInBounds_toArray, List.set_cons_zero, List.set_cons_succ]
            refine wpAnyH_ready (rs := [0, 1]) (by kernel_rfl) (by simp) ?_
            refine AllReadyH.cons rfl (fun K hK => ?_) ?_
            · go_simp
              refine hK.out _ _ trivial (fun hHeld => ?_)
              clear hK K
              try simp only [Act.put, List.getElem_toArray, List.getElem_cons_zero, List.getElem_cons_succ, List.setIfInBounds_toArray, List.set_cons_zero, List.set_cons_succ]
              refine wpAnyH_ready (rs := [1]) (by kernel_rfl) (by simp) ?_
              refine AllReadyH.cons rfl (fun K hK => ?_) ?_
              · go_simp
                go_at_call 22
                refine (entry_any _ _ _).mono ?_
                rintro e we ⟨rfl, hbe⟩
                dsimp only
                replace hC := hC.at hbe
                try replace hD := hD.at hbe
                have k0 := hC.c0
                have k1 := hC.c1
                refine hK.out _ _ trivial (fun hHeld => ?_)
                clear hK K
                try simp only [Act.put, List.getElem_toArray, List.getElem_cons_zero, List.getElem_cons_succ, List.setIfInBounds_toArray, List.set_cons_zero, List.set_cons_succ]
                refine wpAnyH_ready (rs := [2]) (by kernel_rfl) (by simp) ?_
                refine AllReadyH.cons rfl (fun K hK => ?_) ?_
                · go_simp
                  go_at_call 20
                  refine (CS.out _ hC).mono ?_
                  rintro e ws ⟨A', n', c', rfl, hn', hs', hbs⟩
                  dsimp only
                  replace hC := hC.at hbs
                  have hCs := hC
                  try replace hD := hD.at hbs
                  rw [hE0.out]
                  replace hn' := Lib.hid hn'
                  have k0 := hC.c0
                  have k1 := hC.c1
                  first | (have d0 := hD.c0; have d1 := hD.c1; have df := hD.fr; have dl := hD.lo) | skip
                  refine hK.out _ _ trivial (fun hHeld => ?_)
                  clear hK K
                  try simp only [Act.put, List.getElem_toArray, List.getElem_cons_zero, List.getElem_cons_succ, List.setIfInBounds_toArray, List.set_cons_zero, List.set_cons_succ]
                  refine wpAnyH_take (i := 3) (v := ?v630) rfl (by kernel_rfl) (by kernel_rfl) (by kernel_rfl) (fun _ _ _ h => h) (Or.inl ⟨by rfl, ?hy630⟩) (by assumption) ?rest630
                  case hy630 => (intro w hSw; (try dsimp only at hSw); go_simp; try with_reducible rfl)
                  simp only [Act.put, List.getElem_toArray, List.getElem_cons_zero, List.getElem_cons_succ, List.setIfInBounds_toArray, List.set_cons_zero, List.set_cons_succ]
                  refine wpAnyH_take (i := 4) (v := ?v631) rfl (by kernel_rfl) (by kernel_rfl) (by kernel_rfl) (fun _ _ _ h => h) (Or.inl ⟨by rfl, ?hy631⟩) (by assumption) ?rest631
                  case hy631 => (intro w hSw; (try dsimp only at hSw); go_simp; try with_reducible rfl)
                  simp only [Act.put, List.getElem_toArray, List.getElem_cons_zero, List.getElem_cons_succ, List.setIfInBounds_toArray, List.set_cons_zero, List.set_cons_succ]
                  refine wpAnyH_take (i := 5) (v := ?v632) rfl (by kernel_rfl) (by kernel_rfl) (by kernel_rfl) (fun _ _ _ h => h) (Or.inl ⟨by rfl, ?hy632⟩) (by assumption) ?rest632
                  case hy632 => (intro w hSw; (try dsimp only at hSw); go_simp; try with_reducible rfl)
                  simp only [Act.put, List.getElem_toArray, List.getElem_cons_zero, List.getElem_cons_succ, List.setIfInBounds_toArray, List.set_cons_zero, List.set_cons_succ]
                  refine wpAnyH_ready (rs := [7]) (by kernel_rfl) (by simp) ?_
                  refine AllReadyH.cons rfl (fun K hK => ?_) ?_
                  · go_simp
                    refine hK.out _ _ trivial (fun hHeld => ?_)
                    clear hK K
                    try simp only [Act.put, List.getElem_toArray, List.getElem_cons_zero, List.getElem_cons_succ, List.setIfInBounds_toArray, List.set_cons_zero, List.set_cons_succ]
                    refine wpAnyH_take (i := 8) (v := ?v633) rfl (by kernel_rfl) (by kernel_rfl) (by kernel_rfl) (fun _ _ _ h => h) (Or.inl ⟨by rfl, ?hy633⟩) (by assumption) ?rest633
                    case hy633 => (intro w hSw; (try dsimp only at hSw); go_simp; try with_reducible rfl)
                    simp only [Act.put, List.getElem_toArray, List.getElem_cons_zero, List.getElem_cons_succ, List.setIfInBounds_toArray, List.set_cons_zero, List.set_cons_succ]
                    refine wpAnyH_done (by kernel_rfl) ?_ _
                    repeat' ((fail_if_success at_builtin); (first | go_skip | go_guarded | go_step))
                    go_meet
                    case rel => first
                      | exact ⟨rfl, _, rfl, hC.far hD hbd _ _, A', n', c', hD.put 100 hn'.out hs'⟩
                      | exact ⟨rfl, _, rfl, hCs.at ((Below.refl _ _).alloc (Nat.le_refl _) _), A', n', c', CAx.fresh hCs.below 100 hn'.out hs'⟩
                  exact AllReadyH.nil
                exact AllReadyH.nil
              exact AllReadyH.nil
            refine AllReadyH.cons rfl (fun K hK => ?_) ?_
            · go_simp
              go_at_call 22
              refine (entry_any _ _ _).mono ?_
              rintro e we ⟨rfl, hbe⟩
              dsimp only
              replace hC := hC.at hbe
              try replace hD := hD.at hbe
              have k0 := hC.c0
              have k1 := hC.c1
              refine hK.out _ _ trivial (fun hHeld => ?_)
              clear hK K
              try simp only [Act.put, List.getElem_toArray, List.getElem_cons_zero, List.getElem_cons_succ, List.setIfInBounds_toArray, List.set_cons_zero, List.set_cons_succ]
              refine wpAnyH_ready (rs := [0]) (by kernel_rfl) (by simp) ?_
              refine AllReadyH.cons rfl (fun K hK => ?_) ?_
              · go_simp
                refine hK.out _ _ trivial (fun hHeld => ?_)
                clear hK K
                try simp only [Act.put, List.getElem_toArray, List.getElem_cons_zero, List.getElem_cons_succ, List.setIfInBounds_toArray, List.set_cons_zero, List.set_cons_succ]
                refine wpAnyH_ready (rs := [2]) (by kernel_rfl) (by simp) ?_
                refine AllReadyH.cons rfl (fun K hK => ?_) ?_
                · go_simp
                  go_at_call 20
                  refine (CS.out _ hC).mono ?_
                  rintro e ws ⟨A', n', c', rfl, hn', hs', hbs⟩
                  dsimp only
                  replace hC := hC.at hbs
                  have hCs := hC
                  try replace hD := hD.at hbs
                  rw [hE0.out]
                  replace hn' := Lib.hid hn'
                  have k0 := hC.c0
                  have k1 := hC.c1
                  first | (have d0 := hD.c0; have d1 := hD.c1; have df := hD.fr; have dl := hD.lo) | skip
                  refine hK.out _ _ trivial (fun hHeld => ?_)
                  clear hK K
                  try simp only [Act.put, List.getElem_toArray, List.getElem_cons_zero, List.getElem_cons_succ, List.setIfInBounds_toArray, List.set_cons_zero, List.set_cons_succ]
                  refine wpAnyH_take (i := 3) (v := ?v634) rfl (by kernel_rfl) (by kernel_rfl) (by kernel_rfl) (fun _ _ _ h => h) (Or.inl ⟨by rfl, ?hy634⟩) (by assumption) ?rest634
                  case hy634 => (intro w hSw; (try dsimp only at hSw); go_simp; try with_reducible rfl)
                  simp only [Act.put, List.getElem_toArray, List.getElem_cons_zero, List.getElem_cons_succ, List.setIfInBounds_toArray, List.set_cons_zero, List.set_cons_succ]
                  refine wpAnyH_take (i := 4) (v := ?v635) rfl (by kernel_rfl) (by kernel_rfl) (by kernel_rfl) (fun _ _ _ h => h) (Or.inl ⟨by rfl, ?hy635⟩) (by assumption) ?rest635
                  case hy635 => (intro w hSw; (try dsimp only at hSw); go_simp; try with_reducible rfl)
                  simp only [Act.put, List.getElem_toArray, List.getElem_cons_zero, List.getElem_cons_succ, List.setIfInBounds_toArray, List.set_cons_zero, List.set_cons_succ]
                  refine wpAnyH_take (i := 5) (v := ?v636) rfl (by kernel_rfl) (by kernel_rfl) (by kernel_rfl) (fun _ _ _ h => h) (Or.inl ⟨by rfl, ?hy636⟩) (by assumption) ?rest636
                  case hy636 => (intro w hSw; (try dsimp only at hSw); go_simp; try with_reducible rfl)
                  simp only [Act.put, List.getElem_toArray, List.getElem_cons_zero, List.getElem_cons_succ, List.setIfInBounds_toArray, List.set_cons_zero, List.set_cons_succ]
                  refine wpAnyH_ready (rs := [7]) (by kernel_rfl) (by simp) ?_
                  refine AllReadyH.cons rfl (fun K hK => ?_) ?_
                  · go_simp
                    refine hK.out _ _ trivial (fun hHeld => ?_)
                    clear hK K
                    try simp only [Act.put, List.getElem_toArray, List.getElem_cons_zero, List.getElem_cons_succ, List.setIfInBounds_toArray, List.set_cons_zero, List.set_cons_succ]
                    refine wpAnyH_take (i := 8) (v := ?v637) rfl (by kernel_rfl) (by kernel_rfl) (by kernel_rfl) (fun _ _ _ h => h) (Or.inl ⟨by rfl, ?hy637⟩) (by assumption) ?rest637
                    case hy637 => (intro w hSw; (try dsimp only at hSw); go_simp; try with_reducible rfl)
                    simp only [Act.put, List.getElem_toArray, List.getElem_cons_zero, List.getElem_cons_succ, List.setIfInBounds_toArray, List.set_cons_zero, List.set_cons_succ]
                    refine wpAnyH_done (by kernel_rfl) ?_ _
                    repeat' ((fail_if_success at_builtin); (first | go_skip | go_guarded | go_step))
                    go_meet
                    case rel => first
                      | exact ⟨rfl, _, rfl, hC.far hD hbd _ _, A', n', c', hD.put 100 hn'.out hs'⟩
                      | exact ⟨rfl, _, rfl, hCs.at ((Below.refl _ _).alloc (Nat.le_refl _) _), A', n', c', CAx.fresh hCs.below 100 hn'.out hs'⟩
                  exact AllReadyH.nil
                exact AllReadyH.nil
              exact AllReadyH.nil
            exact AllReadyH.nil
          exact AllReadyH.nil
        case rest =>
          clear hC
          obtain ⟨rfl, d, rfl, hC, A2, n2, c2, hD⟩ := hcut
          have hbw := hC.below
          by_cases h0 : n = 0
          · have h0' : (n : Int) = 0 := by omega
            have hi : i = 1024 := by omega
            have hl2 := fullK_saveL i hi
            have hlen2 : n2 = 1024 := by rw [hD.len, hl2, List.length_append, List.length_drop, fullK_len]; simp; omega
            have hx0 : (saveL 100 (fullK i) newK 5)[0]? = some (entK 1) := by
              rw [hl2, List.getElem?_append_left (by rw [List.length_drop, fullK_len]; omega), List.getElem?_drop, fullK_at i 1 (by omega)]
            have hx1 : (saveL 100 (fullK i) newK 5)[1023]? = some (stamp newK 5) := by
              rw [hl2, List.getElem?_append_right (by rw [List.length_drop, fullK_len]; omega), List.length_drop, fullK_len, show 1023 - (i - 1) = 0 by omega]
              rfl
            subst hlen2
            obtain ⟨b9, o9, rfl, hb9, he⟩ := ent_at (i := 0) hD.seq hD.len hx0
            obtain ⟨b8, o8, hA8, hb8, he8⟩ := ent_at (i := 1023) hD.seq hD.len hx1
            cases hA8
            have e3 := he.c3
            have g3 := he8.c3
            have d1 := hD.c1
            have hk1 : (entK 1).key.toList = [107, 48, 48, 48, 49] := by kernel_rfl
            have hk2 : (stamp newK 5).key.toList = [110, 101, 119] := by kernel_rfl
            clear hC hD he
            repeat' ((fail_if_success at_builtin); (first | go_skip | go_guarded | go_step))
            refine (CA.out _ hbw).mono ?_
            rintro e w9 ⟨rfl, hb9⟩
            dsimp only
            have hbx := hbw.trans (hb9.mono hbw.size)
            repeat' ((fail_if_success at_builtin); (first | go_skip | go_guarded | go_step))
            go_ret
            exact ⟨rfl, hbx⟩
          · have h0' : ¬ (n : Int) = 0 := by omega
            have hi : i < 1024 := by omega
            have hl2 := fullK_saveL_few i hi
            have hlen2 : n2 = i + 1 := by rw [hD.len, hl2, List.length_append, fullK_len]; rfl
            have hx0 : (saveL 100 (fullK i) newK 5)[0]? = some (entK 0) := by
              rw [hl2, List.getElem?_append_left (by rw [fullK_len]; omega), fullK_at i 0 (by omega)]
            subst hlen2
            obtain ⟨b9, o9, rfl, hb9, he⟩ := ent_at (i := 0) hD.seq hD.len hx0
            have e3 := he.c3
            have d1 := hD.c1
            have k1 := hC.c1
            have hk1 : (entK 0).key.toList = [107, 48, 48, 48, 48] := by kernel_rfl
            clear hC hD he
            repeat' ((fail_if_success at_builtin); (first | go_skip | go_guarded | go_step))
            refine (CA.out _ hbw).mono ?_
            rintro e w9 ⟨rfl, hb9⟩
            dsimp only
            have hbx := hbw.trans (hb9.mono hbw.size)
            repeat' ((fail_if_success at_builtin); (first | go_skip | go_guarded | go_step))
            go_ret
            exact ⟨rfl, hbx⟩
end Go.Proofs.YtpdlapdnjmoaoaaDoor
