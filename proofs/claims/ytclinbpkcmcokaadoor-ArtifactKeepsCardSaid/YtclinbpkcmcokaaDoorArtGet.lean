/- Get, on both sides. -/
import Derived.Test.YtclinbpkcmcokaaDoorArtRPut
namespace Go.Proofs.YtclinbpkcmcokaaDoor
open Go.RowKit
def zeroA : Art := ⟨ByteArray.empty, ByteArray.empty, 0, ByteArray.empty, 0, 0, 0, 0⟩
def getA (l : List Art) (run s : ByteArray) (now : Int) : Art × Nat := match l.findIdx? (hit run s) with
  | none => (zeroA, 8)
  | some i => match l[i]? with
    | none => (zeroA, 8)
    | some a => if a.expires ≤ now then (zeroA, 20) else (a, 0)
set_option maxRecDepth 100000 in
set_option maxHeartbeats 800000 in
theorem get_any (run s : ByteArray) (now : Int) (l : List Art) (A : Option Addr) (c : Nat) (w : World) (B : Nat) (hB : B ≤ w.heap.size) (hs : SeqA w B A l) (hl : l.length ≤ 1000000) (hsh : ∀ a ∈ l, Shrt a) :
    Calls Tryd.prog 16 #[.slice A l.length c, .string run, .string s, .int .i64 now] w fun e w' => e = .returned (.tuple #[.agg (acells (getA l run s now).1), .int .i64 ((getA l run s now).2 : Int)]) ∧ Below w.heap.size w w' := by
  have hba := (Below.refl w.heap.size w).alloc (Nat.le_refl _) (.cells (acells zeroA) 30)
  have C := find_any run s l A c _ B (Nat.le_trans hB hba.size) (hs.below (hba.mono hB)) hl hsh
  have hfz0 : ∀ j, (w.alloc (.cells (acells zeroA) 30)).frozen? ⟨w.heap.size, j, none⟩ = false := fun j => by simp [go_sem]
  have z0 : (w.alloc (.cells (acells zeroA) 30)).cell? ⟨w.heap.size, 0, none⟩ = some (.string zeroA.run) := by simp [go_sem]
  have z1 : (w.alloc (.cells (acells zeroA) 30)).cell? ⟨w.heap.size, 1, none⟩ = some (.string zeroA.job) := by simp [go_sem]
  have z2 : (w.alloc (.cells (acells zeroA) 30)).cell? ⟨w.heap.size, 2, none⟩ = some (.int .i64 zeroA.att) := by simp [go_sem]
  have z3 : (w.alloc (.cells (acells zeroA) 30)).cell? ⟨w.heap.size, 3, none⟩ = some (.string zeroA.nm) := by simp [go_sem]
  have z4 : (w.alloc (.cells (acells zeroA) 30)).cell? ⟨w.heap.size, 4, none⟩ = some (.int .u64 zeroA.dig) := by simp [go_sem]
  have z5 : (w.alloc (.cells (acells zeroA) 30)).cell? ⟨w.heap.size, 5, none⟩ = some (.int .i64 zeroA.size) := by simp [go_sem]
  have z6 : (w.alloc (.cells (acells zeroA) 30)).cell? ⟨w.heap.size, 6, none⟩ = some (.int .i64 zeroA.created) := by simp [go_sem]
  have z7 : (w.alloc (.cells (acells zeroA) 30)).cell? ⟨w.heap.size, 7, none⟩ = some (.int .i64 zeroA.expires) := by simp [go_sem]
  have hzz : (w.alloc (.cells (acells zeroA) 30)).heap.size = w.heap.size + 1 := by simp
  replace C := Lib.hid C
  clear hsh
  go_enter Tryd.func16, Tryd.ntmps16
  repeat' ((fail_if_success at_builtin); (first | go_skip | go_guarded | go_step))
  refine C.out.mono ?_
  rintro e w2 ⟨rfl, hb2⟩
  have hbb := hba.trans (hb2.mono hba.size)
  have kz : w.heap.size < w2.heap.size := by have := hb2.size; omega
  have fz := fun j => (hb2.frozen (p := ⟨w.heap.size, j, none⟩) (by dsimp only; omega)).trans (hfz0 j)
  have y0 := (hb2.cell (p := ⟨w.heap.size, 0, none⟩) (by dsimp only; omega)).trans z0
  have y1 := (hb2.cell (p := ⟨w.heap.size, 1, none⟩) (by dsimp only; omega)).trans z1
  have y2 := (hb2.cell (p := ⟨w.heap.size, 2, none⟩) (by dsimp only; omega)).trans z2
  have y3 := (hb2.cell (p := ⟨w.heap.size, 3, none⟩) (by dsimp only; omega)).trans z3
  have y4 := (hb2.cell (p := ⟨w.heap.size, 4, none⟩) (by dsimp only; omega)).trans z4
  have y5 := (hb2.cell (p := ⟨w.heap.size, 5, none⟩) (by dsimp only; omega)).trans z5
  have y6 := (hb2.cell (p := ⟨w.heap.size, 6, none⟩) (by dsimp only; omega)).trans z6
  have y7 := (hb2.cell (p := ⟨w.heap.size, 7, none⟩) (by dsimp only; omega)).trans z7
  have f0 := fz 0
  have f1 := fz 1
  have f2 := fz 2
  have f3 := fz 3
  have f4 := fz 4
  have f5 := fz 5
  have f6 := fz 6
  have f7 := fz 7
  clear z0 z1 z2 z3 z4 z5 z6 z7 fz hfz0 hb2 C
  dsimp only
  cases hfi : l.findIdx? (hit run s) with
  | none =>
    have hf : fnd run s l = -1 := by unfold fnd; rw [hfi]
    have hg : getA l run s now = (zeroA, 8) := by unfold getA; rw [hfi]
    rw [hf]
    repeat' ((fail_if_success at_builtin); (first | go_skip | go_guarded | go_step))
    refine bodyPost_ret (v := .tuple #[.agg (acells zeroA), .int .i64 8]) (by simp only [results, Tryd.results16]; go_simp; try (first | rfl | exact ⟨rfl, rfl, rfl, rfl, rfl, rfl, rfl, rfl⟩)) rfl ?_
    exact ⟨by rw [hg]; rfl, ((((((((hbb.setCell (p := ⟨w.heap.size, 0, none⟩) (Nat.le_refl _) _).setCell (p := ⟨w.heap.size, 1, none⟩) (Nat.le_refl _) _).setCell (p := ⟨w.heap.size, 2, none⟩) (Nat.le_refl _) _).setCell (p := ⟨w.heap.size, 3, none⟩) (Nat.le_refl _) _).setCell (p := ⟨w.heap.size, 4, none⟩) (Nat.le_refl _) _).setCell (p := ⟨w.heap.size, 5, none⟩) (Nat.le_refl _) _).setCell (p := ⟨w.heap.size, 6, none⟩) (Nat.le_refl _) _).setCell (p := ⟨w.heap.size, 7, none⟩) (Nat.le_refl _) _)⟩
  | some i =>
    have hf : fnd run s l = (i : Int) := by unfold fnd; rw [hfi]
    obtain ⟨hlt, _, _⟩ := List.findIdx?_eq_some_iff_getElem.1 hfi
    rw [hf]
    obtain ⟨b, o, rfl, hbB, hcell⟩ := hs.2 (by omega)
    have hci : l[i]? = some l[i] := List.getElem?_eq_getElem hlt
    have hcell' := fun j u hu => (hbb.cell (p := ⟨b, o + (i * 8 + j), none⟩) (by dsimp only; omega)).trans (hcell (i * 8 + j) u (flat_at acl_len hci hu))
    clear hcell
    generalize l[i] = x at *
    have e0 := hcell' 0 _ rfl
    have e1 := hcell' 1 _ rfl
    have e2 := hcell' 2 _ rfl
    have e3 := hcell' 3 _ rfl
    have e4 := hcell' 4 _ rfl
    have e5 := hcell' 5 _ rfl
    have e6 := hcell' 6 _ rfl
    have e7 := hcell' 7 _ rfl
    simp only [← Nat.add_assoc, Nat.add_zero] at e0 e1 e2 e3 e4 e5 e6 e7
    clear hcell'
    have i0 : (0 : Int) ≤ (i : Int) := by omega
    have i1 : (i : Int) < (l.length : Int) := by omega
    by_cases hx : x.expires ≤ now
    · have hg : getA l run s now = (zeroA, 20) := by unfold getA; rw [hfi]; dsimp only; rw [hci]; dsimp only; rw [if_pos hx]
      repeat' ((fail_if_success at_builtin); (first | go_skip | go_guarded | go_step))
      refine bodyPost_ret (v := .tuple #[.agg (acells zeroA), .int .i64 20]) (by simp only [results, Tryd.results16]; go_simp; try (first | rfl | exact ⟨rfl, rfl, rfl, rfl, rfl, rfl, rfl, rfl⟩)) rfl ?_
      exact ⟨by rw [hg]; rfl, ((((((((hbb.setCell (p := ⟨w.heap.size, 0, none⟩) (Nat.le_refl _) _).setCell (p := ⟨w.heap.size, 1, none⟩) (Nat.le_refl _) _).setCell (p := ⟨w.heap.size, 2, none⟩) (Nat.le_refl _) _).setCell (p := ⟨w.heap.size, 3, none⟩) (Nat.le_refl _) _).setCell (p := ⟨w.heap.size, 4, none⟩) (Nat.le_refl _) _).setCell (p := ⟨w.heap.size, 5, none⟩) (Nat.le_refl _) _).setCell (p := ⟨w.heap.size, 6, none⟩) (Nat.le_refl _) _).setCell (p := ⟨w.heap.size, 7, none⟩) (Nat.le_refl _) _)⟩
    · have hg : getA l run s now = (x, 0) := by unfold getA; rw [hfi]; dsimp only; rw [hci]; dsimp only; rw [if_neg hx]
      repeat' ((fail_if_success at_builtin); (first | go_skip | go_guarded | go_step))
      refine bodyPost_ret (v := .tuple #[.agg (acells x), .int .i64 0]) (by simp only [results, Tryd.results16]; go_simp; try (first | rfl | exact ⟨rfl, rfl, rfl, rfl, rfl, rfl, rfl, rfl⟩)) rfl ?_
      exact ⟨by rw [hg]; rfl, ((((((((hbb.setCell (p := ⟨w.heap.size, 0, none⟩) (Nat.le_refl _) _).setCell (p := ⟨w.heap.size, 1, none⟩) (Nat.le_refl _) _).setCell (p := ⟨w.heap.size, 2, none⟩) (Nat.le_refl _) _).setCell (p := ⟨w.heap.size, 3, none⟩) (Nat.le_refl _) _).setCell (p := ⟨w.heap.size, 4, none⟩) (Nat.le_refl _) _).setCell (p := ⟨w.heap.size, 5, none⟩) (Nat.le_refl _) _).setCell (p := ⟨w.heap.size, 6, none⟩) (Nat.le_refl _) _).setCell (p := ⟨w.heap.size, 7, none⟩) (Nat.le_refl _) _)⟩
set_option maxRecDepth 100000 in
set_option maxHeartbeats 800000 in
theorem rget_any (run s : ByteArray) (now : Int) (l : List Art) (A : Option Addr) (c : Nat) (w : World) (B : Nat) (hB : B ≤ w.heap.size) (hs : SeqA w B A l) (hl : l.length ≤ 1000000) (hsh : ∀ a ∈ l, Shrt a) :
    Calls Tryd.prog 17 #[.slice A l.length c, .string run, .string s, .int .i64 now] w fun e w' => e = .returned (.tuple #[.agg (acells (getA l run s now).1), .int .i64 ((getA l run s now).2 : Int)]) ∧ Below w.heap.size w w' := by
  have hba := (Below.refl w.heap.size w).alloc (Nat.le_refl _) (.cells (acells zeroA) 30)
  have C := rfind_any run s l A c _ B (Nat.le_trans hB hba.size) (hs.below (hba.mono hB)) hl hsh
  have hfz0 : ∀ j, (w.alloc (.cells (acells zeroA) 30)).frozen? ⟨w.heap.size, j, none⟩ = false := fun j => by simp [go_sem]
  have z0 : (w.alloc (.cells (acells zeroA) 30)).cell? ⟨w.heap.size, 0, none⟩ = some (.string zeroA.run) := by simp [go_sem]
  have z1 : (w.alloc (.cells (acells zeroA) 30)).cell? ⟨w.heap.size, 1, none⟩ = some (.string zeroA.job) := by simp [go_sem]
  have z2 : (w.alloc (.cells (acells zeroA) 30)).cell? ⟨w.heap.size, 2, none⟩ = some (.int .i64 zeroA.att) := by simp [go_sem]
  have z3 : (w.alloc (.cells (acells zeroA) 30)).cell? ⟨w.heap.size, 3, none⟩ = some (.string zeroA.nm) := by simp [go_sem]
  have z4 : (w.alloc (.cells (acells zeroA) 30)).cell? ⟨w.heap.size, 4, none⟩ = some (.int .u64 zeroA.dig) := by simp [go_sem]
  have z5 : (w.alloc (.cells (acells zeroA) 30)).cell? ⟨w.heap.size, 5, none⟩ = some (.int .i64 zeroA.size) := by simp [go_sem]
  have z6 : (w.alloc (.cells (acells zeroA) 30)).cell? ⟨w.heap.size, 6, none⟩ = some (.int .i64 zeroA.created) := by simp [go_sem]
  have z7 : (w.alloc (.cells (acells zeroA) 30)).cell? ⟨w.heap.size, 7, none⟩ = some (.int .i64 zeroA.expires) := by simp [go_sem]
  have hzz : (w.alloc (.cells (acells zeroA) 30)).heap.size = w.heap.size + 1 := by simp
  replace C := Lib.hid C
  clear hsh
  go_enter Tryd.func17, Tryd.ntmps17
  repeat' ((fail_if_success at_builtin); (first | go_skip | go_guarded | go_step))
  refine C.out.mono ?_
  rintro e w2 ⟨rfl, hb2⟩
  have hbb := hba.trans (hb2.mono hba.size)
  have kz : w.heap.size < w2.heap.size := by have := hb2.size; omega
  have fz := fun j => (hb2.frozen (p := ⟨w.heap.size, j, none⟩) (by dsimp only; omega)).trans (hfz0 j)
  have y0 := (hb2.cell (p := ⟨w.heap.size, 0, none⟩) (by dsimp only; omega)).trans z0
  have y1 := (hb2.cell (p := ⟨w.heap.size, 1, none⟩) (by dsimp only; omega)).trans z1
  have y2 := (hb2.cell (p := ⟨w.heap.size, 2, none⟩) (by dsimp only; omega)).trans z2
  have y3 := (hb2.cell (p := ⟨w.heap.size, 3, none⟩) (by dsimp only; omega)).trans z3
  have y4 := (hb2.cell (p := ⟨w.heap.size, 4, none⟩) (by dsimp only; omega)).trans z4
  have y5 := (hb2.cell (p := ⟨w.heap.size, 5, none⟩) (by dsimp only; omega)).trans z5
  have y6 := (hb2.cell (p := ⟨w.heap.size, 6, none⟩) (by dsimp only; omega)).trans z6
  have y7 := (hb2.cell (p := ⟨w.heap.size, 7, none⟩) (by dsimp only; omega)).trans z7
  have f0 := fz 0
  have f1 := fz 1
  have f2 := fz 2
  have f3 := fz 3
  have f4 := fz 4
  have f5 := fz 5
  have f6 := fz 6
  have f7 := fz 7
  clear z0 z1 z2 z3 z4 z5 z6 z7 fz hfz0 hb2 C
  dsimp only
  cases hfi : l.findIdx? (hit run s) with
  | none =>
    have hf : fnd run s l = -1 := by unfold fnd; rw [hfi]
    have hg : getA l run s now = (zeroA, 8) := by unfold getA; rw [hfi]
    rw [hf]
    repeat' ((fail_if_success at_builtin); (first | go_skip | go_guarded | go_step))
    refine bodyPost_ret (v := .tuple #[.agg (acells zeroA), .int .i64 8]) (by simp only [results, Tryd.results17]; go_simp; try (first | rfl | exact ⟨rfl, rfl, rfl, rfl, rfl, rfl, rfl, rfl⟩)) rfl ?_
    exact ⟨by rw [hg]; rfl, ((((((((hbb.setCell (p := ⟨w.heap.size, 0, none⟩) (Nat.le_refl _) _).setCell (p := ⟨w.heap.size, 1, none⟩) (Nat.le_refl _) _).setCell (p := ⟨w.heap.size, 2, none⟩) (Nat.le_refl _) _).setCell (p := ⟨w.heap.size, 3, none⟩) (Nat.le_refl _) _).setCell (p := ⟨w.heap.size, 4, none⟩) (Nat.le_refl _) _).setCell (p := ⟨w.heap.size, 5, none⟩) (Nat.le_refl _) _).setCell (p := ⟨w.heap.size, 6, none⟩) (Nat.le_refl _) _).setCell (p := ⟨w.heap.size, 7, none⟩) (Nat.le_refl _) _)⟩
  | some i =>
    have hf : fnd run s l = (i : Int) := by unfold fnd; rw [hfi]
    obtain ⟨hlt, _, _⟩ := List.findIdx?_eq_some_iff_getElem.1 hfi
    rw [hf]
    obtain ⟨b, o, rfl, hbB, hcell⟩ := hs.2 (by omega)
    have hci : l[i]? = some l[i] := List.getElem?_eq_getElem hlt
    have hcell' := fun j u hu => (hbb.cell (p := ⟨b, o + (i * 8 + j), none⟩) (by dsimp only; omega)).trans (hcell (i * 8 + j) u (flat_at acl_len hci hu))
    clear hcell
    generalize l[i] = x at *
    have e0 := hcell' 0 _ rfl
    have e1 := hcell' 1 _ rfl
    have e2 := hcell' 2 _ rfl
    have e3 := hcell' 3 _ rfl
    have e4 := hcell' 4 _ rfl
    have e5 := hcell' 5 _ rfl
    have e6 := hcell' 6 _ rfl
    have e7 := hcell' 7 _ rfl
    simp only [← Nat.add_assoc, Nat.add_zero] at e0 e1 e2 e3 e4 e5 e6 e7
    clear hcell'
    have i0 : (0 : Int) ≤ (i : Int) := by omega
    have i1 : (i : Int) < (l.length : Int) := by omega
    by_cases hx : x.expires ≤ now
    · have hg : getA l run s now = (zeroA, 20) := by unfold getA; rw [hfi]; dsimp only; rw [hci]; dsimp only; rw [if_pos hx]
      repeat' ((fail_if_success at_builtin); (first | go_skip | go_guarded | go_step))
      refine bodyPost_ret (v := .tuple #[.agg (acells zeroA), .int .i64 20]) (by simp only [results, Tryd.results17]; go_simp; try (first | rfl | exact ⟨rfl, rfl, rfl, rfl, rfl, rfl, rfl, rfl⟩)) rfl ?_
      exact ⟨by rw [hg]; rfl, ((((((((hbb.setCell (p := ⟨w.heap.size, 0, none⟩) (Nat.le_refl _) _).setCell (p := ⟨w.heap.size, 1, none⟩) (Nat.le_refl _) _).setCell (p := ⟨w.heap.size, 2, none⟩) (Nat.le_refl _) _).setCell (p := ⟨w.heap.size, 3, none⟩) (Nat.le_refl _) _).setCell (p := ⟨w.heap.size, 4, none⟩) (Nat.le_refl _) _).setCell (p := ⟨w.heap.size, 5, none⟩) (Nat.le_refl _) _).setCell (p := ⟨w.heap.size, 6, none⟩) (Nat.le_refl _) _).setCell (p := ⟨w.heap.size, 7, none⟩) (Nat.le_refl _) _)⟩
    · have hg : getA l run s now = (x, 0) := by unfold getA; rw [hfi]; dsimp only; rw [hci]; dsimp only; rw [if_neg hx]
      repeat' ((fail_if_success at_builtin); (first | go_skip | go_guarded | go_step))
      refine bodyPost_ret (v := .tuple #[.agg (acells x), .int .i64 0]) (by simp only [results, Tryd.results17]; go_simp; try (first | rfl | exact ⟨rfl, rfl, rfl, rfl, rfl, rfl, rfl, rfl⟩)) rfl ?_
      exact ⟨by rw [hg]; rfl, ((((((((hbb.setCell (p := ⟨w.heap.size, 0, none⟩) (Nat.le_refl _) _).setCell (p := ⟨w.heap.size, 1, none⟩) (Nat.le_refl _) _).setCell (p := ⟨w.heap.size, 2, none⟩) (Nat.le_refl _) _).setCell (p := ⟨w.heap.size, 3, none⟩) (Nat.le_refl _) _).setCell (p := ⟨w.heap.size, 4, none⟩) (Nat.le_refl _) _).setCell (p := ⟨w.heap.size, 5, none⟩) (Nat.le_refl _) _).setCell (p := ⟨w.heap.size, 6, none⟩) (Nat.le_refl _) _).setCell (p := ⟨w.heap.size, 7, none⟩) (Nat.le_refl _) _)⟩

end Go.Proofs.YtclinbpkcmcokaaDoor
