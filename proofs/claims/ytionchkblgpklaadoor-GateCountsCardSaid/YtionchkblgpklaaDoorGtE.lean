/- The gate's decisions: expiry of the document, opening. -/
import Derived.Test.YtionchkblgpklaaDoorGtR
namespace Go.Proofs.YtionchkblgpklaaDoor
open Go.RowKit
set_option maxRecDepth 100000 in
set_option maxHeartbeats 4000000 in
theorem refExpire0_any (s : Gs) (opened : Int) (yes : List ByteArray) (A : Option Addr) (c : Nat) (A' : Option Addr) (c' : Nat) (now : Int) (w : World) (hs : Seq w w.heap.size 1 A s.who.length (cellsS s.who)) (hs' : Seq w w.heap.size 1 A' yes.length (cellsS yes)) (h1 : I64 opened) (h2 : I64 s.exp) : Calls Tryd.prog 21 #[.agg (garr (⟨s, opened, yes, 0⟩ : Gt) A c A' c'), .int .i64 now] w (GRet1 w (expG (⟨s, opened, yes, 0⟩ : Gt) now)) := by
  have hb1 := (((Below.refl w.heap.size w).alloc (Nat.le_refl _) (.cells (garr (⟨s, opened, yes, 0⟩ : Gt) A c A' c') 28)).alloc (by simp) (.cells zarr 28)).alloc (by simp; omega) (.cells (garr (⟨s, opened, yes, 0⟩ : Gt) A c A' c') 28)
  have hz : (((w.alloc (.cells (garr (⟨s, opened, yes, 0⟩ : Gt) A c A' c') 28)).alloc (.cells zarr 28)).alloc (.cells (garr (⟨s, opened, yes, 0⟩ : Gt) A c A' c') 28)).heap.size = w.heap.size + 1 + 1 + 1 := by simp
  have d0 : ((((w.alloc (.cells (garr (⟨s, opened, yes, 0⟩ : Gt) A c A' c') 28)).alloc (.cells zarr 28)).alloc (.cells (garr (⟨s, opened, yes, 0⟩ : Gt) A c A' c') 28))).cell? ⟨w.heap.size, 0, none⟩ = some (.int .i64 s.app) := by simp [go_sem]
  have d1 : ((((w.alloc (.cells (garr (⟨s, opened, yes, 0⟩ : Gt) A c A' c') 28)).alloc (.cells zarr 28)).alloc (.cells (garr (⟨s, opened, yes, 0⟩ : Gt) A c A' c') 28))).cell? ⟨w.heap.size, 1, none⟩ = some (.slice A s.who.length c) := by simp [go_sem]
  have d2 : ((((w.alloc (.cells (garr (⟨s, opened, yes, 0⟩ : Gt) A c A' c') 28)).alloc (.cells zarr 28)).alloc (.cells (garr (⟨s, opened, yes, 0⟩ : Gt) A c A' c') 28))).cell? ⟨w.heap.size, 2, none⟩ = some (.int .i64 s.exp) := by simp [go_sem]
  have d3 : ((((w.alloc (.cells (garr (⟨s, opened, yes, 0⟩ : Gt) A c A' c') 28)).alloc (.cells zarr 28)).alloc (.cells (garr (⟨s, opened, yes, 0⟩ : Gt) A c A' c') 28))).cell? ⟨w.heap.size, 3, none⟩ = some (.int .i64 opened) := by simp [go_sem]
  have d4 : ((((w.alloc (.cells (garr (⟨s, opened, yes, 0⟩ : Gt) A c A' c') 28)).alloc (.cells zarr 28)).alloc (.cells (garr (⟨s, opened, yes, 0⟩ : Gt) A c A' c') 28))).cell? ⟨w.heap.size, 4, none⟩ = some (.slice A' yes.length c') := by simp [go_sem]
  have d5 : ((((w.alloc (.cells (garr (⟨s, opened, yes, 0⟩ : Gt) A c A' c') 28)).alloc (.cells zarr 28)).alloc (.cells (garr (⟨s, opened, yes, 0⟩ : Gt) A c A' c') 28))).cell? ⟨w.heap.size, 5, none⟩ = some (.int .i64 0) := by simp [go_sem]
  have dF : ∀ j, ((((w.alloc (.cells (garr (⟨s, opened, yes, 0⟩ : Gt) A c A' c') 28)).alloc (.cells zarr 28)).alloc (.cells (garr (⟨s, opened, yes, 0⟩ : Gt) A c A' c') 28))).frozen? ⟨w.heap.size, j, none⟩ = false := fun j => by simp [go_sem]
  have z0 : ((((w.alloc (.cells (garr (⟨s, opened, yes, 0⟩ : Gt) A c A' c') 28)).alloc (.cells zarr 28)).alloc (.cells (garr (⟨s, opened, yes, 0⟩ : Gt) A c A' c') 28))).cell? ⟨w.heap.size + 1, 0, none⟩ = some (.int .i64 0) := by simp [go_sem]
  have z1 : ((((w.alloc (.cells (garr (⟨s, opened, yes, 0⟩ : Gt) A c A' c') 28)).alloc (.cells zarr 28)).alloc (.cells (garr (⟨s, opened, yes, 0⟩ : Gt) A c A' c') 28))).cell? ⟨w.heap.size + 1, 1, none⟩ = some (.slice none 0 0) := by simp [go_sem]
  have z2 : ((((w.alloc (.cells (garr (⟨s, opened, yes, 0⟩ : Gt) A c A' c') 28)).alloc (.cells zarr 28)).alloc (.cells (garr (⟨s, opened, yes, 0⟩ : Gt) A c A' c') 28))).cell? ⟨w.heap.size + 1, 2, none⟩ = some (.int .i64 0) := by simp [go_sem]
  have z3 : ((((w.alloc (.cells (garr (⟨s, opened, yes, 0⟩ : Gt) A c A' c') 28)).alloc (.cells zarr 28)).alloc (.cells (garr (⟨s, opened, yes, 0⟩ : Gt) A c A' c') 28))).cell? ⟨w.heap.size + 1, 3, none⟩ = some (.int .i64 0) := by simp [go_sem]
  have z4 : ((((w.alloc (.cells (garr (⟨s, opened, yes, 0⟩ : Gt) A c A' c') 28)).alloc (.cells zarr 28)).alloc (.cells (garr (⟨s, opened, yes, 0⟩ : Gt) A c A' c') 28))).cell? ⟨w.heap.size + 1, 4, none⟩ = some (.slice none 0 0) := by simp [go_sem]
  have z5 : ((((w.alloc (.cells (garr (⟨s, opened, yes, 0⟩ : Gt) A c A' c') 28)).alloc (.cells zarr 28)).alloc (.cells (garr (⟨s, opened, yes, 0⟩ : Gt) A c A' c') 28))).cell? ⟨w.heap.size + 1, 5, none⟩ = some (.int .i64 0) := by simp [go_sem]
  have zF : ∀ j, ((((w.alloc (.cells (garr (⟨s, opened, yes, 0⟩ : Gt) A c A' c') 28)).alloc (.cells zarr 28)).alloc (.cells (garr (⟨s, opened, yes, 0⟩ : Gt) A c A' c') 28))).frozen? ⟨w.heap.size + 1, j, none⟩ = false := fun j => by simp [go_sem]
  have q0 : ((((w.alloc (.cells (garr (⟨s, opened, yes, 0⟩ : Gt) A c A' c') 28)).alloc (.cells zarr 28)).alloc (.cells (garr (⟨s, opened, yes, 0⟩ : Gt) A c A' c') 28))).cell? ⟨w.heap.size + 1 + 1, 0, none⟩ = some (.int .i64 s.app) := by simp [go_sem]
  have q1 : ((((w.alloc (.cells (garr (⟨s, opened, yes, 0⟩ : Gt) A c A' c') 28)).alloc (.cells zarr 28)).alloc (.cells (garr (⟨s, opened, yes, 0⟩ : Gt) A c A' c') 28))).cell? ⟨w.heap.size + 1 + 1, 1, none⟩ = some (.slice A s.who.length c) := by simp [go_sem]
  have q2 : ((((w.alloc (.cells (garr (⟨s, opened, yes, 0⟩ : Gt) A c A' c') 28)).alloc (.cells zarr 28)).alloc (.cells (garr (⟨s, opened, yes, 0⟩ : Gt) A c A' c') 28))).cell? ⟨w.heap.size + 1 + 1, 2, none⟩ = some (.int .i64 s.exp) := by simp [go_sem]
  have q3 : ((((w.alloc (.cells (garr (⟨s, opened, yes, 0⟩ : Gt) A c A' c') 28)).alloc (.cells zarr 28)).alloc (.cells (garr (⟨s, opened, yes, 0⟩ : Gt) A c A' c') 28))).cell? ⟨w.heap.size + 1 + 1, 3, none⟩ = some (.int .i64 opened) := by simp [go_sem]
  have q4 : ((((w.alloc (.cells (garr (⟨s, opened, yes, 0⟩ : Gt) A c A' c') 28)).alloc (.cells zarr 28)).alloc (.cells (garr (⟨s, opened, yes, 0⟩ : Gt) A c A' c') 28))).cell? ⟨w.heap.size + 1 + 1, 4, none⟩ = some (.slice A' yes.length c') := by simp [go_sem]
  have q5 : ((((w.alloc (.cells (garr (⟨s, opened, yes, 0⟩ : Gt) A c A' c') 28)).alloc (.cells zarr 28)).alloc (.cells (garr (⟨s, opened, yes, 0⟩ : Gt) A c A' c') 28))).cell? ⟨w.heap.size + 1 + 1, 5, none⟩ = some (.int .i64 0) := by simp [go_sem]
  have qF : ∀ j, ((((w.alloc (.cells (garr (⟨s, opened, yes, 0⟩ : Gt) A c A' c') 28)).alloc (.cells zarr 28)).alloc (.cells (garr (⟨s, opened, yes, 0⟩ : Gt) A c A' c') 28))).frozen? ⟨w.heap.size + 1 + 1, j, none⟩ = false := fun j => by simp [go_sem]
  go_enter Tryd.func21, Tryd.ntmps21
  repeat' ((fail_if_success at_builtin); (first | go_skip | go_guarded | go_step))
  generalize (((w.alloc (.cells (garr (⟨s, opened, yes, 0⟩ : Gt) A c A' c') 28)).alloc (.cells zarr 28)).alloc (.cells (garr (⟨s, opened, yes, 0⟩ : Gt) A c A' c') 28)) = w1 at *
  have hpass := refPassed_any (⟨s, opened, yes, 0⟩ : Gt) A c A' c' now w1 h1 h2
  have hN : expG (⟨s, opened, yes, 0⟩ : Gt) now = if passG (⟨s, opened, yes, 0⟩ : Gt) now = true then ⟨s, opened, yes, 3⟩ else (⟨s, opened, yes, 0⟩ : Gt) := by
    unfold expG
    simp
  generalize expG (⟨s, opened, yes, 0⟩ : Gt) now = g' at *
  replace hN := Lib.hid hN
  refine hpass.mono ?_
  rintro e w2 ⟨rfl, hb2⟩
  dsimp only
  replace d0 := (hb2.cell (p := ⟨w.heap.size, 0, none⟩) (by dsimp only; omega)).trans d0
  replace d1 := (hb2.cell (p := ⟨w.heap.size, 1, none⟩) (by dsimp only; omega)).trans d1
  replace d2 := (hb2.cell (p := ⟨w.heap.size, 2, none⟩) (by dsimp only; omega)).trans d2
  replace d3 := (hb2.cell (p := ⟨w.heap.size, 3, none⟩) (by dsimp only; omega)).trans d3
  replace d4 := (hb2.cell (p := ⟨w.heap.size, 4, none⟩) (by dsimp only; omega)).trans d4
  replace d5 := (hb2.cell (p := ⟨w.heap.size, 5, none⟩) (by dsimp only; omega)).trans d5
  replace dF := frz_below hb2 (by omega) dF
  replace z0 := (hb2.cell (p := ⟨w.heap.size + 1, 0, none⟩) (by dsimp only; omega)).trans z0
  replace z1 := (hb2.cell (p := ⟨w.heap.size + 1, 1, none⟩) (by dsimp only; omega)).trans z1
  replace z2 := (hb2.cell (p := ⟨w.heap.size + 1, 2, none⟩) (by dsimp only; omega)).trans z2
  replace z3 := (hb2.cell (p := ⟨w.heap.size + 1, 3, none⟩) (by dsimp only; omega)).trans z3
  replace z4 := (hb2.cell (p := ⟨w.heap.size + 1, 4, none⟩) (by dsimp only; omega)).trans z4
  replace z5 := (hb2.cell (p := ⟨w.heap.size + 1, 5, none⟩) (by dsimp only; omega)).trans z5
  replace zF := frz_below hb2 (by omega) zF
  replace q0 := (hb2.cell (p := ⟨w.heap.size + 1 + 1, 0, none⟩) (by dsimp only; omega)).trans q0
  replace q1 := (hb2.cell (p := ⟨w.heap.size + 1 + 1, 1, none⟩) (by dsimp only; omega)).trans q1
  replace q2 := (hb2.cell (p := ⟨w.heap.size + 1 + 1, 2, none⟩) (by dsimp only; omega)).trans q2
  replace q3 := (hb2.cell (p := ⟨w.heap.size + 1 + 1, 3, none⟩) (by dsimp only; omega)).trans q3
  replace q4 := (hb2.cell (p := ⟨w.heap.size + 1 + 1, 4, none⟩) (by dsimp only; omega)).trans q4
  replace q5 := (hb2.cell (p := ⟨w.heap.size + 1 + 1, 5, none⟩) (by dsimp only; omega)).trans q5
  replace qF := frz_below hb2 (by omega) qF
  have hbw2 := hb1.trans (hb2.mono hb1.size)
  clear hpass
  cases hp : passG (⟨s, opened, yes, 0⟩ : Gt) now with
  | true =>
    have hN' := hN.out
    rw [if_pos hp] at hN'
    subst hN'
    clear hN
    repeat' ((fail_if_success at_builtin); (first | go_skip | go_guarded | go_step))
    replace d0 := (World.cell?_setCell_far w2 ⟨w.heap.size + 1 + 1, 5, none⟩ ⟨w.heap.size, 0, none⟩ (.int .i64 3) (by dsimp only; omega)).trans d0
    replace d1 := (World.cell?_setCell_far w2 ⟨w.heap.size + 1 + 1, 5, none⟩ ⟨w.heap.size, 1, none⟩ (.int .i64 3) (by dsimp only; omega)).trans d1
    replace d2 := (World.cell?_setCell_far w2 ⟨w.heap.size + 1 + 1, 5, none⟩ ⟨w.heap.size, 2, none⟩ (.int .i64 3) (by dsimp only; omega)).trans d2
    replace d3 := (World.cell?_setCell_far w2 ⟨w.heap.size + 1 + 1, 5, none⟩ ⟨w.heap.size, 3, none⟩ (.int .i64 3) (by dsimp only; omega)).trans d3
    replace d4 := (World.cell?_setCell_far w2 ⟨w.heap.size + 1 + 1, 5, none⟩ ⟨w.heap.size, 4, none⟩ (.int .i64 3) (by dsimp only; omega)).trans d4
    replace d5 := (World.cell?_setCell_far w2 ⟨w.heap.size + 1 + 1, 5, none⟩ ⟨w.heap.size, 5, none⟩ (.int .i64 3) (by dsimp only; omega)).trans d5
    replace dF := frz_set (p := ⟨w.heap.size + 1 + 1, 5, none⟩) (v := .int .i64 3) dF
    replace z0 := (World.cell?_setCell_far w2 ⟨w.heap.size + 1 + 1, 5, none⟩ ⟨w.heap.size + 1, 0, none⟩ (.int .i64 3) (by dsimp only; omega)).trans z0
    replace z1 := (World.cell?_setCell_far w2 ⟨w.heap.size + 1 + 1, 5, none⟩ ⟨w.heap.size + 1, 1, none⟩ (.int .i64 3) (by dsimp only; omega)).trans z1
    replace z2 := (World.cell?_setCell_far w2 ⟨w.heap.size + 1 + 1, 5, none⟩ ⟨w.heap.size + 1, 2, none⟩ (.int .i64 3) (by dsimp only; omega)).trans z2
    replace z3 := (World.cell?_setCell_far w2 ⟨w.heap.size + 1 + 1, 5, none⟩ ⟨w.heap.size + 1, 3, none⟩ (.int .i64 3) (by dsimp only; omega)).trans z3
    replace z4 := (World.cell?_setCell_far w2 ⟨w.heap.size + 1 + 1, 5, none⟩ ⟨w.heap.size + 1, 4, none⟩ (.int .i64 3) (by dsimp only; omega)).trans z4
    replace z5 := (World.cell?_setCell_far w2 ⟨w.heap.size + 1 + 1, 5, none⟩ ⟨w.heap.size + 1, 5, none⟩ (.int .i64 3) (by dsimp only; omega)).trans z5
    replace zF := frz_set (p := ⟨w.heap.size + 1 + 1, 5, none⟩) (v := .int .i64 3) zF
    replace q0 := (World.cell?_setCell_other w2 ⟨w.heap.size + 1 + 1, 5, none⟩ ⟨w.heap.size + 1 + 1, 0, none⟩ (.int .i64 3) (by simp)).trans q0
    replace q1 := (World.cell?_setCell_other w2 ⟨w.heap.size + 1 + 1, 5, none⟩ ⟨w.heap.size + 1 + 1, 1, none⟩ (.int .i64 3) (by simp)).trans q1
    replace q2 := (World.cell?_setCell_other w2 ⟨w.heap.size + 1 + 1, 5, none⟩ ⟨w.heap.size + 1 + 1, 2, none⟩ (.int .i64 3) (by simp)).trans q2
    replace q3 := (World.cell?_setCell_other w2 ⟨w.heap.size + 1 + 1, 5, none⟩ ⟨w.heap.size + 1 + 1, 3, none⟩ (.int .i64 3) (by simp)).trans q3
    replace q4 := (World.cell?_setCell_other w2 ⟨w.heap.size + 1 + 1, 5, none⟩ ⟨w.heap.size + 1 + 1, 4, none⟩ (.int .i64 3) (by simp)).trans q4
    replace q5 := World.cell?_setCell_same w2 _ (.int .i64 3) q5
    replace qF := frz_set (p := ⟨w.heap.size + 1 + 1, 5, none⟩) (v := .int .i64 3) qF
    generalize hw_w3 : w2.setCell ⟨w.heap.size + 1 + 1, 5, none⟩ (.int .i64 3) = w3 at *
    have hbw3 : Below w.heap.size w w3 := hw_w3 ▸ Below.setCell (p := ⟨w.heap.size + 1 + 1, 5, none⟩) hbw2 (by dsimp only; omega) _
    clear hw_w3
    generalize hw_w4 : ((((((w3.setCell ⟨w.heap.size + 1, 0, none⟩ (.int .i64 s.app)).setCell ⟨w.heap.size + 1, 1, none⟩ (.slice A s.who.length c)).setCell ⟨w.heap.size + 1, 2, none⟩ (.int .i64 s.exp)).setCell ⟨w.heap.size + 1, 3, none⟩ (.int .i64 opened)).setCell ⟨w.heap.size + 1, 4, none⟩ (.slice A' yes.length c')).setCell ⟨w.heap.size + 1, 5, none⟩ (.int .i64 3)) = w4 at *
    obtain ⟨⟨nz0, nz1, nz2, nz3, nz4, nz5⟩, far_w4, frz_w4, hsz_w4, bel_w4, own_w4⟩ := six_ok (.int .i64 s.app) (.slice A s.who.length c) (.int .i64 s.exp) (.int .i64 opened) (.slice A' yes.length c') (.int .i64 3) z0 z1 z2 z3 z4 z5 w4 hw_w4
    clear z0 z1 z2 z3 z4 z5 hw_w4
    have z0 := nz0
    have z1 := nz1
    have z2 := nz2
    have z3 := nz3
    have z4 := nz4
    have z5 := nz5
    clear nz0 nz1 nz2 nz3 nz4 nz5
    replace d0 := (far_w4 ⟨w.heap.size, 0, none⟩ (by dsimp only; omega)).trans d0
    replace d1 := (far_w4 ⟨w.heap.size, 1, none⟩ (by dsimp only; omega)).trans d1
    replace d2 := (far_w4 ⟨w.heap.size, 2, none⟩ (by dsimp only; omega)).trans d2
    replace d3 := (far_w4 ⟨w.heap.size, 3, none⟩ (by dsimp only; omega)).trans d3
    replace d4 := (far_w4 ⟨w.heap.size, 4, none⟩ (by dsimp only; omega)).trans d4
    replace d5 := (far_w4 ⟨w.heap.size, 5, none⟩ (by dsimp only; omega)).trans d5
    replace dF := fun j => (frz_w4 ⟨w.heap.size, j, none⟩).trans (dF j)
    replace zF := fun j => (frz_w4 ⟨w.heap.size + 1, j, none⟩).trans (zF j)
    replace q0 := (far_w4 ⟨w.heap.size + 1 + 1, 0, none⟩ (by dsimp only; omega)).trans q0
    replace q1 := (far_w4 ⟨w.heap.size + 1 + 1, 1, none⟩ (by dsimp only; omega)).trans q1
    replace q2 := (far_w4 ⟨w.heap.size + 1 + 1, 2, none⟩ (by dsimp only; omega)).trans q2
    replace q3 := (far_w4 ⟨w.heap.size + 1 + 1, 3, none⟩ (by dsimp only; omega)).trans q3
    replace q4 := (far_w4 ⟨w.heap.size + 1 + 1, 4, none⟩ (by dsimp only; omega)).trans q4
    replace q5 := (far_w4 ⟨w.heap.size + 1 + 1, 5, none⟩ (by dsimp only; omega)).trans q5
    replace qF := fun j => (frz_w4 ⟨w.heap.size + 1 + 1, j, none⟩).trans (qF j)
    clear d0 d1 d2 d3 d4 d5 q0 q1 q2 q3 q4 q5
    have hbz := bel_w4 _ _ (by omega) hbw3
    clear far_w4 frz_w4 hsz_w4 bel_w4 own_w4
    refine bodyPost_ret (v := .agg #[.int .i64 s.app, .slice A s.who.length c, .int .i64 s.exp, .int .i64 opened, .slice A' yes.length c', .int .i64 3]) (by simp only [results, Tryd.results21]; go_simp; try (first | rfl | exact ⟨rfl, rfl, rfl, rfl, rfl, rfl⟩)) rfl ?_
    exact ⟨_, _, _, _, rfl, hbz, (hs.below hbz).more hbz.size, (hs'.below hbz).more hbz.size⟩
  | false =>
    have hN' := hN.out
    rw [if_neg (by simp [hp])] at hN'
    subst hN'
    clear hN
    repeat' ((fail_if_success at_builtin); (first | go_skip | go_guarded | go_step))
    generalize hw_w4 : ((((((w2.setCell ⟨w.heap.size + 1, 0, none⟩ (.int .i64 s.app)).setCell ⟨w.heap.size + 1, 1, none⟩ (.slice A s.who.length c)).setCell ⟨w.heap.size + 1, 2, none⟩ (.int .i64 s.exp)).setCell ⟨w.heap.size + 1, 3, none⟩ (.int .i64 opened)).setCell ⟨w.heap.size + 1, 4, none⟩ (.slice A' yes.length c')).setCell ⟨w.heap.size + 1, 5, none⟩ (.int .i64 0)) = w4 at *
    obtain ⟨⟨nz0, nz1, nz2, nz3, nz4, nz5⟩, far_w4, frz_w4, hsz_w4, bel_w4, own_w4⟩ := six_ok (.int .i64 s.app) (.slice A s.who.length c) (.int .i64 s.exp) (.int .i64 opened) (.slice A' yes.length c') (.int .i64 0) z0 z1 z2 z3 z4 z5 w4 hw_w4
    clear z0 z1 z2 z3 z4 z5 hw_w4
    have z0 := nz0
    have z1 := nz1
    have z2 := nz2
    have z3 := nz3
    have z4 := nz4
    have z5 := nz5
    clear nz0 nz1 nz2 nz3 nz4 nz5
    replace d0 := (far_w4 ⟨w.heap.size, 0, none⟩ (by dsimp only; omega)).trans d0
    replace d1 := (far_w4 ⟨w.heap.size, 1, none⟩ (by dsimp only; omega)).trans d1
    replace d2 := (far_w4 ⟨w.heap.size, 2, none⟩ (by dsimp only; omega)).trans d2
    replace d3 := (far_w4 ⟨w.heap.size, 3, none⟩ (by dsimp only; omega)).trans d3
    replace d4 := (far_w4 ⟨w.heap.size, 4, none⟩ (by dsimp only; omega)).trans d4
    replace d5 := (far_w4 ⟨w.heap.size, 5, none⟩ (by dsimp only; omega)).trans d5
    replace dF := fun j => (frz_w4 ⟨w.heap.size, j, none⟩).trans (dF j)
    replace zF := fun j => (frz_w4 ⟨w.heap.size + 1, j, none⟩).trans (zF j)
    replace q0 := (far_w4 ⟨w.heap.size + 1 + 1, 0, none⟩ (by dsimp only; omega)).trans q0
    replace q1 := (far_w4 ⟨w.heap.size + 1 + 1, 1, none⟩ (by dsimp only; omega)).trans q1
    replace q2 := (far_w4 ⟨w.heap.size + 1 + 1, 2, none⟩ (by dsimp only; omega)).trans q2
    replace q3 := (far_w4 ⟨w.heap.size + 1 + 1, 3, none⟩ (by dsimp only; omega)).trans q3
    replace q4 := (far_w4 ⟨w.heap.size + 1 + 1, 4, none⟩ (by dsimp only; omega)).trans q4
    replace q5 := (far_w4 ⟨w.heap.size + 1 + 1, 5, none⟩ (by dsimp only; omega)).trans q5
    replace qF := fun j => (frz_w4 ⟨w.heap.size + 1 + 1, j, none⟩).trans (qF j)
    clear d0 d1 d2 d3 d4 d5 q0 q1 q2 q3 q4 q5
    have hbz := bel_w4 _ _ (by omega) hbw2
    clear far_w4 frz_w4 hsz_w4 bel_w4 own_w4
    refine bodyPost_ret (v := .agg #[.int .i64 s.app, .slice A s.who.length c, .int .i64 s.exp, .int .i64 opened, .slice A' yes.length c', .int .i64 0]) (by simp only [results, Tryd.results21]; go_simp; try (first | rfl | exact ⟨rfl, rfl, rfl, rfl, rfl, rfl⟩)) rfl ?_
    exact ⟨_, _, _, _, rfl, hbz, (hs.below hbz).more hbz.size, (hs'.below hbz).more hbz.size⟩
set_option maxRecDepth 100000 in
set_option maxHeartbeats 4000000 in
theorem refExpire1_any (g : Gt) (A : Option Addr) (c : Nat) (A' : Option Addr) (c' : Nat) (now : Int) (w : World) (hs : Seq w w.heap.size 1 A g.s.who.length (cellsS g.s.who)) (hs' : Seq w w.heap.size 1 A' g.yes.length (cellsS g.yes)) (q0 : ¬ g.state = 0) : Calls Tryd.prog 21 #[.agg (garr g A c A' c'), .int .i64 now] w (GRet1 w (expG g now)) := by
  have p0 : (g.state == 0) = false := by simp [q0]
  have hN : expG g now = g := by unfold expG; rw [if_neg (fun h => q0 h.1)]
  rw [hN]
  clear hN q0
  have key : ∀ W, Below w.heap.size w W → GRet1 w g (.returned (.agg #[.int .i64 g.s.app, .slice A g.s.who.length c, .int .i64 g.s.exp, .int .i64 g.opened, .slice A' g.yes.length c', .int .i64 g.state])) W := fun W hbz => ⟨_, _, _, _, rfl, hbz, (hs.below hbz).more hbz.size, (hs'.below hbz).more hbz.size⟩
  go_enter Tryd.func21, Tryd.ntmps21
  repeat' ((fail_if_success at_builtin); (first | go_skip | go_guarded | go_step))
  refine bodyPost_ret (v := .agg #[.int .i64 g.s.app, .slice A g.s.who.length c, .int .i64 g.s.exp, .int .i64 g.opened, .slice A' g.yes.length c', .int .i64 g.state]) (by simp only [results, Tryd.results21]; go_simp; try (first | rfl | exact ⟨rfl, rfl, rfl, rfl, rfl, rfl⟩)) rfl ?_
  exact key _ ((((Below.refl _ _).alloc (Nat.le_refl _) _).alloc (by simp) _).alloc (by simp; omega) _)
set_option maxRecDepth 100000 in
set_option maxHeartbeats 4000000 in
theorem refExpire_any (g : Gt) (A : Option Addr) (c : Nat) (A' : Option Addr) (c' : Nat) (now : Int) (w : World) (hs : Seq w w.heap.size 1 A g.s.who.length (cellsS g.s.who)) (hs' : Seq w w.heap.size 1 A' g.yes.length (cellsS g.yes)) (h1 : I64 g.opened) (h2 : I64 g.s.exp) : Calls Tryd.prog 21 #[.agg (garr g A c A' c'), .int .i64 now] w (GRet1 w (expG g now)) := by
  by_cases q0 : g.state = 0
  · obtain ⟨s, opened, yes, st⟩ := g
    dsimp only at q0
    subst q0
    exact refExpire0_any s opened yes A c A' c' now w hs hs' h1 h2
  · exact refExpire1_any g A c A' c' now w hs hs' q0
def zG : Gt := ⟨⟨0, [], 0⟩, 0, [], 0⟩
def openE (s : Gs) (now : Int) : Int := if validG s ≠ 0 then validG s else if now < 0 ∨ 1125899906842624 < now then 2 else 0
def openG (s : Gs) (now : Int) : Gt := if openE s now ≠ 0 then zG else ⟨s, now, [], 0⟩
set_option maxRecDepth 100000 in
set_option maxHeartbeats 4000000 in
theorem open_any (s : Gs) (A : Option Addr) (c : Nat) (now : Int) (w : World) (hs : Seq w w.heap.size 1 A s.who.length (cellsS s.who)) (hl : s.who.length ≤ 1000) (hm : ∀ x ∈ s.who, x.size ≤ 1000) : Calls Tryd.prog 10 #[.agg (sarr s A c), .int .i64 now] w (GRet w (openG s now) (openE s now)) := by
  have hb1 := ((Below.refl w.heap.size w).alloc (Nat.le_refl _) (.cells (sarr s A c) 24)).alloc (by simp) (.cells zarr 28)
  have hz : ((w.alloc (.cells (sarr s A c) 24)).alloc (.cells zarr 28)).heap.size = w.heap.size + 1 + 1 := by simp
  have d0 : (((w.alloc (.cells (sarr s A c) 24)).alloc (.cells zarr 28))).cell? ⟨w.heap.size, 0, none⟩ = some (.int .i64 s.app) := by simp [go_sem]
  have d1 : (((w.alloc (.cells (sarr s A c) 24)).alloc (.cells zarr 28))).cell? ⟨w.heap.size, 1, none⟩ = some (.slice A s.who.length c) := by simp [go_sem]
  have d2 : (((w.alloc (.cells (sarr s A c) 24)).alloc (.cells zarr 28))).cell? ⟨w.heap.size, 2, none⟩ = some (.int .i64 s.exp) := by simp [go_sem]
  have dF : ∀ j, (((w.alloc (.cells (sarr s A c) 24)).alloc (.cells zarr 28))).frozen? ⟨w.heap.size, j, none⟩ = false := fun j => by simp [go_sem]
  have z0 : (((w.alloc (.cells (sarr s A c) 24)).alloc (.cells zarr 28))).cell? ⟨w.heap.size + 1, 0, none⟩ = some (.int .i64 0) := by simp [go_sem]
  have z1 : (((w.alloc (.cells (sarr s A c) 24)).alloc (.cells zarr 28))).cell? ⟨w.heap.size + 1, 1, none⟩ = some (.slice none 0 0) := by simp [go_sem]
  have z2 : (((w.alloc (.cells (sarr s A c) 24)).alloc (.cells zarr 28))).cell? ⟨w.heap.size + 1, 2, none⟩ = some (.int .i64 0) := by simp [go_sem]
  have z3 : (((w.alloc (.cells (sarr s A c) 24)).alloc (.cells zarr 28))).cell? ⟨w.heap.size + 1, 3, none⟩ = some (.int .i64 0) := by simp [go_sem]
  have z4 : (((w.alloc (.cells (sarr s A c) 24)).alloc (.cells zarr 28))).cell? ⟨w.heap.size + 1, 4, none⟩ = some (.slice none 0 0) := by simp [go_sem]
  have z5 : (((w.alloc (.cells (sarr s A c) 24)).alloc (.cells zarr 28))).cell? ⟨w.heap.size + 1, 5, none⟩ = some (.int .i64 0) := by simp [go_sem]
  have zF : ∀ j, (((w.alloc (.cells (sarr s A c) 24)).alloc (.cells zarr 28))).frozen? ⟨w.heap.size + 1, j, none⟩ = false := fun j => by simp [go_sem]
  have hE : openE s now = openE s now := rfl
  conv at hE => rhs; unfold openE
  have hG : openG s now = openG s now := rfl
  conv at hG => rhs; unfold openG
  go_enter Tryd.func10, Tryd.ntmps10
  repeat' ((fail_if_success at_builtin); (first | go_skip | go_guarded | go_step))
  generalize ((w.alloc (.cells (sarr s A c) 24)).alloc (.cells zarr 28)) = w1 at *
  have hs1 := (hs.below hb1).more hb1.size
  have hval := valid_any s A c w1 hs1 (by omega) (fun x hx => by have := hm x hx; omega)
  generalize openE s now = r at *
  generalize openG s now = g' at *
  generalize validG s = v at *
  replace hE := Lib.hid hE
  replace hG := Lib.hid hG
  refine hval.mono ?_
  rintro e w2 ⟨rfl, hb2⟩
  dsimp only
  replace d0 := (hb2.cell (p := ⟨w.heap.size, 0, none⟩) (by dsimp only; omega)).trans d0
  replace d1 := (hb2.cell (p := ⟨w.heap.size, 1, none⟩) (by dsimp only; omega)).trans d1
  replace d2 := (hb2.cell (p := ⟨w.heap.size, 2, none⟩) (by dsimp only; omega)).trans d2
  replace dF := frz_below hb2 (by omega) dF
  replace z0 := (hb2.cell (p := ⟨w.heap.size + 1, 0, none⟩) (by dsimp only; omega)).trans z0
  replace z1 := (hb2.cell (p := ⟨w.heap.size + 1, 1, none⟩) (by dsimp only; omega)).trans z1
  replace z2 := (hb2.cell (p := ⟨w.heap.size + 1, 2, none⟩) (by dsimp only; omega)).trans z2
  replace z3 := (hb2.cell (p := ⟨w.heap.size + 1, 3, none⟩) (by dsimp only; omega)).trans z3
  replace z4 := (hb2.cell (p := ⟨w.heap.size + 1, 4, none⟩) (by dsimp only; omega)).trans z4
  replace z5 := (hb2.cell (p := ⟨w.heap.size + 1, 5, none⟩) (by dsimp only; omega)).trans z5
  replace zF := frz_below hb2 (by omega) zF
  have hbw2 := hb1.trans (hb2.mono hb1.size)
  have hz2 : w1.heap.size ≤ w2.heap.size := hb2.size
  clear hval
  by_cases hv : v = 0
  · have p0 : (v != 0) = false := by simp [hv]
    subst hv
    have hE' := hE.out
    rw [if_neg (by simp)] at hE'
    by_cases n1 : now < 0
    · rw [if_pos (.inl n1)] at hE'
      subst hE'
      have hG' := hG.out
      rw [if_pos (by simp)] at hG'
      subst hG'
      clear hE hG
      repeat' ((fail_if_success at_builtin); (first | go_skip | go_guarded | go_step))
      generalize hw_w3 : ((((((w2.setCell ⟨w.heap.size + 1, 0, none⟩ (.int .i64 0)).setCell ⟨w.heap.size + 1, 1, none⟩ (.slice none 0 0)).setCell ⟨w.heap.size + 1, 2, none⟩ (.int .i64 0)).setCell ⟨w.heap.size + 1, 3, none⟩ (.int .i64 0)).setCell ⟨w.heap.size + 1, 4, none⟩ (.slice none 0 0)).setCell ⟨w.heap.size + 1, 5, none⟩ (.int .i64 0)) = w3 at *
      obtain ⟨⟨nz0, nz1, nz2, nz3, nz4, nz5⟩, far_w3, frz_w3, hsz_w3, bel_w3, own_w3⟩ := six_ok (.int .i64 0) (.slice none 0 0) (.int .i64 0) (.int .i64 0) (.slice none 0 0) (.int .i64 0) z0 z1 z2 z3 z4 z5 w3 hw_w3
      clear z0 z1 z2 z3 z4 z5 hw_w3
      have z0 := nz0
      have z1 := nz1
      have z2 := nz2
      have z3 := nz3
      have z4 := nz4
      have z5 := nz5
      clear nz0 nz1 nz2 nz3 nz4 nz5
      replace d0 := (far_w3 ⟨w.heap.size, 0, none⟩ (by dsimp only; omega)).trans d0
      replace d1 := (far_w3 ⟨w.heap.size, 1, none⟩ (by dsimp only; omega)).trans d1
      replace d2 := (far_w3 ⟨w.heap.size, 2, none⟩ (by dsimp only; omega)).trans d2
      replace dF := fun j => (frz_w3 ⟨w.heap.size, j, none⟩).trans (dF j)
      replace zF := fun j => (frz_w3 ⟨w.heap.size + 1, j, none⟩).trans (zF j)
      clear d0 d1 d2
      have hbz := bel_w3 _ _ (by omega) hbw2
      clear far_w3 frz_w3 hsz_w3 bel_w3 own_w3
      refine bodyPost_ret (v := .tuple #[.agg zarr, .int .i64 (2)]) (by simp only [results, Tryd.results10]; go_simp; try (first | rfl | exact ⟨rfl, rfl, rfl, rfl, rfl, rfl⟩)) rfl ?_
      exact ⟨none, 0, none, 0, rfl, hbz, SeqP.nil_, SeqP.nil_⟩
    · by_cases n2 : 1125899906842624 < now
      · rw [if_pos (.inr n2)] at hE'
        subst hE'
        have hG' := hG.out
        rw [if_pos (by simp)] at hG'
        subst hG'
        clear hE hG
        repeat' ((fail_if_success at_builtin); (first | go_skip | go_guarded | go_step))
        generalize hw_w3 : ((((((w2.setCell ⟨w.heap.size + 1, 0, none⟩ (.int .i64 0)).setCell ⟨w.heap.size + 1, 1, none⟩ (.slice none 0 0)).setCell ⟨w.heap.size + 1, 2, none⟩ (.int .i64 0)).setCell ⟨w.heap.size + 1, 3, none⟩ (.int .i64 0)).setCell ⟨w.heap.size + 1, 4, none⟩ (.slice none 0 0)).setCell ⟨w.heap.size + 1, 5, none⟩ (.int .i64 0)) = w3 at *
        obtain ⟨⟨nz0, nz1, nz2, nz3, nz4, nz5⟩, far_w3, frz_w3, hsz_w3, bel_w3, own_w3⟩ := six_ok (.int .i64 0) (.slice none 0 0) (.int .i64 0) (.int .i64 0) (.slice none 0 0) (.int .i64 0) z0 z1 z2 z3 z4 z5 w3 hw_w3
        clear z0 z1 z2 z3 z4 z5 hw_w3
        have z0 := nz0
        have z1 := nz1
        have z2 := nz2
        have z3 := nz3
        have z4 := nz4
        have z5 := nz5
        clear nz0 nz1 nz2 nz3 nz4 nz5
        replace d0 := (far_w3 ⟨w.heap.size, 0, none⟩ (by dsimp only; omega)).trans d0
        replace d1 := (far_w3 ⟨w.heap.size, 1, none⟩ (by dsimp only; omega)).trans d1
        replace d2 := (far_w3 ⟨w.heap.size, 2, none⟩ (by dsimp only; omega)).trans d2
        replace dF := fun j => (frz_w3 ⟨w.heap.size, j, none⟩).trans (dF j)
        replace zF := fun j => (frz_w3 ⟨w.heap.size + 1, j, none⟩).trans (zF j)
        clear d0 d1 d2
        have hbz := bel_w3 _ _ (by omega) hbw2
        clear far_w3 frz_w3 hsz_w3 bel_w3 own_w3
        refine bodyPost_ret (v := .tuple #[.agg zarr, .int .i64 (2)]) (by simp only [results, Tryd.results10]; go_simp; try (first | rfl | exact ⟨rfl, rfl, rfl, rfl, rfl, rfl⟩)) rfl ?_
        exact ⟨none, 0, none, 0, rfl, hbz, SeqP.nil_, SeqP.nil_⟩
      · rw [if_neg (by omega)] at hE'
        subst hE'
        have hG' := hG.out
        rw [if_neg (by simp)] at hG'
        subst hG'
        clear hE hG
        have hs2 := (hs.below hbw2).more hbw2.size
        repeat' ((fail_if_success at_builtin); (first | go_skip | go_guarded | go_step))
        refine (copied_any ⟨s, now, [], 0⟩ A c none 0 w2 hs2 SeqP.nil_ hl (by simp)).mono ?_
        rintro e w3 ⟨A1, c1, A2, c2, B, rfl, hb3, hB, hB2, hq1, hq2⟩
        dsimp only
        replace d0 := (hb3.cell (p := ⟨w.heap.size, 0, none⟩) (by dsimp only; omega)).trans d0
        replace d1 := (hb3.cell (p := ⟨w.heap.size, 1, none⟩) (by dsimp only; omega)).trans d1
        replace d2 := (hb3.cell (p := ⟨w.heap.size, 2, none⟩) (by dsimp only; omega)).trans d2
        replace dF := frz_below hb3 (by omega) dF
        replace z0 := (hb3.cell (p := ⟨w.heap.size + 1, 0, none⟩) (by dsimp only; omega)).trans z0
        replace z1 := (hb3.cell (p := ⟨w.heap.size + 1, 1, none⟩) (by dsimp only; omega)).trans z1
        replace z2 := (hb3.cell (p := ⟨w.heap.size + 1, 2, none⟩) (by dsimp only; omega)).trans z2
        replace z3 := (hb3.cell (p := ⟨w.heap.size + 1, 3, none⟩) (by dsimp only; omega)).trans z3
        replace z4 := (hb3.cell (p := ⟨w.heap.size + 1, 4, none⟩) (by dsimp only; omega)).trans z4
        replace z5 := (hb3.cell (p := ⟨w.heap.size + 1, 5, none⟩) (by dsimp only; omega)).trans z5
        replace zF := frz_below hb3 (by omega) zF
        have hbw3 := hbw2.trans (hb3.mono hbw2.size)
        repeat' ((fail_if_success at_builtin); (first | go_skip | go_guarded | go_step))
        generalize hw_w4 : ((((((w3.setCell ⟨w.heap.size + 1, 0, none⟩ (.int .i64 s.app)).setCell ⟨w.heap.size + 1, 1, none⟩ (.slice A1 s.who.length c1)).setCell ⟨w.heap.size + 1, 2, none⟩ (.int .i64 s.exp)).setCell ⟨w.heap.size + 1, 3, none⟩ (.int .i64 now)).setCell ⟨w.heap.size + 1, 4, none⟩ (.slice A2 0 c2)).setCell ⟨w.heap.size + 1, 5, none⟩ (.int .i64 0)) = w4 at *
        obtain ⟨⟨nz0, nz1, nz2, nz3, nz4, nz5⟩, far_w4, frz_w4, hsz_w4, bel_w4, own_w4⟩ := six_ok (.int .i64 s.app) (.slice A1 s.who.length c1) (.int .i64 s.exp) (.int .i64 now) (.slice A2 0 c2) (.int .i64 0) z0 z1 z2 z3 z4 z5 w4 hw_w4
        clear z0 z1 z2 z3 z4 z5 hw_w4
        have z0 := nz0
        have z1 := nz1
        have z2 := nz2
        have z3 := nz3
        have z4 := nz4
        have z5 := nz5
        clear nz0 nz1 nz2 nz3 nz4 nz5
        replace d0 := (far_w4 ⟨w.heap.size, 0, none⟩ (by dsimp only; omega)).trans d0
        replace d1 := (far_w4 ⟨w.heap.size, 1, none⟩ (by dsimp only; omega)).trans d1
        replace d2 := (far_w4 ⟨w.heap.size, 2, none⟩ (by dsimp only; omega)).trans d2
        replace dF := fun j => (frz_w4 ⟨w.heap.size, j, none⟩).trans (dF j)
        replace zF := fun j => (frz_w4 ⟨w.heap.size + 1, j, none⟩).trans (zF j)
        clear d0 d1 d2
        have hbz := bel_w4 _ _ (by omega) hbw3
        have hq1' := (SeqP.map hq1 (fun p hp => far_w4 p (by have := hp.1; omega)) fun _ h => h).lower
        clear far_w4 frz_w4 hsz_w4 bel_w4 own_w4
        refine bodyPost_ret (v := .tuple #[.agg #[.int .i64 s.app, .slice A1 s.who.length c1, .int .i64 s.exp, .int .i64 now, .slice A2 0 c2, .int .i64 0], .int .i64 0]) (by simp only [results, Tryd.results10]; go_simp; try (first | rfl | exact ⟨rfl, rfl, rfl, rfl, rfl, rfl⟩)) rfl ?_
        exact ⟨A1, c1, A2, c2, rfl, hbz, hq1', SeqP.empty _⟩
  · have p0 : (v != 0) = true := by simp [hv]
    have q0 : (v == 0) = false := by simp [hv]
    have hE' := hE.out
    rw [if_pos hv] at hE'
    have hG' := hG.out
    rw [if_pos (by rw [hE']; exact hv)] at hG'
    subst hE' hG'
    clear hE hG hv
    repeat' ((fail_if_success at_builtin); (first | go_skip | go_guarded | go_step))
    generalize hw_w3 : ((((((w2.setCell ⟨w.heap.size + 1, 0, none⟩ (.int .i64 0)).setCell ⟨w.heap.size + 1, 1, none⟩ (.slice none 0 0)).setCell ⟨w.heap.size + 1, 2, none⟩ (.int .i64 0)).setCell ⟨w.heap.size + 1, 3, none⟩ (.int .i64 0)).setCell ⟨w.heap.size + 1, 4, none⟩ (.slice none 0 0)).setCell ⟨w.heap.size + 1, 5, none⟩ (.int .i64 0)) = w3 at *
    obtain ⟨⟨nz0, nz1, nz2, nz3, nz4, nz5⟩, far_w3, frz_w3, hsz_w3, bel_w3, own_w3⟩ := six_ok (.int .i64 0) (.slice none 0 0) (.int .i64 0) (.int .i64 0) (.slice none 0 0) (.int .i64 0) z0 z1 z2 z3 z4 z5 w3 hw_w3
    clear z0 z1 z2 z3 z4 z5 hw_w3
    have z0 := nz0
    have z1 := nz1
    have z2 := nz2
    have z3 := nz3
    have z4 := nz4
    have z5 := nz5
    clear nz0 nz1 nz2 nz3 nz4 nz5
    replace d0 := (far_w3 ⟨w.heap.size, 0, none⟩ (by dsimp only; omega)).trans d0
    replace d1 := (far_w3 ⟨w.heap.size, 1, none⟩ (by dsimp only; omega)).trans d1
    replace d2 := (far_w3 ⟨w.heap.size, 2, none⟩ (by dsimp only; omega)).trans d2
    replace dF := fun j => (frz_w3 ⟨w.heap.size, j, none⟩).trans (dF j)
    replace zF := fun j => (frz_w3 ⟨w.heap.size + 1, j, none⟩).trans (zF j)
    clear d0 d1 d2
    have hbz := bel_w3 _ _ (by omega) hbw2
    clear far_w3 frz_w3 hsz_w3 bel_w3 own_w3
    refine bodyPost_ret (v := .tuple #[.agg zarr, .int .i64 (r)]) (by simp only [results, Tryd.results10]; go_simp; try (first | rfl | exact ⟨rfl, rfl, rfl, rfl, rfl, rfl⟩)) rfl ?_
    exact ⟨none, 0, none, 0, rfl, hbz, SeqP.nil_, SeqP.nil_⟩
set_option maxRecDepth 100000 in
set_option maxHeartbeats 4000000 in
theorem refOpen_any (s : Gs) (A : Option Addr) (c : Nat) (now : Int) (w : World) (hs : Seq w w.heap.size 1 A s.who.length (cellsS s.who)) (hl : s.who.length ≤ 1000) (hm : ∀ x ∈ s.who, x.size ≤ 1000) : Calls Tryd.prog 11 #[.agg (sarr s A c), .int .i64 now] w (GRet w (openG s now) (openE s now)) := by
  have hb1 := ((Below.refl w.heap.size w).alloc (Nat.le_refl _) (.cells (sarr s A c) 24)).alloc (by simp) (.cells zarr 28)
  have hz : ((w.alloc (.cells (sarr s A c) 24)).alloc (.cells zarr 28)).heap.size = w.heap.size + 1 + 1 := by simp
  have d0 : (((w.alloc (.cells (sarr s A c) 24)).alloc (.cells zarr 28))).cell? ⟨w.heap.size, 0, none⟩ = some (.int .i64 s.app) := by simp [go_sem]
  have d1 : (((w.alloc (.cells (sarr s A c) 24)).alloc (.cells zarr 28))).cell? ⟨w.heap.size, 1, none⟩ = some (.slice A s.who.length c) := by simp [go_sem]
  have d2 : (((w.alloc (.cells (sarr s A c) 24)).alloc (.cells zarr 28))).cell? ⟨w.heap.size, 2, none⟩ = some (.int .i64 s.exp) := by simp [go_sem]
  have dF : ∀ j, (((w.alloc (.cells (sarr s A c) 24)).alloc (.cells zarr 28))).frozen? ⟨w.heap.size, j, none⟩ = false := fun j => by simp [go_sem]
  have z0 : (((w.alloc (.cells (sarr s A c) 24)).alloc (.cells zarr 28))).cell? ⟨w.heap.size + 1, 0, none⟩ = some (.int .i64 0) := by simp [go_sem]
  have z1 : (((w.alloc (.cells (sarr s A c) 24)).alloc (.cells zarr 28))).cell? ⟨w.heap.size + 1, 1, none⟩ = some (.slice none 0 0) := by simp [go_sem]
  have z2 : (((w.alloc (.cells (sarr s A c) 24)).alloc (.cells zarr 28))).cell? ⟨w.heap.size + 1, 2, none⟩ = some (.int .i64 0) := by simp [go_sem]
  have z3 : (((w.alloc (.cells (sarr s A c) 24)).alloc (.cells zarr 28))).cell? ⟨w.heap.size + 1, 3, none⟩ = some (.int .i64 0) := by simp [go_sem]
  have z4 : (((w.alloc (.cells (sarr s A c) 24)).alloc (.cells zarr 28))).cell? ⟨w.heap.size + 1, 4, none⟩ = some (.slice none 0 0) := by simp [go_sem]
  have z5 : (((w.alloc (.cells (sarr s A c) 24)).alloc (.cells zarr 28))).cell? ⟨w.heap.size + 1, 5, none⟩ = some (.int .i64 0) := by simp [go_sem]
  have zF : ∀ j, (((w.alloc (.cells (sarr s A c) 24)).alloc (.cells zarr 28))).frozen? ⟨w.heap.size + 1, j, none⟩ = false := fun j => by simp [go_sem]
  have hE : openE s now = openE s now := rfl
  conv at hE => rhs; unfold openE
  have hG : openG s now = openG s now := rfl
  conv at hG => rhs; unfold openG
  go_enter Tryd.func11, Tryd.ntmps11
  repeat' ((fail_if_success at_builtin); (first | go_skip | go_guarded | go_step))
  generalize ((w.alloc (.cells (sarr s A c) 24)).alloc (.cells zarr 28)) = w1 at *
  have hs1 := (hs.below hb1).more hb1.size
  have hval := refValid_any s A c w1 hs1 (by omega) (fun x hx => by have := hm x hx; omega)
  generalize openE s now = r at *
  generalize openG s now = g' at *
  generalize validG s = v at *
  replace hE := Lib.hid hE
  replace hG := Lib.hid hG
  refine hval.mono ?_
  rintro e w2 ⟨rfl, hb2⟩
  dsimp only
  replace d0 := (hb2.cell (p := ⟨w.heap.size, 0, none⟩) (by dsimp only; omega)).trans d0
  replace d1 := (hb2.cell (p := ⟨w.heap.size, 1, none⟩) (by dsimp only; omega)).trans d1
  replace d2 := (hb2.cell (p := ⟨w.heap.size, 2, none⟩) (by dsimp only; omega)).trans d2
  replace dF := frz_below hb2 (by omega) dF
  replace z0 := (hb2.cell (p := ⟨w.heap.size + 1, 0, none⟩) (by dsimp only; omega)).trans z0
  replace z1 := (hb2.cell (p := ⟨w.heap.size + 1, 1, none⟩) (by dsimp only; omega)).trans z1
  replace z2 := (hb2.cell (p := ⟨w.heap.size + 1, 2, none⟩) (by dsimp only; omega)).trans z2
  replace z3 := (hb2.cell (p := ⟨w.heap.size + 1, 3, none⟩) (by dsimp only; omega)).trans z3
  replace z4 := (hb2.cell (p := ⟨w.heap.size + 1, 4, none⟩) (by dsimp only; omega)).trans z4
  replace z5 := (hb2.cell (p := ⟨w.heap.size + 1, 5, none⟩) (by dsimp only; omega)).trans z5
  replace zF := frz_below hb2 (by omega) zF
  have hbw2 := hb1.trans (hb2.mono hb1.size)
  have hz2 : w1.heap.size ≤ w2.heap.size := hb2.size
  clear hval
  by_cases hv : v = 0
  · have p0 : (v != 0) = false := by simp [hv]
    subst hv
    have hE' := hE.out
    rw [if_neg (by simp)] at hE'
    by_cases n1 : now < 0
    · rw [if_pos (.inl n1)] at hE'
      subst hE'
      have hG' := hG.out
      rw [if_pos (by simp)] at hG'
      subst hG'
      clear hE hG
      repeat' ((fail_if_success at_builtin); (first | go_skip | go_guarded | go_step))
      generalize hw_w3 : ((((((w2.setCell ⟨w.heap.size + 1, 0, none⟩ (.int .i64 0)).setCell ⟨w.heap.size + 1, 1, none⟩ (.slice none 0 0)).setCell ⟨w.heap.size + 1, 2, none⟩ (.int .i64 0)).setCell ⟨w.heap.size + 1, 3, none⟩ (.int .i64 0)).setCell ⟨w.heap.size + 1, 4, none⟩ (.slice none 0 0)).setCell ⟨w.heap.size + 1, 5, none⟩ (.int .i64 0)) = w3 at *
      obtain ⟨⟨nz0, nz1, nz2, nz3, nz4, nz5⟩, far_w3, frz_w3, hsz_w3, bel_w3, own_w3⟩ := six_ok (.int .i64 0) (.slice none 0 0) (.int .i64 0) (.int .i64 0) (.slice none 0 0) (.int .i64 0) z0 z1 z2 z3 z4 z5 w3 hw_w3
      clear z0 z1 z2 z3 z4 z5 hw_w3
      have z0 := nz0
      have z1 := nz1
      have z2 := nz2
      have z3 := nz3
      have z4 := nz4
      have z5 := nz5
      clear nz0 nz1 nz2 nz3 nz4 nz5
      replace d0 := (far_w3 ⟨w.heap.size, 0, none⟩ (by dsimp only; omega)).trans d0
      replace d1 := (far_w3 ⟨w.heap.size, 1, none⟩ (by dsimp only; omega)).trans d1
      replace d2 := (far_w3 ⟨w.heap.size, 2, none⟩ (by dsimp only; omega)).trans d2
      replace dF := fun j => (frz_w3 ⟨w.heap.size, j, none⟩).trans (dF j)
      replace zF := fun j => (frz_w3 ⟨w.heap.size + 1, j, none⟩).trans (zF j)
      clear d0 d1 d2
      have hbz := bel_w3 _ _ (by omega) hbw2
      clear far_w3 frz_w3 hsz_w3 bel_w3 own_w3
      refine bodyPost_ret (v := .tuple #[.agg zarr, .int .i64 (2)]) (by simp only [results, Tryd.results11]; go_simp; try (first | rfl | exact ⟨rfl, rfl, rfl, rfl, rfl, rfl⟩)) rfl ?_
      exact ⟨none, 0, none, 0, rfl, hbz, SeqP.nil_, SeqP.nil_⟩
    · by_cases n2 : 1125899906842624 < now
      · rw [if_pos (.inr n2)] at hE'
        subst hE'
        have hG' := hG.out
        rw [if_pos (by simp)] at hG'
        subst hG'
        clear hE hG
        repeat' ((fail_if_success at_builtin); (first | go_skip | go_guarded | go_step))
        generalize hw_w3 : ((((((w2.setCell ⟨w.heap.size + 1, 0, none⟩ (.int .i64 0)).setCell ⟨w.heap.size + 1, 1, none⟩ (.slice none 0 0)).setCell ⟨w.heap.size + 1, 2, none⟩ (.int .i64 0)).setCell ⟨w.heap.size + 1, 3, none⟩ (.int .i64 0)).setCell ⟨w.heap.size + 1, 4, none⟩ (.slice none 0 0)).setCell ⟨w.heap.size + 1, 5, none⟩ (.int .i64 0)) = w3 at *
        obtain ⟨⟨nz0, nz1, nz2, nz3, nz4, nz5⟩, far_w3, frz_w3, hsz_w3, bel_w3, own_w3⟩ := six_ok (.int .i64 0) (.slice none 0 0) (.int .i64 0) (.int .i64 0) (.slice none 0 0) (.int .i64 0) z0 z1 z2 z3 z4 z5 w3 hw_w3
        clear z0 z1 z2 z3 z4 z5 hw_w3
        have z0 := nz0
        have z1 := nz1
        have z2 := nz2
        have z3 := nz3
        have z4 := nz4
        have z5 := nz5
        clear nz0 nz1 nz2 nz3 nz4 nz5
        replace d0 := (far_w3 ⟨w.heap.size, 0, none⟩ (by dsimp only; omega)).trans d0
        replace d1 := (far_w3 ⟨w.heap.size, 1, none⟩ (by dsimp only; omega)).trans d1
        replace d2 := (far_w3 ⟨w.heap.size, 2, none⟩ (by dsimp only; omega)).trans d2
        replace dF := fun j => (frz_w3 ⟨w.heap.size, j, none⟩).trans (dF j)
        replace zF := fun j => (frz_w3 ⟨w.heap.size + 1, j, none⟩).trans (zF j)
        clear d0 d1 d2
        have hbz := bel_w3 _ _ (by omega) hbw2
        clear far_w3 frz_w3 hsz_w3 bel_w3 own_w3
        refine bodyPost_ret (v := .tuple #[.agg zarr, .int .i64 (2)]) (by simp only [results, Tryd.results11]; go_simp; try (first | rfl | exact ⟨rfl, rfl, rfl, rfl, rfl, rfl⟩)) rfl ?_
        exact ⟨none, 0, none, 0, rfl, hbz, SeqP.nil_, SeqP.nil_⟩
      · rw [if_neg (by omega)] at hE'
        subst hE'
        have hG' := hG.out
        rw [if_neg (by simp)] at hG'
        subst hG'
        clear hE hG
        repeat' ((fail_if_success at_builtin); (first | go_skip | go_guarded | go_step))
        generalize hw_w4 : ((((((w2.setCell ⟨w.heap.size + 1, 0, none⟩ (.int .i64 s.app)).setCell ⟨w.heap.size + 1, 1, none⟩ (.slice A s.who.length c)).setCell ⟨w.heap.size + 1, 2, none⟩ (.int .i64 s.exp)).setCell ⟨w.heap.size + 1, 3, none⟩ (.int .i64 now)).setCell ⟨w.heap.size + 1, 4, none⟩ (.slice none 0 0)).setCell ⟨w.heap.size + 1, 5, none⟩ (.int .i64 0)) = w4 at *
        obtain ⟨⟨nz0, nz1, nz2, nz3, nz4, nz5⟩, far_w4, frz_w4, hsz_w4, bel_w4, own_w4⟩ := six_ok (.int .i64 s.app) (.slice A s.who.length c) (.int .i64 s.exp) (.int .i64 now) (.slice none 0 0) (.int .i64 0) z0 z1 z2 z3 z4 z5 w4 hw_w4
        clear z0 z1 z2 z3 z4 z5 hw_w4
        have z0 := nz0
        have z1 := nz1
        have z2 := nz2
        have z3 := nz3
        have z4 := nz4
        have z5 := nz5
        clear nz0 nz1 nz2 nz3 nz4 nz5
        replace d0 := (far_w4 ⟨w.heap.size, 0, none⟩ (by dsimp only; omega)).trans d0
        replace d1 := (far_w4 ⟨w.heap.size, 1, none⟩ (by dsimp only; omega)).trans d1
        replace d2 := (far_w4 ⟨w.heap.size, 2, none⟩ (by dsimp only; omega)).trans d2
        replace dF := fun j => (frz_w4 ⟨w.heap.size, j, none⟩).trans (dF j)
        replace zF := fun j => (frz_w4 ⟨w.heap.size + 1, j, none⟩).trans (zF j)
        clear d0 d1 d2
        have hbz := bel_w4 _ _ (by omega) hbw2
        clear far_w4 frz_w4 hsz_w4 bel_w4 own_w4
        refine bodyPost_ret (v := .tuple #[.agg #[.int .i64 s.app, .slice A s.who.length c, .int .i64 s.exp, .int .i64 now, .slice none 0 0, .int .i64 0], .int .i64 0]) (by simp only [results, Tryd.results11]; go_simp; try (first | rfl | exact ⟨rfl, rfl, rfl, rfl, rfl, rfl⟩)) rfl ?_
        exact ⟨A, c, none, 0, rfl, hbz, (hs.below hbz).more hbz.size, SeqP.nil_⟩
  · have p0 : (v != 0) = true := by simp [hv]
    have q0 : (v == 0) = false := by simp [hv]
    have hE' := hE.out
    rw [if_pos hv] at hE'
    have hG' := hG.out
    rw [if_pos (by rw [hE']; exact hv)] at hG'
    subst hE' hG'
    clear hE hG hv
    repeat' ((fail_if_success at_builtin); (first | go_skip | go_guarded | go_step))
    generalize hw_w3 : ((((((w2.setCell ⟨w.heap.size + 1, 0, none⟩ (.int .i64 0)).setCell ⟨w.heap.size + 1, 1, none⟩ (.slice none 0 0)).setCell ⟨w.heap.size + 1, 2, none⟩ (.int .i64 0)).setCell ⟨w.heap.size + 1, 3, none⟩ (.int .i64 0)).setCell ⟨w.heap.size + 1, 4, none⟩ (.slice none 0 0)).setCell ⟨w.heap.size + 1, 5, none⟩ (.int .i64 0)) = w3 at *
    obtain ⟨⟨nz0, nz1, nz2, nz3, nz4, nz5⟩, far_w3, frz_w3, hsz_w3, bel_w3, own_w3⟩ := six_ok (.int .i64 0) (.slice none 0 0) (.int .i64 0) (.int .i64 0) (.slice none 0 0) (.int .i64 0) z0 z1 z2 z3 z4 z5 w3 hw_w3
    clear z0 z1 z2 z3 z4 z5 hw_w3
    have z0 := nz0
    have z1 := nz1
    have z2 := nz2
    have z3 := nz3
    have z4 := nz4
    have z5 := nz5
    clear nz0 nz1 nz2 nz3 nz4 nz5
    replace d0 := (far_w3 ⟨w.heap.size, 0, none⟩ (by dsimp only; omega)).trans d0
    replace d1 := (far_w3 ⟨w.heap.size, 1, none⟩ (by dsimp only; omega)).trans d1
    replace d2 := (far_w3 ⟨w.heap.size, 2, none⟩ (by dsimp only; omega)).trans d2
    replace dF := fun j => (frz_w3 ⟨w.heap.size, j, none⟩).trans (dF j)
    replace zF := fun j => (frz_w3 ⟨w.heap.size + 1, j, none⟩).trans (zF j)
    clear d0 d1 d2
    have hbz := bel_w3 _ _ (by omega) hbw2
    clear far_w3 frz_w3 hsz_w3 bel_w3 own_w3
    refine bodyPost_ret (v := .tuple #[.agg zarr, .int .i64 (r)]) (by simp only [results, Tryd.results11]; go_simp; try (first | rfl | exact ⟨rfl, rfl, rfl, rfl, rfl, rfl⟩)) rfl ?_
    exact ⟨none, 0, none, 0, rfl, hbz, SeqP.nil_, SeqP.nil_⟩
end Go.Proofs.YtionchkblgpklaaDoor
