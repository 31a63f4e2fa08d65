/- The document's approvals. -/
import Derived.Test.YtionchkblgpklaaDoorGtA
namespace Go.Proofs.YtionchkblgpklaaDoor
open Go.RowKit
set_option maxRecDepth 100000 in
set_option maxHeartbeats 4000000 in
theorem refApprove_any (g : Gt) (A : Option Addr) (c : Nat) (A' : Option Addr) (c' : Nat) (who : ByteArray) (now : Int) (w : World) (hs : Seq w w.heap.size 1 A g.s.who.length (cellsS g.s.who)) (hs' : Seq w w.heap.size 1 A' g.yes.length (cellsS g.yes)) (hl : g.s.who.length ≤ 1000) (hl' : g.yes.length ≤ 1000) (hc' : g.yes.length ≤ c') (hm : ∀ x ∈ g.yes, x.size ≤ 1000) (hwz : who.size ≤ 1000) (h1 : I64 g.opened) (h2 : I64 g.s.exp) : Calls Tryd.prog 17 #[.agg (garr g A c A' c'), .string who, .int .i64 now] w (GRet w (appG g who now) (appE g who now)) := by
  have hb1 := ((Below.refl w.heap.size w).alloc (Nat.le_refl _) (.cells (garr g A c A' c') 28)).alloc (by simp) (.cells zarr 28)
  have hz : ((w.alloc (.cells (garr g A c A' c') 28)).alloc (.cells zarr 28)).heap.size = w.heap.size + 1 + 1 := by simp
  have d0 : (((w.alloc (.cells (garr g A c A' c') 28)).alloc (.cells zarr 28))).cell? ⟨w.heap.size, 0, none⟩ = some (.int .i64 g.s.app) := by simp [go_sem]
  have d1 : (((w.alloc (.cells (garr g A c A' c') 28)).alloc (.cells zarr 28))).cell? ⟨w.heap.size, 1, none⟩ = some (.slice A g.s.who.length c) := by simp [go_sem]
  have d2 : (((w.alloc (.cells (garr g A c A' c') 28)).alloc (.cells zarr 28))).cell? ⟨w.heap.size, 2, none⟩ = some (.int .i64 g.s.exp) := by simp [go_sem]
  have d3 : (((w.alloc (.cells (garr g A c A' c') 28)).alloc (.cells zarr 28))).cell? ⟨w.heap.size, 3, none⟩ = some (.int .i64 g.opened) := by simp [go_sem]
  have d4 : (((w.alloc (.cells (garr g A c A' c') 28)).alloc (.cells zarr 28))).cell? ⟨w.heap.size, 4, none⟩ = some (.slice A' g.yes.length c') := by simp [go_sem]
  have d5 : (((w.alloc (.cells (garr g A c A' c') 28)).alloc (.cells zarr 28))).cell? ⟨w.heap.size, 5, none⟩ = some (.int .i64 g.state) := by simp [go_sem]
  have dF : ∀ j, (((w.alloc (.cells (garr g A c A' c') 28)).alloc (.cells zarr 28))).frozen? ⟨w.heap.size, j, none⟩ = false := fun j => by simp [go_sem]
  have z0 : (((w.alloc (.cells (garr g A c A' c') 28)).alloc (.cells zarr 28))).cell? ⟨w.heap.size + 1, 0, none⟩ = some (.int .i64 0) := by simp [go_sem]
  have z1 : (((w.alloc (.cells (garr g A c A' c') 28)).alloc (.cells zarr 28))).cell? ⟨w.heap.size + 1, 1, none⟩ = some (.slice none 0 0) := by simp [go_sem]
  have z2 : (((w.alloc (.cells (garr g A c A' c') 28)).alloc (.cells zarr 28))).cell? ⟨w.heap.size + 1, 2, none⟩ = some (.int .i64 0) := by simp [go_sem]
  have z3 : (((w.alloc (.cells (garr g A c A' c') 28)).alloc (.cells zarr 28))).cell? ⟨w.heap.size + 1, 3, none⟩ = some (.int .i64 0) := by simp [go_sem]
  have z4 : (((w.alloc (.cells (garr g A c A' c') 28)).alloc (.cells zarr 28))).cell? ⟨w.heap.size + 1, 4, none⟩ = some (.slice none 0 0) := by simp [go_sem]
  have z5 : (((w.alloc (.cells (garr g A c A' c') 28)).alloc (.cells zarr 28))).cell? ⟨w.heap.size + 1, 5, none⟩ = some (.int .i64 0) := by simp [go_sem]
  have zF : ∀ j, (((w.alloc (.cells (garr g A c A' c') 28)).alloc (.cells zarr 28))).frozen? ⟨w.heap.size + 1, j, none⟩ = false := fun j => by simp [go_sem]
  go_enter Tryd.func17, Tryd.ntmps17
  repeat' ((fail_if_success at_builtin); (first | go_skip | go_guarded | go_step))
  generalize ((w.alloc (.cells (garr g A c A' c') 28)).alloc (.cells zarr 28)) = w1 at *
  have hs1 := (hs.below hb1).more hb1.size
  have hs1' := (hs'.below hb1).more hb1.size
  have hchk := decide_any g A c A' c' who now w1 hs1 hl h1 h2
  have hE : appE g who now = appE g who now := rfl
  conv at hE => rhs; unfold appE
  have hG : appG g who now = appG g who now := rfl
  conv at hG => rhs; unfold appG
  generalize appE g who now = r at *
  generalize appG g who now = g' at *
  generalize checkG g who now = k at *
  replace hE := Lib.hid hE
  replace hG := Lib.hid hG
  refine hchk.mono ?_
  rintro e w2 ⟨rfl, hb2⟩
  dsimp only
  replace d0 := (hb2.cell (p := ⟨w.heap.size, 0, none⟩) (by dsimp only; omega)).trans d0
  replace d1 := (hb2.cell (p := ⟨w.heap.size, 1, none⟩) (by dsimp only; omega)).trans d1
  replace d2 := (hb2.cell (p := ⟨w.heap.size, 2, none⟩) (by dsimp only; omega)).trans d2
  replace d3 := (hb2.cell (p := ⟨w.heap.size, 3, none⟩) (by dsimp only; omega)).trans d3
  replace d4 := (hb2.cell (p := ⟨w.heap.size, 4, none⟩) (by dsimp only; omega)).trans d4
  replace d5 := (hb2.cell (p := ⟨w.heap.size, 5, none⟩) (by dsimp only; omega)).trans d5
  replace dF := frz_below hb2 (by omega) dF
  replace z0 := (hb2.cell (p := ⟨w.heap.size + 1, 0, none⟩) (by dsimp only; omega)).trans z0
  replace z1 := (hb2.cell (p := ⟨w.heap.size + 1, 1, none⟩) (by dsimp only; omega)).trans z1
  replace z2 := (hb2.cell (p := ⟨w.heap.size + 1, 2, none⟩) (by dsimp only; omega)).trans z2
  replace z3 := (hb2.cell (p := ⟨w.heap.size + 1, 3, none⟩) (by dsimp only; omega)).trans z3
  replace z4 := (hb2.cell (p := ⟨w.heap.size + 1, 4, none⟩) (by dsimp only; omega)).trans z4
  replace z5 := (hb2.cell (p := ⟨w.heap.size + 1, 5, none⟩) (by dsimp only; omega)).trans z5
  replace zF := frz_below hb2 (by omega) zF
  have hbw2 := hb1.trans (hb2.mono hb1.size)
  have hz2 : w1.heap.size ≤ w2.heap.size := hb2.size
  clear hchk hs1
  by_cases hk : k = 0
  · have p0 : (k == 0) = true := by simp [hk]
    have p1 : (k != 0) = false := by simp [hk]
    have hE' := hE.out
    rw [if_neg (Decidable.not_not.2 hk)] at hE'
    subst hk
    have hs2' := (hs1'.below hb2).more hb2.size
    repeat' ((fail_if_success at_builtin); (first | go_skip | go_guarded | go_step))
    refine (refHas_any g.yes who A' c' _ w2 hs2' (by omega)).mono ?_
    rintro e w5 ⟨rfl, rfl⟩
    dsimp only
    cases hh : hasL g.yes who with
    | true =>
      rw [if_pos hh] at hE'
      subst hE'
      have hG' := hG.out
      rw [if_pos (by simp)] at hG'
      subst hG'
      clear hE hG
      repeat' ((fail_if_success at_builtin); (first | go_skip | go_guarded | go_step))
      generalize hw_w6 : ((((((w5.setCell ⟨w.heap.size + 1, 0, none⟩ (.int .i64 g'.s.app)).setCell ⟨w.heap.size + 1, 1, none⟩ (.slice A g'.s.who.length c)).setCell ⟨w.heap.size + 1, 2, none⟩ (.int .i64 g'.s.exp)).setCell ⟨w.heap.size + 1, 3, none⟩ (.int .i64 g'.opened)).setCell ⟨w.heap.size + 1, 4, none⟩ (.slice A' g'.yes.length c')).setCell ⟨w.heap.size + 1, 5, none⟩ (.int .i64 g'.state)) = w6 at *
      obtain ⟨⟨nz0, nz1, nz2, nz3, nz4, nz5⟩, far_w6, frz_w6, hsz_w6, bel_w6, own_w6⟩ := six_ok (.int .i64 g'.s.app) (.slice A g'.s.who.length c) (.int .i64 g'.s.exp) (.int .i64 g'.opened) (.slice A' g'.yes.length c') (.int .i64 g'.state) z0 z1 z2 z3 z4 z5 w6 hw_w6
      clear z0 z1 z2 z3 z4 z5 hw_w6
      have z0 := nz0
      have z1 := nz1
      have z2 := nz2
      have z3 := nz3
      have z4 := nz4
      have z5 := nz5
      clear nz0 nz1 nz2 nz3 nz4 nz5
      replace d0 := (far_w6 ⟨w.heap.size, 0, none⟩ (by dsimp only; omega)).trans d0
      replace d1 := (far_w6 ⟨w.heap.size, 1, none⟩ (by dsimp only; omega)).trans d1
      replace d2 := (far_w6 ⟨w.heap.size, 2, none⟩ (by dsimp only; omega)).trans d2
      replace d3 := (far_w6 ⟨w.heap.size, 3, none⟩ (by dsimp only; omega)).trans d3
      replace d4 := (far_w6 ⟨w.heap.size, 4, none⟩ (by dsimp only; omega)).trans d4
      replace d5 := (far_w6 ⟨w.heap.size, 5, none⟩ (by dsimp only; omega)).trans d5
      replace dF := fun j => (frz_w6 ⟨w.heap.size, j, none⟩).trans (dF j)
      replace zF := fun j => (frz_w6 ⟨w.heap.size + 1, j, none⟩).trans (zF j)
      clear d0 d1 d2 d3 d4 d5
      have hbz := bel_w6 _ _ (by omega) hbw2
      clear far_w6 frz_w6 hsz_w6 bel_w6 own_w6
      refine bodyPost_ret (v := .tuple #[.agg #[.int .i64 g'.s.app, .slice A g'.s.who.length c, .int .i64 g'.s.exp, .int .i64 g'.opened, .slice A' g'.yes.length c', .int .i64 g'.state], .int .i64 (7)]) (by simp only [results, Tryd.results17]; go_simp; try (first | rfl | exact ⟨rfl, rfl, rfl, rfl, rfl, rfl⟩)) rfl ?_
      exact ⟨_, _, _, _, rfl, hbz, (hs.below hbz).more hbz.size, (hs'.below hbz).more hbz.size⟩
    | false =>
      rw [if_neg (by simp [hh])] at hE'
      subst hE'
      have hG' := hG.out
      rw [if_neg (by simp)] at hG'
      subst hG'
      clear hE hG
      have da4 : ∀ ob, (w5.alloc ob).cell? ⟨w.heap.size, 4, none⟩ = some (.slice A' g.yes.length c') := fun ob => (((Below.refl w5.heap.size w5).alloc (Nat.le_refl _) ob).cell (p := ⟨w.heap.size, 4, none⟩) (by dsimp only; omega)).trans d4
      repeat' ((fail_if_success at_builtin); (first | go_skip | go_guarded | go_step))
      clear da4
      have hal := (Below.refl w5.heap.size w5).alloc (Nat.le_refl _) (.cells #[.int .i64 g.s.app, .slice A g.s.who.length c, .int .i64 g.s.exp, .int .i64 g.opened, .slice A' g.yes.length c', .int .i64 g.state] 28)
      replace d0 := (hal.cell (p := ⟨w.heap.size, 0, none⟩) (by dsimp only; omega)).trans d0
      replace d1 := (hal.cell (p := ⟨w.heap.size, 1, none⟩) (by dsimp only; omega)).trans d1
      replace d2 := (hal.cell (p := ⟨w.heap.size, 2, none⟩) (by dsimp only; omega)).trans d2
      replace d3 := (hal.cell (p := ⟨w.heap.size, 3, none⟩) (by dsimp only; omega)).trans d3
      replace d4 := (hal.cell (p := ⟨w.heap.size, 4, none⟩) (by dsimp only; omega)).trans d4
      replace d5 := (hal.cell (p := ⟨w.heap.size, 5, none⟩) (by dsimp only; omega)).trans d5
      replace dF := frz_below hal (by omega) dF
      replace z0 := (hal.cell (p := ⟨w.heap.size + 1, 0, none⟩) (by dsimp only; omega)).trans z0
      replace z1 := (hal.cell (p := ⟨w.heap.size + 1, 1, none⟩) (by dsimp only; omega)).trans z1
      replace z2 := (hal.cell (p := ⟨w.heap.size + 1, 2, none⟩) (by dsimp only; omega)).trans z2
      replace z3 := (hal.cell (p := ⟨w.heap.size + 1, 3, none⟩) (by dsimp only; omega)).trans z3
      replace z4 := (hal.cell (p := ⟨w.heap.size + 1, 4, none⟩) (by dsimp only; omega)).trans z4
      replace z5 := (hal.cell (p := ⟨w.heap.size + 1, 5, none⟩) (by dsimp only; omega)).trans z5
      replace zF := frz_below hal (by omega) zF
      have q0 : (w5.alloc (.cells #[.int .i64 g.s.app, .slice A g.s.who.length c, .int .i64 g.s.exp, .int .i64 g.opened, .slice A' g.yes.length c', .int .i64 g.state] 28)).cell? ⟨w5.heap.size, 0, none⟩ = some (.int .i64 g.s.app) := by simp [go_sem]
      have q1 : (w5.alloc (.cells #[.int .i64 g.s.app, .slice A g.s.who.length c, .int .i64 g.s.exp, .int .i64 g.opened, .slice A' g.yes.length c', .int .i64 g.state] 28)).cell? ⟨w5.heap.size, 1, none⟩ = some (.slice A g.s.who.length c) := by simp [go_sem]
      have q2 : (w5.alloc (.cells #[.int .i64 g.s.app, .slice A g.s.who.length c, .int .i64 g.s.exp, .int .i64 g.opened, .slice A' g.yes.length c', .int .i64 g.state] 28)).cell? ⟨w5.heap.size, 2, none⟩ = some (.int .i64 g.s.exp) := by simp [go_sem]
      have q3 : (w5.alloc (.cells #[.int .i64 g.s.app, .slice A g.s.who.length c, .int .i64 g.s.exp, .int .i64 g.opened, .slice A' g.yes.length c', .int .i64 g.state] 28)).cell? ⟨w5.heap.size, 3, none⟩ = some (.int .i64 g.opened) := by simp [go_sem]
      have q4 : (w5.alloc (.cells #[.int .i64 g.s.app, .slice A g.s.who.length c, .int .i64 g.s.exp, .int .i64 g.opened, .slice A' g.yes.length c', .int .i64 g.state] 28)).cell? ⟨w5.heap.size, 4, none⟩ = some (.slice A' g.yes.length c') := by simp [go_sem]
      have q5 : (w5.alloc (.cells #[.int .i64 g.s.app, .slice A g.s.who.length c, .int .i64 g.s.exp, .int .i64 g.opened, .slice A' g.yes.length c', .int .i64 g.state] 28)).cell? ⟨w5.heap.size, 5, none⟩ = some (.int .i64 g.state) := by simp [go_sem]
      have qF : ∀ j, (w5.alloc (.cells #[.int .i64 g.s.app, .slice A g.s.who.length c, .int .i64 g.s.exp, .int .i64 g.opened, .slice A' g.yes.length c', .int .i64 g.state] 28)).frozen? ⟨w5.heap.size, j, none⟩ = false := fun j => by simp [go_sem]
      have hasz : (w5.alloc (.cells #[.int .i64 g.s.app, .slice A g.s.who.length c, .int .i64 g.s.exp, .int .i64 g.opened, .slice A' g.yes.length c', .int .i64 g.state] 28)).heap.size = w5.heap.size + 1 := by simp
      have hbw3 := hbw2.trans (hal.mono hbw2.size)
      have hs3 := (hs2'.below hal).more hal.size
      generalize w5.alloc (.cells #[.int .i64 g.s.app, .slice A g.s.who.length c, .int .i64 g.s.exp, .int .i64 g.opened, .slice A' g.yes.length c', .int .i64 g.state] 28) = w3 at *
      clear hal
      refine (put_any g.yes who A' c' w3 hs3 hl' hc' hm hwz).mono ?_
      rintro e w4 ⟨A3, c3, rfl, hb4, hqy⟩
      dsimp only
      replace d0 := (hb4.cell (p := ⟨w.heap.size, 0, none⟩) (by dsimp only; omega)).trans d0
      replace d1 := (hb4.cell (p := ⟨w.heap.size, 1, none⟩) (by dsimp only; omega)).trans d1
      replace d2 := (hb4.cell (p := ⟨w.heap.size, 2, none⟩) (by dsimp only; omega)).trans d2
      replace d3 := (hb4.cell (p := ⟨w.heap.size, 3, none⟩) (by dsimp only; omega)).trans d3
      replace d4 := (hb4.cell (p := ⟨w.heap.size, 4, none⟩) (by dsimp only; omega)).trans d4
      replace d5 := (hb4.cell (p := ⟨w.heap.size, 5, none⟩) (by dsimp only; omega)).trans d5
      replace dF := frz_below hb4 (by omega) dF
      replace z0 := (hb4.cell (p := ⟨w.heap.size + 1, 0, none⟩) (by dsimp only; omega)).trans z0
      replace z1 := (hb4.cell (p := ⟨w.heap.size + 1, 1, none⟩) (by dsimp only; omega)).trans z1
      replace z2 := (hb4.cell (p := ⟨w.heap.size + 1, 2, none⟩) (by dsimp only; omega)).trans z2
      replace z3 := (hb4.cell (p := ⟨w.heap.size + 1, 3, none⟩) (by dsimp only; omega)).trans z3
      replace z4 := (hb4.cell (p := ⟨w.heap.size + 1, 4, none⟩) (by dsimp only; omega)).trans z4
      replace z5 := (hb4.cell (p := ⟨w.heap.size + 1, 5, none⟩) (by dsimp only; omega)).trans z5
      replace zF := frz_below hb4 (by omega) zF
      replace q0 := (hb4.cell (p := ⟨w5.heap.size, 0, none⟩) (by dsimp only; omega)).trans q0
      replace q1 := (hb4.cell (p := ⟨w5.heap.size, 1, none⟩) (by dsimp only; omega)).trans q1
      replace q2 := (hb4.cell (p := ⟨w5.heap.size, 2, none⟩) (by dsimp only; omega)).trans q2
      replace q3 := (hb4.cell (p := ⟨w5.heap.size, 3, none⟩) (by dsimp only; omega)).trans q3
      replace q4 := (hb4.cell (p := ⟨w5.heap.size, 4, none⟩) (by dsimp only; omega)).trans q4
      replace q5 := (hb4.cell (p := ⟨w5.heap.size, 5, none⟩) (by dsimp only; omega)).trans q5
      replace qF := frz_below hb4 (by omega) qF
      have hbw4 := hbw3.trans (hb4.mono hbw3.size)
      have hz4 := hb4.size
      by_cases ha : g.s.app ≤ (g.yes.length : Int) + 1
      · repeat' ((fail_if_success at_builtin); (first | go_skip | go_guarded | go_step))
        replace d0 := (World.cell?_setCell_far w4 ⟨w5.heap.size, 4, none⟩ ⟨w.heap.size, 0, none⟩ (.slice A3 (g.yes.length + 1) c3) (by dsimp only; omega)).trans d0
        replace d1 := (World.cell?_setCell_far w4 ⟨w5.heap.size, 4, none⟩ ⟨w.heap.size, 1, none⟩ (.slice A3 (g.yes.length + 1) c3) (by dsimp only; omega)).trans d1
        replace d2 := (World.cell?_setCell_far w4 ⟨w5.heap.size, 4, none⟩ ⟨w.heap.size, 2, none⟩ (.slice A3 (g.yes.length + 1) c3) (by dsimp only; omega)).trans d2
        replace d3 := (World.cell?_setCell_far w4 ⟨w5.heap.size, 4, none⟩ ⟨w.heap.size, 3, none⟩ (.slice A3 (g.yes.length + 1) c3) (by dsimp only; omega)).trans d3
        replace d4 := (World.cell?_setCell_far w4 ⟨w5.heap.size, 4, none⟩ ⟨w.heap.size, 4, none⟩ (.slice A3 (g.yes.length + 1) c3) (by dsimp only; omega)).trans d4
        replace d5 := (World.cell?_setCell_far w4 ⟨w5.heap.size, 4, none⟩ ⟨w.heap.size, 5, none⟩ (.slice A3 (g.yes.length + 1) c3) (by dsimp only; omega)).trans d5
        replace dF := frz_set (p := ⟨w5.heap.size, 4, none⟩) (v := .slice A3 (g.yes.length + 1) c3) dF
        replace z0 := (World.cell?_setCell_far w4 ⟨w5.heap.size, 4, none⟩ ⟨w.heap.size + 1, 0, none⟩ (.slice A3 (g.yes.length + 1) c3) (by dsimp only; omega)).trans z0
        replace z1 := (World.cell?_setCell_far w4 ⟨w5.heap.size, 4, none⟩ ⟨w.heap.size + 1, 1, none⟩ (.slice A3 (g.yes.length + 1) c3) (by dsimp only; omega)).trans z1
        replace z2 := (World.cell?_setCell_far w4 ⟨w5.heap.size, 4, none⟩ ⟨w.heap.size + 1, 2, none⟩ (.slice A3 (g.yes.length + 1) c3) (by dsimp only; omega)).trans z2
        replace z3 := (World.cell?_setCell_far w4 ⟨w5.heap.size, 4, none⟩ ⟨w.heap.size + 1, 3, none⟩ (.slice A3 (g.yes.length + 1) c3) (by dsimp only; omega)).trans z3
        replace z4 := (World.cell?_setCell_far w4 ⟨w5.heap.size, 4, none⟩ ⟨w.heap.size + 1, 4, none⟩ (.slice A3 (g.yes.length + 1) c3) (by dsimp only; omega)).trans z4
        replace z5 := (World.cell?_setCell_far w4 ⟨w5.heap.size, 4, none⟩ ⟨w.heap.size + 1, 5, none⟩ (.slice A3 (g.yes.length + 1) c3) (by dsimp only; omega)).trans z5
        replace zF := frz_set (p := ⟨w5.heap.size, 4, none⟩) (v := .slice A3 (g.yes.length + 1) c3) zF
        replace q0 := (World.cell?_setCell_other w4 ⟨w5.heap.size, 4, none⟩ ⟨w5.heap.size, 0, none⟩ (.slice A3 (g.yes.length + 1) c3) (by simp)).trans q0
        replace q1 := (World.cell?_setCell_other w4 ⟨w5.heap.size, 4, none⟩ ⟨w5.heap.size, 1, none⟩ (.slice A3 (g.yes.length + 1) c3) (by simp)).trans q1
        replace q2 := (World.cell?_setCell_other w4 ⟨w5.heap.size, 4, none⟩ ⟨w5.heap.size, 2, none⟩ (.slice A3 (g.yes.length + 1) c3) (by simp)).trans q2
        replace q3 := (World.cell?_setCell_other w4 ⟨w5.heap.size, 4, none⟩ ⟨w5.heap.size, 3, none⟩ (.slice A3 (g.yes.length + 1) c3) (by simp)).trans q3
        replace q4 := World.cell?_setCell_same w4 _ (.slice A3 (g.yes.length + 1) c3) q4
        replace q5 := (World.cell?_setCell_other w4 ⟨w5.heap.size, 4, none⟩ ⟨w5.heap.size, 5, none⟩ (.slice A3 (g.yes.length + 1) c3) (by simp)).trans q5
        replace qF := frz_set (p := ⟨w5.heap.size, 4, none⟩) (v := .slice A3 (g.yes.length + 1) c3) qF
        generalize hw_w7 : w4.setCell ⟨w5.heap.size, 4, none⟩ (.slice A3 (g.yes.length + 1) c3) = w7 at *
        have hbw7 : Below w.heap.size w w7 := hw_w7 ▸ Below.setCell (p := ⟨w5.heap.size, 4, none⟩) hbw4 (by dsimp only; omega) _
        have hy7 := SeqP.set (p := ⟨w5.heap.size, 4, none⟩) hqy (by dsimp only; omega) (.slice A3 (g.yes.length + 1) c3)
        rw [hw_w7] at hy7
        clear hw_w7
        replace d0 := (World.cell?_setCell_far w7 ⟨w5.heap.size, 5, none⟩ ⟨w.heap.size, 0, none⟩ (.int .i64 1) (by dsimp only; omega)).trans d0
        replace d1 := (World.cell?_setCell_far w7 ⟨w5.heap.size, 5, none⟩ ⟨w.heap.size, 1, none⟩ (.int .i64 1) (by dsimp only; omega)).trans d1
        replace d2 := (World.cell?_setCell_far w7 ⟨w5.heap.size, 5, none⟩ ⟨w.heap.size, 2, none⟩ (.int .i64 1) (by dsimp only; omega)).trans d2
        replace d3 := (World.cell?_setCell_far w7 ⟨w5.heap.size, 5, none⟩ ⟨w.heap.size, 3, none⟩ (.int .i64 1) (by dsimp only; omega)).trans d3
        replace d4 := (World.cell?_setCell_far w7 ⟨w5.heap.size, 5, none⟩ ⟨w.heap.size, 4, none⟩ (.int .i64 1) (by dsimp only; omega)).trans d4
        replace d5 := (World.cell?_setCell_far w7 ⟨w5.heap.size, 5, none⟩ ⟨w.heap.size, 5, none⟩ (.int .i64 1) (by dsimp only; omega)).trans d5
        replace dF := frz_set (p := ⟨w5.heap.size, 5, none⟩) (v := .int .i64 1) dF
        replace z0 := (World.cell?_setCell_far w7 ⟨w5.heap.size, 5, none⟩ ⟨w.heap.size + 1, 0, none⟩ (.int .i64 1) (by dsimp only; omega)).trans z0
        replace z1 := (World.cell?_setCell_far w7 ⟨w5.heap.size, 5, none⟩ ⟨w.heap.size + 1, 1, none⟩ (.int .i64 1) (by dsimp only; omega)).trans z1
        replace z2 := (World.cell?_setCell_far w7 ⟨w5.heap.size, 5, none⟩ ⟨w.heap.size + 1, 2, none⟩ (.int .i64 1) (by dsimp only; omega)).trans z2
        replace z3 := (World.cell?_setCell_far w7 ⟨w5.heap.size, 5, none⟩ ⟨w.heap.size + 1, 3, none⟩ (.int .i64 1) (by dsimp only; omega)).trans z3
        replace z4 := (World.cell?_setCell_far w7 ⟨w5.heap.size, 5, none⟩ ⟨w.heap.size + 1, 4, none⟩ (.int .i64 1) (by dsimp only; omega)).trans z4
        replace z5 := (World.cell?_setCell_far w7 ⟨w5.heap.size, 5, none⟩ ⟨w.heap.size + 1, 5, none⟩ (.int .i64 1) (by dsimp only; omega)).trans z5
        replace zF := frz_set (p := ⟨w5.heap.size, 5, none⟩) (v := .int .i64 1) zF
        replace q0 := (World.cell?_setCell_other w7 ⟨w5.heap.size, 5, none⟩ ⟨w5.heap.size, 0, none⟩ (.int .i64 1) (by simp)).trans q0
        replace q1 := (World.cell?_setCell_other w7 ⟨w5.heap.size, 5, none⟩ ⟨w5.heap.size, 1, none⟩ (.int .i64 1) (by simp)).trans q1
        replace q2 := (World.cell?_setCell_other w7 ⟨w5.heap.size, 5, none⟩ ⟨w5.heap.size, 2, none⟩ (.int .i64 1) (by simp)).trans q2
        replace q3 := (World.cell?_setCell_other w7 ⟨w5.heap.size, 5, none⟩ ⟨w5.heap.size, 3, none⟩ (.int .i64 1) (by simp)).trans q3
        replace q4 := (World.cell?_setCell_other w7 ⟨w5.heap.size, 5, none⟩ ⟨w5.heap.size, 4, none⟩ (.int .i64 1) (by simp)).trans q4
        replace q5 := World.cell?_setCell_same w7 _ (.int .i64 1) q5
        replace qF := frz_set (p := ⟨w5.heap.size, 5, none⟩) (v := .int .i64 1) qF
        generalize hw_w8 : w7.setCell ⟨w5.heap.size, 5, none⟩ (.int .i64 1) = w8 at *
        have hbw8 : Below w.heap.size w w8 := hw_w8 ▸ Below.setCell (p := ⟨w5.heap.size, 5, none⟩) hbw7 (by dsimp only; omega) _
        have hy8 := SeqP.set (p := ⟨w5.heap.size, 5, none⟩) hy7 (by dsimp only; omega) (.int .i64 1)
        rw [hw_w8] at hy8
        clear hw_w8
        generalize hw_w10 : ((((((w8.setCell ⟨w.heap.size + 1, 0, none⟩ (.int .i64 g.s.app)).setCell ⟨w.heap.size + 1, 1, none⟩ (.slice A g.s.who.length c)).setCell ⟨w.heap.size + 1, 2, none⟩ (.int .i64 g.s.exp)).setCell ⟨w.heap.size + 1, 3, none⟩ (.int .i64 g.opened)).setCell ⟨w.heap.size + 1, 4, none⟩ (.slice A3 (g.yes.length + 1) c3)).setCell ⟨w.heap.size + 1, 5, none⟩ (.int .i64 1)) = w10 at *
        obtain ⟨⟨nz0, nz1, nz2, nz3, nz4, nz5⟩, far_w10, frz_w10, hsz_w10, bel_w10, own_w10⟩ := six_ok (.int .i64 g.s.app) (.slice A g.s.who.length c) (.int .i64 g.s.exp) (.int .i64 g.opened) (.slice A3 (g.yes.length + 1) c3) (.int .i64 1) z0 z1 z2 z3 z4 z5 w10 hw_w10
        clear z0 z1 z2 z3 z4 z5 hw_w10
        have z0 := nz0
        have z1 := nz1
        have z2 := nz2
        have z3 := nz3
        have z4 := nz4
        have z5 := nz5
        clear nz0 nz1 nz2 nz3 nz4 nz5
        replace d0 := (far_w10 ⟨w.heap.size, 0, none⟩ (by dsimp only; omega)).trans d0
        replace d1 := (far_w10 ⟨w.heap.size, 1, none⟩ (by dsimp only; omega)).trans d1
        replace d2 := (far_w10 ⟨w.heap.size, 2, none⟩ (by dsimp only; omega)).trans d2
        replace d3 := (far_w10 ⟨w.heap.size, 3, none⟩ (by dsimp only; omega)).trans d3
        replace d4 := (far_w10 ⟨w.heap.size, 4, none⟩ (by dsimp only; omega)).trans d4
        replace d5 := (far_w10 ⟨w.heap.size, 5, none⟩ (by dsimp only; omega)).trans d5
        replace dF := fun j => (frz_w10 ⟨w.heap.size, j, none⟩).trans (dF j)
        replace zF := fun j => (frz_w10 ⟨w.heap.size + 1, j, none⟩).trans (zF j)
        replace q0 := (far_w10 ⟨w5.heap.size, 0, none⟩ (by dsimp only; omega)).trans q0
        replace q1 := (far_w10 ⟨w5.heap.size, 1, none⟩ (by dsimp only; omega)).trans q1
        replace q2 := (far_w10 ⟨w5.heap.size, 2, none⟩ (by dsimp only; omega)).trans q2
        replace q3 := (far_w10 ⟨w5.heap.size, 3, none⟩ (by dsimp only; omega)).trans q3
        replace q4 := (far_w10 ⟨w5.heap.size, 4, none⟩ (by dsimp only; omega)).trans q4
        replace q5 := (far_w10 ⟨w5.heap.size, 5, none⟩ (by dsimp only; omega)).trans q5
        replace qF := fun j => (frz_w10 ⟨w5.heap.size, j, none⟩).trans (qF j)
        have hbz := bel_w10 _ _ (by omega) hbw8
        have r1 := (hs.below hbz).more hbz.size
        have r2 := (SeqP.map hy8 (fun p hp => far_w10 p (by have := hp.1; omega)) fun _ h => h).lower
        clear far_w10 frz_w10 hsz_w10 bel_w10 own_w10 d0 d1 d2 d3 d4 d5 q0 q1 q2 q3 q4 q5
        refine bodyPost_ret (v := .tuple #[.agg #[.int .i64 g.s.app, .slice A g.s.who.length c, .int .i64 g.s.exp, .int .i64 g.opened, .slice A3 (g.yes.length + 1) c3, .int .i64 1], .int .i64 0]) (by simp only [results, Tryd.results17]; go_simp; try (first | rfl | exact ⟨rfl, rfl, rfl, rfl, rfl, rfl⟩)) rfl ?_
        refine ⟨A, c, A3, c3, ?_, hbz, r1, by show Seq _ _ 1 A3 (putL g.yes who).length _; rw [putL_len]; exact r2⟩
        show _ = Ending.returned (.tuple #[.agg #[.int .i64 g.s.app, .slice A g.s.who.length c, .int .i64 g.s.exp, .int .i64 g.opened, .slice A3 (putL g.yes who).length c3, .int .i64 (if g.s.app ≤ (g.yes.length : Int) + 1 then 1 else g.state)], .int .i64 0])
        rw [putL_len, if_pos ha]
      · repeat' ((fail_if_success at_builtin); (first | go_skip | go_guarded | go_step))
        replace d0 := (World.cell?_setCell_far w4 ⟨w5.heap.size, 4, none⟩ ⟨w.heap.size, 0, none⟩ (.slice A3 (g.yes.length + 1) c3) (by dsimp only; omega)).trans d0
        replace d1 := (World.cell?_setCell_far w4 ⟨w5.heap.size, 4, none⟩ ⟨w.heap.size, 1, none⟩ (.slice A3 (g.yes.length + 1) c3) (by dsimp only; omega)).trans d1
        replace d2 := (World.cell?_setCell_far w4 ⟨w5.heap.size, 4, none⟩ ⟨w.heap.size, 2, none⟩ (.slice A3 (g.yes.length + 1) c3) (by dsimp only; omega)).trans d2
        replace d3 := (World.cell?_setCell_far w4 ⟨w5.heap.size, 4, none⟩ ⟨w.heap.size, 3, none⟩ (.slice A3 (g.yes.length + 1) c3) (by dsimp only; omega)).trans d3
        replace d4 := (World.cell?_setCell_far w4 ⟨w5.heap.size, 4, none⟩ ⟨w.heap.size, 4, none⟩ (.slice A3 (g.yes.length + 1) c3) (by dsimp only; omega)).trans d4
        replace d5 := (World.cell?_setCell_far w4 ⟨w5.heap.size, 4, none⟩ ⟨w.heap.size, 5, none⟩ (.slice A3 (g.yes.length + 1) c3) (by dsimp only; omega)).trans d5
        replace dF := frz_set (p := ⟨w5.heap.size, 4, none⟩) (v := .slice A3 (g.yes.length + 1) c3) dF
        replace z0 := (World.cell?_setCell_far w4 ⟨w5.heap.size, 4, none⟩ ⟨w.heap.size + 1, 0, none⟩ (.slice A3 (g.yes.length + 1) c3) (by dsimp only; omega)).trans z0
        replace z1 := (World.cell?_setCell_far w4 ⟨w5.heap.size, 4, none⟩ ⟨w.heap.size + 1, 1, none⟩ (.slice A3 (g.yes.length + 1) c3) (by dsimp only; omega)).trans z1
        replace z2 := (World.cell?_setCell_far w4 ⟨w5.heap.size, 4, none⟩ ⟨w.heap.size + 1, 2, none⟩ (.slice A3 (g.yes.length + 1) c3) (by dsimp only; omega)).trans z2
        replace z3 := (World.cell?_setCell_far w4 ⟨w5.heap.size, 4, none⟩ ⟨w.heap.size + 1, 3, none⟩ (.slice A3 (g.yes.length + 1) c3) (by dsimp only; omega)).trans z3
        replace z4 := (World.cell?_setCell_far w4 ⟨w5.heap.size, 4, none⟩ ⟨w.heap.size + 1, 4, none⟩ (.slice A3 (g.yes.length + 1) c3) (by dsimp only; omega)).trans z4
        replace z5 := (World.cell?_setCell_far w4 ⟨w5.heap.size, 4, none⟩ ⟨w.heap.size + 1, 5, none⟩ (.slice A3 (g.yes.length + 1) c3) (by dsimp only; omega)).trans z5
        replace zF := frz_set (p := ⟨w5.heap.size, 4, none⟩) (v := .slice A3 (g.yes.length + 1) c3) zF
        replace q0 := (World.cell?_setCell_other w4 ⟨w5.heap.size, 4, none⟩ ⟨w5.heap.size, 0, none⟩ (.slice A3 (g.yes.length + 1) c3) (by simp)).trans q0
        replace q1 := (World.cell?_setCell_other w4 ⟨w5.heap.size, 4, none⟩ ⟨w5.heap.size, 1, none⟩ (.slice A3 (g.yes.length + 1) c3) (by simp)).trans q1
        replace q2 := (World.cell?_setCell_other w4 ⟨w5.heap.size, 4, none⟩ ⟨w5.heap.size, 2, none⟩ (.slice A3 (g.yes.length + 1) c3) (by simp)).trans q2
        replace q3 := (World.cell?_setCell_other w4 ⟨w5.heap.size, 4, none⟩ ⟨w5.heap.size, 3, none⟩ (.slice A3 (g.yes.length + 1) c3) (by simp)).trans q3
        replace q4 := World.cell?_setCell_same w4 _ (.slice A3 (g.yes.length + 1) c3) q4
        replace q5 := (World.cell?_setCell_other w4 ⟨w5.heap.size, 4, none⟩ ⟨w5.heap.size, 5, none⟩ (.slice A3 (g.yes.length + 1) c3) (by simp)).trans q5
        replace qF := frz_set (p := ⟨w5.heap.size, 4, none⟩) (v := .slice A3 (g.yes.length + 1) c3) qF
        generalize hw_w7 : w4.setCell ⟨w5.heap.size, 4, none⟩ (.slice A3 (g.yes.length + 1) c3) = w7 at *
        have hbw7 : Below w.heap.size w w7 := hw_w7 ▸ Below.setCell (p := ⟨w5.heap.size, 4, none⟩) hbw4 (by dsimp only; omega) _
        have hy7 := SeqP.set (p := ⟨w5.heap.size, 4, none⟩) hqy (by dsimp only; omega) (.slice A3 (g.yes.length + 1) c3)
        rw [hw_w7] at hy7
        clear hw_w7
        generalize hw_w10 : ((((((w7.setCell ⟨w.heap.size + 1, 0, none⟩ (.int .i64 g.s.app)).setCell ⟨w.heap.size + 1, 1, none⟩ (.slice A g.s.who.length c)).setCell ⟨w.heap.size + 1, 2, none⟩ (.int .i64 g.s.exp)).setCell ⟨w.heap.size + 1, 3, none⟩ (.int .i64 g.opened)).setCell ⟨w.heap.size + 1, 4, none⟩ (.slice A3 (g.yes.length + 1) c3)).setCell ⟨w.heap.size + 1, 5, none⟩ (.int .i64 g.state)) = w10 at *
        obtain ⟨⟨nz0, nz1, nz2, nz3, nz4, nz5⟩, far_w10, frz_w10, hsz_w10, bel_w10, own_w10⟩ := six_ok (.int .i64 g.s.app) (.slice A g.s.who.length c) (.int .i64 g.s.exp) (.int .i64 g.opened) (.slice A3 (g.yes.length + 1) c3) (.int .i64 g.state) z0 z1 z2 z3 z4 z5 w10 hw_w10
        clear z0 z1 z2 z3 z4 z5 hw_w10
        have z0 := nz0
        have z1 := nz1
        have z2 := nz2
        have z3 := nz3
        have z4 := nz4
        have z5 := nz5
        clear nz0 nz1 nz2 nz3 nz4 nz5
        replace d0 := (far_w10 ⟨w.heap.size, 0, none⟩ (by dsimp only; omega)).trans d0
        replace d1 := (far_w10 ⟨w.heap.size, 1, none⟩ (by dsimp only; omega)).trans d1
        replace d2 := (far_w10 ⟨w.heap.size, 2, none⟩ (by dsimp only; omega)).trans d2
        replace d3 := (far_w10 ⟨w.heap.size, 3, none⟩ (by dsimp only; omega)).trans d3
        replace d4 := (far_w10 ⟨w.heap.size, 4, none⟩ (by dsimp only; omega)).trans d4
        replace d5 := (far_w10 ⟨w.heap.size, 5, none⟩ (by dsimp only; omega)).trans d5
        replace dF := fun j => (frz_w10 ⟨w.heap.size, j, none⟩).trans (dF j)
        replace zF := fun j => (frz_w10 ⟨w.heap.size + 1, j, none⟩).trans (zF j)
        replace q0 := (far_w10 ⟨w5.heap.size, 0, none⟩ (by dsimp only; omega)).trans q0
        replace q1 := (far_w10 ⟨w5.heap.size, 1, none⟩ (by dsimp only; omega)).trans q1
        replace q2 := (far_w10 ⟨w5.heap.size, 2, none⟩ (by dsimp only; omega)).trans q2
        replace q3 := (far_w10 ⟨w5.heap.size, 3, none⟩ (by dsimp only; omega)).trans q3
        replace q4 := (far_w10 ⟨w5.heap.size, 4, none⟩ (by dsimp only; omega)).trans q4
        replace q5 := (far_w10 ⟨w5.heap.size, 5, none⟩ (by dsimp only; omega)).trans q5
        replace qF := fun j => (frz_w10 ⟨w5.heap.size, j, none⟩).trans (qF j)
        have hbz := bel_w10 _ _ (by omega) hbw7
        have r1 := (hs.below hbz).more hbz.size
        have r2 := (SeqP.map hy7 (fun p hp => far_w10 p (by have := hp.1; omega)) fun _ h => h).lower
        clear far_w10 frz_w10 hsz_w10 bel_w10 own_w10 d0 d1 d2 d3 d4 d5 q0 q1 q2 q3 q4 q5
        refine bodyPost_ret (v := .tuple #[.agg #[.int .i64 g.s.app, .slice A g.s.who.length c, .int .i64 g.s.exp, .int .i64 g.opened, .slice A3 (g.yes.length + 1) c3, .int .i64 g.state], .int .i64 0]) (by simp only [results, Tryd.results17]; go_simp; try (first | rfl | exact ⟨rfl, rfl, rfl, rfl, rfl, rfl⟩)) rfl ?_
        refine ⟨A, c, A3, c3, ?_, hbz, r1, by show Seq _ _ 1 A3 (putL g.yes who).length _; rw [putL_len]; exact r2⟩
        show _ = Ending.returned (.tuple #[.agg #[.int .i64 g.s.app, .slice A g.s.who.length c, .int .i64 g.s.exp, .int .i64 g.opened, .slice A3 (putL g.yes who).length c3, .int .i64 (if g.s.app ≤ (g.yes.length : Int) + 1 then 1 else g.state)], .int .i64 0])
        rw [putL_len, if_neg ha]
  · have p0 : (k == 0) = false := by simp [hk]
    have p1 : (k != 0) = true := by simp [hk]
    have hE' := hE.out
    rw [if_pos hk] at hE'
    have hG' := hG.out
    rw [if_pos (by rw [hE']; exact hk)] at hG'
    subst hE' hG'
    clear hE hG hk
    repeat' ((fail_if_success at_builtin); (first | go_skip | go_guarded | go_step))
    generalize hw_w5 : ((((((w2.setCell ⟨w.heap.size + 1, 0, none⟩ (.int .i64 g'.s.app)).setCell ⟨w.heap.size + 1, 1, none⟩ (.slice A g'.s.who.length c)).setCell ⟨w.heap.size + 1, 2, none⟩ (.int .i64 g'.s.exp)).setCell ⟨w.heap.size + 1, 3, none⟩ (.int .i64 g'.opened)).setCell ⟨w.heap.size + 1, 4, none⟩ (.slice A' g'.yes.length c')).setCell ⟨w.heap.size + 1, 5, none⟩ (.int .i64 g'.state)) = w5 at *
    obtain ⟨⟨nz0, nz1, nz2, nz3, nz4, nz5⟩, far_w5, frz_w5, hsz_w5, bel_w5, own_w5⟩ := six_ok (.int .i64 g'.s.app) (.slice A g'.s.who.length c) (.int .i64 g'.s.exp) (.int .i64 g'.opened) (.slice A' g'.yes.length c') (.int .i64 g'.state) z0 z1 z2 z3 z4 z5 w5 hw_w5
    clear z0 z1 z2 z3 z4 z5 hw_w5
    have z0 := nz0
    have z1 := nz1
    have z2 := nz2
    have z3 := nz3
    have z4 := nz4
    have z5 := nz5
    clear nz0 nz1 nz2 nz3 nz4 nz5
    replace d0 := (far_w5 ⟨w.heap.size, 0, none⟩ (by dsimp only; omega)).trans d0
    replace d1 := (far_w5 ⟨w.heap.size, 1, none⟩ (by dsimp only; omega)).trans d1
    replace d2 := (far_w5 ⟨w.heap.size, 2, none⟩ (by dsimp only; omega)).trans d2
    replace d3 := (far_w5 ⟨w.heap.size, 3, none⟩ (by dsimp only; omega)).trans d3
    replace d4 := (far_w5 ⟨w.heap.size, 4, none⟩ (by dsimp only; omega)).trans d4
    replace d5 := (far_w5 ⟨w.heap.size, 5, none⟩ (by dsimp only; omega)).trans d5
    replace dF := fun j => (frz_w5 ⟨w.heap.size, j, none⟩).trans (dF j)
    replace zF := fun j => (frz_w5 ⟨w.heap.size + 1, j, none⟩).trans (zF j)
    clear d0 d1 d2 d3 d4 d5
    have hbz := bel_w5 _ _ (by omega) hbw2
    clear far_w5 frz_w5 hsz_w5 bel_w5 own_w5
    refine bodyPost_ret (v := .tuple #[.agg #[.int .i64 g'.s.app, .slice A g'.s.who.length c, .int .i64 g'.s.exp, .int .i64 g'.opened, .slice A' g'.yes.length c', .int .i64 g'.state], .int .i64 (r)]) (by simp only [results, Tryd.results17]; go_simp; try (first | rfl | exact ⟨rfl, rfl, rfl, rfl, rfl, rfl⟩)) rfl ?_
    exact ⟨_, _, _, _, rfl, hbz, (hs.below hbz).more hbz.size, (hs'.below hbz).more hbz.size⟩
end Go.Proofs.YtionchkblgpklaaDoor
