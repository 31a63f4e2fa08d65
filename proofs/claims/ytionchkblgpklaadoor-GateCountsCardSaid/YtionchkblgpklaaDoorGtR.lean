/- The gate's decisions: rejections, expiry, opening. -/
import Derived.Test.YtionchkblgpklaaDoorGtD
namespace Go.Proofs.YtionchkblgpklaaDoor
open Go.RowKit
theorem six_ok {w : World} {b : Nat} {y0 y1 y2 y3 y4 y5 : Value} (x0 x1 x2 x3 x4 x5 : Value) (d0 : w.cell? ⟨b, 0, none⟩ = some y0) (d1 : w.cell? ⟨b, 1, none⟩ = some y1) (d2 : w.cell? ⟨b, 2, none⟩ = some y2) (d3 : w.cell? ⟨b, 3, none⟩ = some y3) (d4 : w.cell? ⟨b, 4, none⟩ = some y4) (d5 : w.cell? ⟨b, 5, none⟩ = some y5)
    (w' : World) (hw : ((((((w.setCell ⟨b, 0, none⟩ x0).setCell ⟨b, 1, none⟩ x1).setCell ⟨b, 2, none⟩ x2).setCell ⟨b, 3, none⟩ x3).setCell ⟨b, 4, none⟩ x4).setCell ⟨b, 5, none⟩ x5) = w') :
    (w'.cell? ⟨b, 0, none⟩ = some x0 ∧ w'.cell? ⟨b, 1, none⟩ = some x1 ∧ w'.cell? ⟨b, 2, none⟩ = some x2 ∧ w'.cell? ⟨b, 3, none⟩ = some x3 ∧ w'.cell? ⟨b, 4, none⟩ = some x4 ∧ w'.cell? ⟨b, 5, none⟩ = some x5) ∧
    (∀ p : Addr, p.block ≠ b → w'.cell? p = w.cell? p) ∧ (∀ p : Addr, w'.frozen? p = w.frozen? p) ∧ w'.heap.size = w.heap.size ∧ (∀ (B : Nat) (a : World), B ≤ b → Below B a w → Below B a w') ∧
    (∀ (B n sz : Nat) (e : TypeId) (v : Value) (xs : List Value), b < B → w.ownsRow B e sz v n xs → w'.ownsRow B e sz v n xs) := by
  have hw2 : w.setCells b 0 [x0, x1, x2, x3, x4, x5] = w' := hw
  subst hw2
  have hin := World.cell?_setCells_in b [x0, x1, x2, x3, x4, x5] 0 w (fun j hj => by
    match j, hj with
    | 0, _ => rw [d0]; rfl
    | 1, _ => rw [d1]; rfl
    | 2, _ => rw [d2]; rfl
    | 3, _ => rw [d3]; rfl
    | 4, _ => rw [d4]; rfl
    | 5, _ => rw [d5]; rfl)
  refine ⟨⟨hin 0 (by simp), hin 1 (by simp), hin 2 (by simp), hin 3 (by simp), hin 4 (by simp), hin 5 (by simp)⟩, fun p hp => World.cell?_setCells_out b _ 0 w p (fun h => absurd h hp), fun p => by simp [World.setCells, go_sem], setCells_size _ _ _ _, fun B a h hb => below_setCells h _ _ _ hb, fun B n sz e v xs h ho => ?_⟩
  exact owns_far (p := ⟨b, 5, none⟩) (owns_far (p := ⟨b, 4, none⟩) (owns_far (p := ⟨b, 3, none⟩) (owns_far (p := ⟨b, 2, none⟩) (owns_far (p := ⟨b, 1, none⟩) (owns_far (p := ⟨b, 0, none⟩) ho h _) h _) h _) h _) h _) h _
theorem SeqP.lower {w : World} {S : Nat → Prop} {sz n : Nat} {A : Option Addr} {cs : List Value} (h : SeqP w S sz A n cs) (hne : 0 < sz := by decide) : Seq w w.heap.size sz A n cs := by
  refine ⟨h.1, fun hn => ?_⟩
  obtain ⟨b, o, e, hb, hc⟩ := h.2 hn
  refine ⟨b, o, e, ?_, hc⟩
  have hl : 0 < cs.length := by rw [h.1]; exact Nat.mul_pos hn hne
  have := hc 0 cs[0] (List.getElem?_eq_getElem hl)
  exact World.block_lt_of_cell? _ _ this
theorem SeqP.lo {w : World} {S : Nat → Prop} {lo sz n : Nat} {A : Option Addr} {cs : List Value} (h : SeqP w S sz A n cs) (hS : ∀ b, S b → lo ≤ b) (hne : 0 < sz := by decide) : SeqP w (fun b => lo ≤ b ∧ b < w.heap.size) sz A n cs := by
  refine ⟨h.1, fun hn => ?_⟩
  obtain ⟨b, o, e, hb, hc⟩ := h.2 hn
  have hl : 0 < cs.length := by rw [h.1]; exact Nat.mul_pos hn hne
  exact ⟨b, o, e, ⟨hS b hb, World.block_lt_of_cell? _ _ (hc 0 cs[0] (List.getElem?_eq_getElem hl))⟩, hc⟩
/-- a gate and an error are returned -/
def GRet (w0 : World) (g : Gt) (err : Int) (e : Ending) (w' : World) : Prop := ∃ A c A' c', e = .returned (.tuple #[.agg (garr g A c A' c'), .int .i64 err]) ∧ Below w0.heap.size w0 w' ∧ Seq w' w'.heap.size 1 A g.s.who.length (cellsS g.s.who) ∧ Seq w' w'.heap.size 1 A' g.yes.length (cellsS g.yes)
/-- .. whose lists are new -/
def GRetF (w0 : World) (g : Gt) (err : Int) (e : Ending) (w' : World) : Prop := ∃ A c A' c', e = .returned (.tuple #[.agg (garr g A c A' c'), .int .i64 err]) ∧ Below w0.heap.size w0 w' ∧ SeqP w' (fun b => w0.heap.size ≤ b ∧ b < w'.heap.size) 1 A g.s.who.length (cellsS g.s.who) ∧ SeqP w' (fun b => w0.heap.size ≤ b ∧ b < w'.heap.size) 1 A' g.yes.length (cellsS g.yes)
theorem GRetF.ret {w0 w' : World} {g : Gt} {err : Int} {e : Ending} (h : GRetF w0 g err e w') : GRet w0 g err e w' := by
  obtain ⟨A, c, A', c', h1, h2, h3, h4⟩ := h
  exact ⟨A, c, A', c', h1, h2, h3.imp fun _ h => h.2, h4.imp fun _ h => h.2⟩
/-- a gate is returned -/
def GRet1 (w0 : World) (g : Gt) (e : Ending) (w' : World) : Prop := ∃ A c A' c', e = .returned (.agg (garr g A c A' c')) ∧ Below w0.heap.size w0 w' ∧ Seq w' w'.heap.size 1 A g.s.who.length (cellsS g.s.who) ∧ Seq w' w'.heap.size 1 A' g.yes.length (cellsS g.yes)
def rejG (g : Gt) (who : ByteArray) (now : Int) : Gt := if checkG g who now ≠ 0 then g else { g with state := 2 }
def expG (g : Gt) (now : Int) : Gt := if g.state = 0 ∧ passG g now = true then { g with state := 3 } else g
set_option maxRecDepth 100000 in
set_option maxHeartbeats 4000000 in
theorem rejectF_any (g : Gt) (A : Option Addr) (c : Nat) (A' : Option Addr) (c' : Nat) (who : ByteArray) (now : Int) (w : World) (hs : Seq w w.heap.size 1 A g.s.who.length (cellsS g.s.who)) (hs' : Seq w w.heap.size 1 A' g.yes.length (cellsS g.yes)) (hl : g.s.who.length ≤ 1000) (hl' : g.yes.length ≤ 1000) (h1 : I64 g.opened) (h2 : I64 g.s.exp) : Calls Tryd.prog 18 #[.agg (garr g A c A' c'), .string who, .int .i64 now] w (GRetF w (rejG g who now) (checkG g who now)) := by
  have hb1 := ((Below.refl w.heap.size w).alloc (Nat.le_refl _) (.cells (garr g A c A' c') 28)).alloc (by simp) (.cells zarr 28)
  have hz : ((w.alloc (.cells (garr g A c A' c') 28)).alloc (.cells zarr 28)).heap.size = w.heap.size + 1 + 1 := by simp
  have d0 : (((w.alloc (.cells (garr g A c A' c') 28)).alloc (.cells zarr 28))).cell? ⟨w.heap.size, 0, none⟩ = some (.int .i64 g.s.app) := by simp [go_sem]
  have d1 : (((w.alloc (.cells (garr g A c A' c') 28)).alloc (.cells zarr 28))).cell? ⟨w.heap.size, 1, none⟩ = some (.slice A g.s.who.length c) := by simp [go_sem]
  have d2 : (((w.alloc (.cells (garr g A c A' c') 28)).alloc (.cells zarr 28))).cell? ⟨w.heap.size, 2, none⟩ = some (.int .i64 g.s.exp) := by simp [go_sem]
  have d3 : (((w.alloc (.cells (garr g A c A' c') 28)).alloc (.cells zarr 28))).cell? ⟨w.heap.size, 3, none⟩ = some (.int .i64 g.opened) := by simp [go_sem]
  have d4 : (((w.alloc (.cells (garr g A c A' c') 28)).alloc (.cells zarr 28))).cell? ⟨w.heap.size, 4, none⟩ = some (.slice A' g.yes.length c') := by simp [go_sem]
  have d5 : (((w.alloc (.cells (garr g A c A' c') 28)).alloc (.cells zarr 28))).cell? ⟨w.heap.size, 5, none⟩ = some (.int .i64 g.state) := by simp [go_sem]
  have dF : ∀ j, (((w.alloc (.cells (garr g A c A' c') 28)).alloc (.cells zarr 28))).frozen? ⟨w.heap.size, j, none⟩ = false := fun j => by simp [go_sem]
  have z0 : (((w.alloc (.cells (garr g A c A' c') 28)).alloc (.cells zarr 28))).cell? ⟨w.heap.size + 1, 0, none⟩ = some (.int .i64 0) := by simp [go_sem]
  have z1 : (((w.alloc (.cells (garr g A c A' c') 28)).alloc (.cells zarr 28))).cell? ⟨w.heap.size + 1, 1, none⟩ = some (.slice none 0 0) := by simp [go_sem]
  have z2 : (((w.alloc (.cells (garr g A c A' c') 28)).alloc (.cells zarr 28))).cell? ⟨w.heap.size + 1, 2, none⟩ = some (.int .i64 0) := by simp [go_sem]
  have z3 : (((w.alloc (.cells (garr g A c A' c') 28)).alloc (.cells zarr 28))).cell? ⟨w.heap.size + 1, 3, none⟩ = some (.int .i64 0) := by simp [go_sem]
  have z4 : (((w.alloc (.cells (garr g A c A' c') 28)).alloc (.cells zarr 28))).cell? ⟨w.heap.size + 1, 4, none⟩ = some (.slice none 0 0) := by simp [go_sem]
  have z5 : (((w.alloc (.cells (garr g A c A' c') 28)).alloc (.cells zarr 28))).cell? ⟨w.heap.size + 1, 5, none⟩ = some (.int .i64 0) := by simp [go_sem]
  have zF : ∀ j, (((w.alloc (.cells (garr g A c A' c') 28)).alloc (.cells zarr 28))).frozen? ⟨w.heap.size + 1, j, none⟩ = false := fun j => by simp [go_sem]
  go_enter Tryd.func18, Tryd.ntmps18
  repeat' ((fail_if_success at_builtin); (first | go_skip | go_guarded | go_step))
  generalize ((w.alloc (.cells (garr g A c A' c') 28)).alloc (.cells zarr 28)) = w1 at *
  have hs1 := (hs.below hb1).more hb1.size
  have hs1' := (hs'.below hb1).more hb1.size
  refine (copied_any g A c A' c' w1 hs1 hs1' hl hl').mono ?_
  rintro e w2 ⟨A1, c1, A2, c2, B, rfl, hb2, hB, hB2, hq1, hq2⟩
  dsimp only
  replace d0 := (hb2.cell (p := ⟨w.heap.size, 0, none⟩) (by dsimp only; omega)).trans d0
  replace d1 := (hb2.cell (p := ⟨w.heap.size, 1, none⟩) (by dsimp only; omega)).trans d1
  replace d2 := (hb2.cell (p := ⟨w.heap.size, 2, none⟩) (by dsimp only; omega)).trans d2
  replace d3 := (hb2.cell (p := ⟨w.heap.size, 3, none⟩) (by dsimp only; omega)).trans d3
  replace d4 := (hb2.cell (p := ⟨w.heap.size, 4, none⟩) (by dsimp only; omega)).trans d4
  replace d5 := (hb2.cell (p := ⟨w.heap.size, 5, none⟩) (by dsimp only; omega)).trans d5
  replace dF := frz_below hb2 (by omega) dF
  replace z0 := (hb2.cell (p := ⟨w.heap.size + 1, 0, none⟩) (by dsimp only; omega)).trans z0
  replace z1 := (hb2.cell (p := ⟨w.heap.size + 1, 1, none⟩) (by dsimp only; omega)).trans z1
  replace z2 := (hb2.cell (p := ⟨w.heap.size + 1, 2, none⟩) (by dsimp only; omega)).trans z2
  replace z3 := (hb2.cell (p := ⟨w.heap.size + 1, 3, none⟩) (by dsimp only; omega)).trans z3
  replace z4 := (hb2.cell (p := ⟨w.heap.size + 1, 4, none⟩) (by dsimp only; omega)).trans z4
  replace z5 := (hb2.cell (p := ⟨w.heap.size + 1, 5, none⟩) (by dsimp only; omega)).trans z5
  replace zF := frz_below hb2 (by omega) zF
  repeat' ((fail_if_success at_builtin); (first | go_skip | go_guarded | go_step))
  generalize hw_w3 : ((((((w2.setCell ⟨w.heap.size, 0, none⟩ (.int .i64 g.s.app)).setCell ⟨w.heap.size, 1, none⟩ (.slice A1 g.s.who.length c1)).setCell ⟨w.heap.size, 2, none⟩ (.int .i64 g.s.exp)).setCell ⟨w.heap.size, 3, none⟩ (.int .i64 g.opened)).setCell ⟨w.heap.size, 4, none⟩ (.slice A2 g.yes.length c2)).setCell ⟨w.heap.size, 5, none⟩ (.int .i64 g.state)) = w3 at *
  obtain ⟨⟨nd0, nd1, nd2, nd3, nd4, nd5⟩, far_w3, frz_w3, hsz_w3, bel_w3, own_w3⟩ := six_ok (.int .i64 g.s.app) (.slice A1 g.s.who.length c1) (.int .i64 g.s.exp) (.int .i64 g.opened) (.slice A2 g.yes.length c2) (.int .i64 g.state) d0 d1 d2 d3 d4 d5 w3 hw_w3
  clear d0 d1 d2 d3 d4 d5 hw_w3
  have d0 := nd0
  have d1 := nd1
  have d2 := nd2
  have d3 := nd3
  have d4 := nd4
  have d5 := nd5
  clear nd0 nd1 nd2 nd3 nd4 nd5
  replace dF := fun j => (frz_w3 ⟨w.heap.size, j, none⟩).trans (dF j)
  replace z0 := (far_w3 ⟨w.heap.size + 1, 0, none⟩ (by dsimp only; omega)).trans z0
  replace z1 := (far_w3 ⟨w.heap.size + 1, 1, none⟩ (by dsimp only; omega)).trans z1
  replace z2 := (far_w3 ⟨w.heap.size + 1, 2, none⟩ (by dsimp only; omega)).trans z2
  replace z3 := (far_w3 ⟨w.heap.size + 1, 3, none⟩ (by dsimp only; omega)).trans z3
  replace z4 := (far_w3 ⟨w.heap.size + 1, 4, none⟩ (by dsimp only; omega)).trans z4
  replace z5 := (far_w3 ⟨w.heap.size + 1, 5, none⟩ (by dsimp only; omega)).trans z5
  replace zF := fun j => (frz_w3 ⟨w.heap.size + 1, j, none⟩).trans (zF j)
  have hbw3 := bel_w3 _ _ (Nat.le_refl _) (hb1.trans (hb2.mono hb1.size))
  have hz3 : w1.heap.size ≤ w3.heap.size := by rw [hsz_w3]; exact hb2.size
  have hq3 : SeqP w3 (fun b => w1.heap.size ≤ b ∧ b < B) 1 A1 g.s.who.length (cellsS g.s.who) := hq1.map (fun p hp => far_w3 p (by have := hp.1; omega)) fun _ h => h
  have ho3 := own_w3 _ _ _ _ _ _ (by omega) hq2
  have hBw3 : B ≤ w3.heap.size := by rw [hsz_w3]; exact hB2
  clear hq1 hq2 far_w3 frz_w3 bel_w3 own_w3 hb2 hsz_w3
  have hr3 : Seq w3 w3.heap.size 1 A1 g.s.who.length (cellsS g.s.who) := hq3.lower
  have hr3' : Seq w3 w3.heap.size 1 A2 g.yes.length (cellsS g.yes) := Seq.of_own ho3
  have hq3' := seq_lohi ho3
  have hchk := check_any g A1 c1 A2 c2 who now w3 hr3 hl h1 h2
  have hN : rejG g who now = rejG g who now := rfl
  conv at hN => rhs; unfold rejG
  generalize checkG g who now = r at *
  generalize rejG g who now = g' at *
  replace hN := Lib.hid hN
  refine hchk.mono ?_
  rintro e w4 ⟨rfl, hb4⟩
  dsimp only
  replace d0 := (hb4.cell (p := ⟨w.heap.size, 0, none⟩) (by dsimp only; omega)).trans d0
  replace d1 := (hb4.cell (p := ⟨w.heap.size, 1, none⟩) (by dsimp only; omega)).trans d1
  replace d2 := (hb4.cell (p := ⟨w.heap.size, 2, none⟩) (by dsimp only; omega)).trans d2
  replace d3 := (hb4.cell (p := ⟨w.heap.size, 3, none⟩) (by dsimp only; omega)).trans d3
  replace d4 := (hb4.cell (p := ⟨w.heap.size, 4, none⟩) (by dsimp only; omega)).trans d4
  replace d5 := (hb4.cell (p := ⟨w.heap.size, 5, none⟩) (by dsimp only; omega)).trans d5
  replace dF := frz_below hb4 (by omega) dF
  replace z0 := (hb4.cell (p := ⟨w.heap.size + 1, 0, none⟩) (by dsimp only; omega)).trans z0
  replace z1 := (hb4.cell (p := ⟨w.heap.size + 1, 1, none⟩) (by dsimp only; omega)).trans z1
  replace z2 := (hb4.cell (p := ⟨w.heap.size + 1, 2, none⟩) (by dsimp only; omega)).trans z2
  replace z3 := (hb4.cell (p := ⟨w.heap.size + 1, 3, none⟩) (by dsimp only; omega)).trans z3
  replace z4 := (hb4.cell (p := ⟨w.heap.size + 1, 4, none⟩) (by dsimp only; omega)).trans z4
  replace z5 := (hb4.cell (p := ⟨w.heap.size + 1, 5, none⟩) (by dsimp only; omega)).trans z5
  replace zF := frz_below hb4 (by omega) zF
  have hbw4 := hbw3.trans (hb4.mono hbw3.size)
  have hz4 : w1.heap.size ≤ w4.heap.size := by have := hb4.size; omega
  have hq4 := hq3.belowS hb4 (fun b hb => Nat.lt_of_lt_of_le hb.2 hBw3)
  have hq4' := hq3'.belowS hb4 (fun b hb => hb.2)
  by_cases hr : r = 0
  · have p0 : (r != 0) = false := by simp [hr]
    have hN' := hN.out
    rw [if_neg (Decidable.not_not.2 hr)] at hN'
    subst hN'
    subst hr
    clear hN
    repeat' ((fail_if_success at_builtin); (first | go_skip | go_guarded | go_step))
    replace d0 := (World.cell?_setCell_other w4 ⟨w.heap.size, 5, none⟩ ⟨w.heap.size, 0, none⟩ (.int .i64 2) (by simp)).trans d0
    replace d1 := (World.cell?_setCell_other w4 ⟨w.heap.size, 5, none⟩ ⟨w.heap.size, 1, none⟩ (.int .i64 2) (by simp)).trans d1
    replace d2 := (World.cell?_setCell_other w4 ⟨w.heap.size, 5, none⟩ ⟨w.heap.size, 2, none⟩ (.int .i64 2) (by simp)).trans d2
    replace d3 := (World.cell?_setCell_other w4 ⟨w.heap.size, 5, none⟩ ⟨w.heap.size, 3, none⟩ (.int .i64 2) (by simp)).trans d3
    replace d4 := (World.cell?_setCell_other w4 ⟨w.heap.size, 5, none⟩ ⟨w.heap.size, 4, none⟩ (.int .i64 2) (by simp)).trans d4
    replace d5 := World.cell?_setCell_same w4 _ (.int .i64 2) d5
    replace dF := frz_set (p := ⟨w.heap.size, 5, none⟩) (v := .int .i64 2) dF
    replace z0 := (World.cell?_setCell_far w4 ⟨w.heap.size, 5, none⟩ ⟨w.heap.size + 1, 0, none⟩ (.int .i64 2) (by dsimp only; omega)).trans z0
    replace z1 := (World.cell?_setCell_far w4 ⟨w.heap.size, 5, none⟩ ⟨w.heap.size + 1, 1, none⟩ (.int .i64 2) (by dsimp only; omega)).trans z1
    replace z2 := (World.cell?_setCell_far w4 ⟨w.heap.size, 5, none⟩ ⟨w.heap.size + 1, 2, none⟩ (.int .i64 2) (by dsimp only; omega)).trans z2
    replace z3 := (World.cell?_setCell_far w4 ⟨w.heap.size, 5, none⟩ ⟨w.heap.size + 1, 3, none⟩ (.int .i64 2) (by dsimp only; omega)).trans z3
    replace z4 := (World.cell?_setCell_far w4 ⟨w.heap.size, 5, none⟩ ⟨w.heap.size + 1, 4, none⟩ (.int .i64 2) (by dsimp only; omega)).trans z4
    replace z5 := (World.cell?_setCell_far w4 ⟨w.heap.size, 5, none⟩ ⟨w.heap.size + 1, 5, none⟩ (.int .i64 2) (by dsimp only; omega)).trans z5
    replace zF := frz_set (p := ⟨w.heap.size, 5, none⟩) (v := .int .i64 2) zF
    generalize hw_w5 : w4.setCell ⟨w.heap.size, 5, none⟩ (.int .i64 2) = w5 at *
    have hbw5 : Below w.heap.size w w5 := hw_w5 ▸ Below.setCell (p := ⟨w.heap.size, 5, none⟩) hbw4 (Nat.le_refl _) _
    have hq5 := SeqP.set (p := ⟨w.heap.size, 5, none⟩) hq4 (by dsimp only; omega) (.int .i64 2)
    have hq5' := SeqP.set (p := ⟨w.heap.size, 5, none⟩) hq4' (by dsimp only; omega) (.int .i64 2)
    rw [hw_w5] at hq5 hq5'
    generalize hw_w6 : ((((((w5.setCell ⟨w.heap.size + 1, 0, none⟩ (.int .i64 g.s.app)).setCell ⟨w.heap.size + 1, 1, none⟩ (.slice A1 g.s.who.length c1)).setCell ⟨w.heap.size + 1, 2, none⟩ (.int .i64 g.s.exp)).setCell ⟨w.heap.size + 1, 3, none⟩ (.int .i64 g.opened)).setCell ⟨w.heap.size + 1, 4, none⟩ (.slice A2 g.yes.length c2)).setCell ⟨w.heap.size + 1, 5, none⟩ (.int .i64 2)) = w6 at *
    obtain ⟨⟨nz0, nz1, nz2, nz3, nz4, nz5⟩, far_w6, frz_w6, hsz_w6, bel_w6, own_w6⟩ := six_ok (.int .i64 g.s.app) (.slice A1 g.s.who.length c1) (.int .i64 g.s.exp) (.int .i64 g.opened) (.slice A2 g.yes.length c2) (.int .i64 2) z0 z1 z2 z3 z4 z5 w6 hw_w6
    clear z0 z1 z2 z3 z4 z5 hw_w6
    have z0 := nz0
    have z1 := nz1
    have z2 := nz2
    have z3 := nz3
    have z4 := nz4
    have z5 := nz5
    clear nz0 nz1 nz2 nz3 nz4 nz5
    replace d0 := (far_w6 ⟨w.heap.size, 0, none⟩ (by dsimp only; omega)).trans d0
    replace d1 := (far_w6 ⟨w.heap.size, 1, none⟩ (by dsimp only; omega)).trans d1
    replace d2 := (far_w6 ⟨w.heap.size, 2, none⟩ (by dsimp only; omega)).trans d2
    replace d3 := (far_w6 ⟨w.heap.size, 3, none⟩ (by dsimp only; omega)).trans d3
    replace d4 := (far_w6 ⟨w.heap.size, 4, none⟩ (by dsimp only; omega)).trans d4
    replace d5 := (far_w6 ⟨w.heap.size, 5, none⟩ (by dsimp only; omega)).trans d5
    replace dF := fun j => (frz_w6 ⟨w.heap.size, j, none⟩).trans (dF j)
    replace zF := fun j => (frz_w6 ⟨w.heap.size + 1, j, none⟩).trans (zF j)
    clear d0 d1 d2 d3 d4 d5
    refine bodyPost_ret (v := .tuple #[.agg #[.int .i64 g.s.app, .slice A1 g.s.who.length c1, .int .i64 g.s.exp, .int .i64 g.opened, .slice A2 g.yes.length c2, .int .i64 2], .int .i64 (0)]) (by simp only [results, Tryd.results18]; go_simp; try (first | rfl | exact ⟨rfl, rfl, rfl, rfl, rfl, rfl⟩)) rfl ?_
    exact ⟨_, _, _, _, rfl, bel_w6 _ _ (by omega) hbw5, (SeqP.map hq5 (fun p hp => far_w6 p (by have := hp.1; omega)) fun _ h => h).lo (fun b hb => by have := hb.1; omega), (SeqP.map hq5' (fun p hp => far_w6 p (by have := hp.1; omega)) fun _ h => h).lo (fun b hb => by have := hb.1; omega)⟩
  · have p0 : (r != 0) = true := by simp [hr]
    have hN' := hN.out
    rw [if_pos hr] at hN'
    subst hN'
    clear hN hr
    repeat' ((fail_if_success at_builtin); (first | go_skip | go_guarded | go_step))
    generalize hw_w5 : ((((((w4.setCell ⟨w.heap.size + 1, 0, none⟩ (.int .i64 g'.s.app)).setCell ⟨w.heap.size + 1, 1, none⟩ (.slice A1 g'.s.who.length c1)).setCell ⟨w.heap.size + 1, 2, none⟩ (.int .i64 g'.s.exp)).setCell ⟨w.heap.size + 1, 3, none⟩ (.int .i64 g'.opened)).setCell ⟨w.heap.size + 1, 4, none⟩ (.slice A2 g'.yes.length c2)).setCell ⟨w.heap.size + 1, 5, none⟩ (.int .i64 g'.state)) = w5 at *
    obtain ⟨⟨nz0, nz1, nz2, nz3, nz4, nz5⟩, far_w5, frz_w5, hsz_w5, bel_w5, own_w5⟩ := six_ok (.int .i64 g'.s.app) (.slice A1 g'.s.who.length c1) (.int .i64 g'.s.exp) (.int .i64 g'.opened) (.slice A2 g'.yes.length c2) (.int .i64 g'.state) z0 z1 z2 z3 z4 z5 w5 hw_w5
    clear z0 z1 z2 z3 z4 z5 hw_w5
    have z0 := nz0
    have z1 := nz1
    have z2 := nz2
    have z3 := nz3
    have z4 := nz4
    have z5 := nz5
    clear nz0 nz1 nz2 nz3 nz4 nz5
    replace d0 := (far_w5 ⟨w.heap.size, 0, none⟩ (by dsimp only; omega)).trans d0
    replace d1 := (far_w5 ⟨w.heap.size, 1, none⟩ (by dsimp only; omega)).trans d1
    replace d2 := (far_w5 ⟨w.heap.size, 2, none⟩ (by dsimp only; omega)).trans d2
    replace d3 := (far_w5 ⟨w.heap.size, 3, none⟩ (by dsimp only; omega)).trans d3
    replace d4 := (far_w5 ⟨w.heap.size, 4, none⟩ (by dsimp only; omega)).trans d4
    replace d5 := (far_w5 ⟨w.heap.size, 5, none⟩ (by dsimp only; omega)).trans d5
    replace dF := fun j => (frz_w5 ⟨w.heap.size, j, none⟩).trans (dF j)
    replace zF := fun j => (frz_w5 ⟨w.heap.size + 1, j, none⟩).trans (zF j)
    clear d0 d1 d2 d3 d4 d5
    refine bodyPost_ret (v := .tuple #[.agg #[.int .i64 g'.s.app, .slice A1 g'.s.who.length c1, .int .i64 g'.s.exp, .int .i64 g'.opened, .slice A2 g'.yes.length c2, .int .i64 g'.state], .int .i64 (r)]) (by simp only [results, Tryd.results18]; go_simp; try (first | rfl | exact ⟨rfl, rfl, rfl, rfl, rfl, rfl⟩)) rfl ?_
    exact ⟨_, _, _, _, rfl, bel_w5 _ _ (by omega) hbw4, (SeqP.map hq4 (fun p hp => far_w5 p (by have := hp.1; omega)) fun _ h => h).lo (fun b hb => by have := hb.1; omega), (SeqP.map hq4' (fun p hp => far_w5 p (by have := hp.1; omega)) fun _ h => h).lo (fun b hb => by have := hb.1; omega)⟩
theorem reject_any (g : Gt) (A : Option Addr) (c : Nat) (A' : Option Addr) (c' : Nat) (who : ByteArray) (now : Int) (w : World) (hs : Seq w w.heap.size 1 A g.s.who.length (cellsS g.s.who)) (hs' : Seq w w.heap.size 1 A' g.yes.length (cellsS g.yes)) (hl : g.s.who.length ≤ 1000) (hl' : g.yes.length ≤ 1000) (h1 : I64 g.opened) (h2 : I64 g.s.exp) : Calls Tryd.prog 18 #[.agg (garr g A c A' c'), .string who, .int .i64 now] w (GRet w (rejG g who now) (checkG g who now)) := (rejectF_any g A c A' c' who now w hs hs' hl hl' h1 h2).mono fun _ _ h => h.ret
set_option maxRecDepth 100000 in
set_option maxHeartbeats 4000000 in
theorem refReject_any (g : Gt) (A : Option Addr) (c : Nat) (A' : Option Addr) (c' : Nat) (who : ByteArray) (now : Int) (w : World) (hs : Seq w w.heap.size 1 A g.s.who.length (cellsS g.s.who)) (hs' : Seq w w.heap.size 1 A' g.yes.length (cellsS g.yes)) (hl : g.s.who.length ≤ 1000) (h1 : I64 g.opened) (h2 : I64 g.s.exp) : Calls Tryd.prog 19 #[.agg (garr g A c A' c'), .string who, .int .i64 now] w (GRet w (rejG g who now) (checkG g who now)) := by
  have hb1 := ((Below.refl w.heap.size w).alloc (Nat.le_refl _) (.cells (garr g A c A' c') 28)).alloc (by simp) (.cells zarr 28)
  have hz : ((w.alloc (.cells (garr g A c A' c') 28)).alloc (.cells zarr 28)).heap.size = w.heap.size + 1 + 1 := by simp
  have d0 : (((w.alloc (.cells (garr g A c A' c') 28)).alloc (.cells zarr 28))).cell? ⟨w.heap.size, 0, none⟩ = some (.int .i64 g.s.app) := by simp [go_sem]
  have d1 : (((w.alloc (.cells (garr g A c A' c') 28)).alloc (.cells zarr 28))).cell? ⟨w.heap.size, 1, none⟩ = some (.slice A g.s.who.length c) := by simp [go_sem]
  have d2 : (((w.alloc (.cells (garr g A c A' c') 28)).alloc (.cells zarr 28))).cell? ⟨w.heap.size, 2, none⟩ = some (.int .i64 g.s.exp) := by simp [go_sem]
  have d3 : (((w.alloc (.cells (garr g A c A' c') 28)).alloc (.cells zarr 28))).cell? ⟨w.heap.size, 3, none⟩ = some (.int .i64 g.opened) := by simp [go_sem]
  have d4 : (((w.alloc (.cells (garr g A c A' c') 28)).alloc (.cells zarr 28))).cell? ⟨w.heap.size, 4, none⟩ = some (.slice A' g.yes.length c') := by simp [go_sem]
  have d5 : (((w.alloc (.cells (garr g A c A' c') 28)).alloc (.cells zarr 28))).cell? ⟨w.heap.size, 5, none⟩ = some (.int .i64 g.state) := by simp [go_sem]
  have dF : ∀ j, (((w.alloc (.cells (garr g A c A' c') 28)).alloc (.cells zarr 28))).frozen? ⟨w.heap.size, j, none⟩ = false := fun j => by simp [go_sem]
  have z0 : (((w.alloc (.cells (garr g A c A' c') 28)).alloc (.cells zarr 28))).cell? ⟨w.heap.size + 1, 0, none⟩ = some (.int .i64 0) := by simp [go_sem]
  have z1 : (((w.alloc (.cells (garr g A c A' c') 28)).alloc (.cells zarr 28))).cell? ⟨w.heap.size + 1, 1, none⟩ = some (.slice none 0 0) := by simp [go_sem]
  have z2 : (((w.alloc (.cells (garr g A c A' c') 28)).alloc (.cells zarr 28))).cell? ⟨w.heap.size + 1, 2, none⟩ = some (.int .i64 0) := by simp [go_sem]
  have z3 : (((w.alloc (.cells (garr g A c A' c') 28)).alloc (.cells zarr 28))).cell? ⟨w.heap.size + 1, 3, none⟩ = some (.int .i64 0) := by simp [go_sem]
  have z4 : (((w.alloc (.cells (garr g A c A' c') 28)).alloc (.cells zarr 28))).cell? ⟨w.heap.size + 1, 4, none⟩ = some (.slice none 0 0) := by simp [go_sem]
  have z5 : (((w.alloc (.cells (garr g A c A' c') 28)).alloc (.cells zarr 28))).cell? ⟨w.heap.size + 1, 5, none⟩ = some (.int .i64 0) := by simp [go_sem]
  have zF : ∀ j, (((w.alloc (.cells (garr g A c A' c') 28)).alloc (.cells zarr 28))).frozen? ⟨w.heap.size + 1, j, none⟩ = false := fun j => by simp [go_sem]
  go_enter Tryd.func19, Tryd.ntmps19
  repeat' ((fail_if_success at_builtin); (first | go_skip | go_guarded | go_step))
  generalize ((w.alloc (.cells (garr g A c A' c') 28)).alloc (.cells zarr 28)) = w1 at *
  have hs1 := (hs.below hb1).more hb1.size
  have hs1' := (hs'.below hb1).more hb1.size
  have hchk := decide_any g A c A' c' who now w1 hs1 hl h1 h2
  have hN : rejG g who now = rejG g who now := rfl
  conv at hN => rhs; unfold rejG
  generalize checkG g who now = r at *
  generalize rejG g who now = g' at *
  replace hN := Lib.hid hN
  refine hchk.mono ?_
  rintro e w2 ⟨rfl, hb2⟩
  dsimp only
  replace d0 := (hb2.cell (p := ⟨w.heap.size, 0, none⟩) (by dsimp only; omega)).trans d0
  replace d1 := (hb2.cell (p := ⟨w.heap.size, 1, none⟩) (by dsimp only; omega)).trans d1
  replace d2 := (hb2.cell (p := ⟨w.heap.size, 2, none⟩) (by dsimp only; omega)).trans d2
  replace d3 := (hb2.cell (p := ⟨w.heap.size, 3, none⟩) (by dsimp only; omega)).trans d3
  replace d4 := (hb2.cell (p := ⟨w.heap.size, 4, none⟩) (by dsimp only; omega)).trans d4
  replace d5 := (hb2.cell (p := ⟨w.heap.size, 5, none⟩) (by dsimp only; omega)).trans d5
  replace dF := frz_below hb2 (by omega) dF
  replace z0 := (hb2.cell (p := ⟨w.heap.size + 1, 0, none⟩) (by dsimp only; omega)).trans z0
  replace z1 := (hb2.cell (p := ⟨w.heap.size + 1, 1, none⟩) (by dsimp only; omega)).trans z1
  replace z2 := (hb2.cell (p := ⟨w.heap.size + 1, 2, none⟩) (by dsimp only; omega)).trans z2
  replace z3 := (hb2.cell (p := ⟨w.heap.size + 1, 3, none⟩) (by dsimp only; omega)).trans z3
  replace z4 := (hb2.cell (p := ⟨w.heap.size + 1, 4, none⟩) (by dsimp only; omega)).trans z4
  replace z5 := (hb2.cell (p := ⟨w.heap.size + 1, 5, none⟩) (by dsimp only; omega)).trans z5
  replace zF := frz_below hb2 (by omega) zF
  have hbw2 := hb1.trans (hb2.mono hb1.size)
  have hz2 : w1.heap.size ≤ w2.heap.size := hb2.size
  have za0 : ∀ ob, (w2.alloc ob).cell? ⟨w.heap.size + 1, 0, none⟩ = some (.int .i64 0) := fun ob => (((Below.refl w2.heap.size w2).alloc (Nat.le_refl _) ob).cell (p := ⟨w.heap.size + 1, 0, none⟩) (by dsimp only; omega)).trans z0
  have za1 : ∀ ob, (w2.alloc ob).cell? ⟨w.heap.size + 1, 1, none⟩ = some (.slice none 0 0) := fun ob => (((Below.refl w2.heap.size w2).alloc (Nat.le_refl _) ob).cell (p := ⟨w.heap.size + 1, 1, none⟩) (by dsimp only; omega)).trans z1
  have za2 : ∀ ob, (w2.alloc ob).cell? ⟨w.heap.size + 1, 2, none⟩ = some (.int .i64 0) := fun ob => (((Below.refl w2.heap.size w2).alloc (Nat.le_refl _) ob).cell (p := ⟨w.heap.size + 1, 2, none⟩) (by dsimp only; omega)).trans z2
  have za3 : ∀ ob, (w2.alloc ob).cell? ⟨w.heap.size + 1, 3, none⟩ = some (.int .i64 0) := fun ob => (((Below.refl w2.heap.size w2).alloc (Nat.le_refl _) ob).cell (p := ⟨w.heap.size + 1, 3, none⟩) (by dsimp only; omega)).trans z3
  have za4 : ∀ ob, (w2.alloc ob).cell? ⟨w.heap.size + 1, 4, none⟩ = some (.slice none 0 0) := fun ob => (((Below.refl w2.heap.size w2).alloc (Nat.le_refl _) ob).cell (p := ⟨w.heap.size + 1, 4, none⟩) (by dsimp only; omega)).trans z4
  have za5 : ∀ ob, (w2.alloc ob).cell? ⟨w.heap.size + 1, 5, none⟩ = some (.int .i64 0) := fun ob => (((Below.refl w2.heap.size w2).alloc (Nat.le_refl _) ob).cell (p := ⟨w.heap.size + 1, 5, none⟩) (by dsimp only; omega)).trans z5
  have zaF : ∀ ob j, (w2.alloc ob).frozen? ⟨w.heap.size + 1, j, none⟩ = false := fun ob j => (((Below.refl w2.heap.size w2).alloc (Nat.le_refl _) ob).frozen (p := ⟨w.heap.size + 1, j, none⟩) (by dsimp only; omega)).trans (zF j)
  clear hs1 hs1' hchk
  by_cases hr : r = 0
  · have p0 : (r != 0) = false := by simp [hr]
    have hN' := hN.out
    rw [if_neg (Decidable.not_not.2 hr)] at hN'
    subst hN'
    subst hr
    clear hN
    repeat' ((fail_if_success at_builtin); (first | go_skip | go_guarded | go_step))
    have hbw3 : Below w.heap.size w (w2.alloc (.cells #[.int .i64 g.s.app, .slice A g.s.who.length c, .int .i64 g.s.exp, .int .i64 g.opened, .slice A' g.yes.length c', .int .i64 2] 28)) := hbw2.trans (((Below.refl w2.heap.size w2).alloc (Nat.le_refl _) _).mono hbw2.size)
    replace z0 := za0 (.cells #[.int .i64 g.s.app, .slice A g.s.who.length c, .int .i64 g.s.exp, .int .i64 g.opened, .slice A' g.yes.length c', .int .i64 2] 28)
    replace z1 := za1 (.cells #[.int .i64 g.s.app, .slice A g.s.who.length c, .int .i64 g.s.exp, .int .i64 g.opened, .slice A' g.yes.length c', .int .i64 2] 28)
    replace z2 := za2 (.cells #[.int .i64 g.s.app, .slice A g.s.who.length c, .int .i64 g.s.exp, .int .i64 g.opened, .slice A' g.yes.length c', .int .i64 2] 28)
    replace z3 := za3 (.cells #[.int .i64 g.s.app, .slice A g.s.who.length c, .int .i64 g.s.exp, .int .i64 g.opened, .slice A' g.yes.length c', .int .i64 2] 28)
    replace z4 := za4 (.cells #[.int .i64 g.s.app, .slice A g.s.who.length c, .int .i64 g.s.exp, .int .i64 g.opened, .slice A' g.yes.length c', .int .i64 2] 28)
    replace z5 := za5 (.cells #[.int .i64 g.s.app, .slice A g.s.who.length c, .int .i64 g.s.exp, .int .i64 g.opened, .slice A' g.yes.length c', .int .i64 2] 28)
    replace zF := zaF (.cells #[.int .i64 g.s.app, .slice A g.s.who.length c, .int .i64 g.s.exp, .int .i64 g.opened, .slice A' g.yes.length c', .int .i64 2] 28)
    clear d0 d1 d2 d3 d4 d5 dF za0 za1 za2 za3 za4 za5 zaF
    generalize w2.alloc (.cells #[.int .i64 g.s.app, .slice A g.s.who.length c, .int .i64 g.s.exp, .int .i64 g.opened, .slice A' g.yes.length c', .int .i64 2] 28) = w3 at *
    generalize hw_w4 : ((((((w3.setCell ⟨w.heap.size + 1, 0, none⟩ (.int .i64 g.s.app)).setCell ⟨w.heap.size + 1, 1, none⟩ (.slice A g.s.who.length c)).setCell ⟨w.heap.size + 1, 2, none⟩ (.int .i64 g.s.exp)).setCell ⟨w.heap.size + 1, 3, none⟩ (.int .i64 g.opened)).setCell ⟨w.heap.size + 1, 4, none⟩ (.slice A' g.yes.length c')).setCell ⟨w.heap.size + 1, 5, none⟩ (.int .i64 2)) = w4 at *
    obtain ⟨⟨nz0, nz1, nz2, nz3, nz4, nz5⟩, far_w4, frz_w4, hsz_w4, bel_w4, own_w4⟩ := six_ok (.int .i64 g.s.app) (.slice A g.s.who.length c) (.int .i64 g.s.exp) (.int .i64 g.opened) (.slice A' g.yes.length c') (.int .i64 2) z0 z1 z2 z3 z4 z5 w4 hw_w4
    clear z0 z1 z2 z3 z4 z5 hw_w4
    have z0 := nz0
    have z1 := nz1
    have z2 := nz2
    have z3 := nz3
    have z4 := nz4
    have z5 := nz5
    clear nz0 nz1 nz2 nz3 nz4 nz5
    replace zF := fun j => (frz_w4 ⟨w.heap.size + 1, j, none⟩).trans (zF j)
    have hbz := bel_w4 _ _ (by omega) hbw3
    clear far_w4 frz_w4 hsz_w4 bel_w4 own_w4
    refine bodyPost_ret (v := .tuple #[.agg #[.int .i64 g.s.app, .slice A g.s.who.length c, .int .i64 g.s.exp, .int .i64 g.opened, .slice A' g.yes.length c', .int .i64 2], .int .i64 (0)]) (by simp only [results, Tryd.results19]; go_simp; try (first | rfl | exact ⟨rfl, rfl, rfl, rfl, rfl, rfl⟩)) rfl ?_
    exact ⟨_, _, _, _, rfl, hbz, (hs.below hbz).more hbz.size, (hs'.below hbz).more hbz.size⟩
  · have p0 : (r != 0) = true := by simp [hr]
    have hN' := hN.out
    rw [if_pos hr] at hN'
    subst hN'
    clear hN hr
    repeat' ((fail_if_success at_builtin); (first | go_skip | go_guarded | go_step))
    generalize hw_w3 : ((((((w2.setCell ⟨w.heap.size + 1, 0, none⟩ (.int .i64 g'.s.app)).setCell ⟨w.heap.size + 1, 1, none⟩ (.slice A g'.s.who.length c)).setCell ⟨w.heap.size + 1, 2, none⟩ (.int .i64 g'.s.exp)).setCell ⟨w.heap.size + 1, 3, none⟩ (.int .i64 g'.opened)).setCell ⟨w.heap.size + 1, 4, none⟩ (.slice A' g'.yes.length c')).setCell ⟨w.heap.size + 1, 5, none⟩ (.int .i64 g'.state)) = w3 at *
    obtain ⟨⟨nz0, nz1, nz2, nz3, nz4, nz5⟩, far_w3, frz_w3, hsz_w3, bel_w3, own_w3⟩ := six_ok (.int .i64 g'.s.app) (.slice A g'.s.who.length c) (.int .i64 g'.s.exp) (.int .i64 g'.opened) (.slice A' g'.yes.length c') (.int .i64 g'.state) z0 z1 z2 z3 z4 z5 w3 hw_w3
    clear z0 z1 z2 z3 z4 z5 hw_w3
    have z0 := nz0
    have z1 := nz1
    have z2 := nz2
    have z3 := nz3
    have z4 := nz4
    have z5 := nz5
    clear nz0 nz1 nz2 nz3 nz4 nz5
    replace d0 := (far_w3 ⟨w.heap.size, 0, none⟩ (by dsimp only; omega)).trans d0
    replace d1 := (far_w3 ⟨w.heap.size, 1, none⟩ (by dsimp only; omega)).trans d1
    replace d2 := (far_w3 ⟨w.heap.size, 2, none⟩ (by dsimp only; omega)).trans d2
    replace d3 := (far_w3 ⟨w.heap.size, 3, none⟩ (by dsimp only; omega)).trans d3
    replace d4 := (far_w3 ⟨w.heap.size, 4, none⟩ (by dsimp only; omega)).trans d4
    replace d5 := (far_w3 ⟨w.heap.size, 5, none⟩ (by dsimp only; omega)).trans d5
    replace dF := fun j => (frz_w3 ⟨w.heap.size, j, none⟩).trans (dF j)
    replace zF := fun j => (frz_w3 ⟨w.heap.size + 1, j, none⟩).trans (zF j)
    clear d0 d1 d2 d3 d4 d5
    have hbz := bel_w3 _ _ (by omega) hbw2
    clear far_w3 frz_w3 hsz_w3 bel_w3 own_w3
    refine bodyPost_ret (v := .tuple #[.agg #[.int .i64 g'.s.app, .slice A g'.s.who.length c, .int .i64 g'.s.exp, .int .i64 g'.opened, .slice A' g'.yes.length c', .int .i64 g'.state], .int .i64 (r)]) (by simp only [results, Tryd.results19]; go_simp; try (first | rfl | exact ⟨rfl, rfl, rfl, rfl, rfl, rfl⟩)) rfl ?_
    exact ⟨_, _, _, _, rfl, hbz, (hs.below hbz).more hbz.size, (hs'.below hbz).more hbz.size⟩
set_option maxRecDepth 100000 in
set_option maxHeartbeats 4000000 in
theorem expire0_any (s : Gs) (opened : Int) (yes : List ByteArray) (A : Option Addr) (c : Nat) (A' : Option Addr) (c' : Nat) (now : Int) (w : World) (hs : Seq w w.heap.size 1 A s.who.length (cellsS s.who)) (hs' : Seq w w.heap.size 1 A' yes.length (cellsS yes)) (hl : s.who.length ≤ 1000) (hl' : yes.length ≤ 1000) (h1 : I64 opened) (h2 : I64 s.exp) : Calls Tryd.prog 20 #[.agg (garr (⟨s, opened, yes, 0⟩ : Gt) A c A' c'), .int .i64 now] w (GRet1 w (expG (⟨s, opened, yes, 0⟩ : Gt) now)) := by
  have hb1 := ((Below.refl w.heap.size w).alloc (Nat.le_refl _) (.cells (garr (⟨s, opened, yes, 0⟩ : Gt) A c A' c') 28)).alloc (by simp) (.cells zarr 28)
  have hz : ((w.alloc (.cells (garr (⟨s, opened, yes, 0⟩ : Gt) A c A' c') 28)).alloc (.cells zarr 28)).heap.size = w.heap.size + 1 + 1 := by simp
  have d0 : (((w.alloc (.cells (garr (⟨s, opened, yes, 0⟩ : Gt) A c A' c') 28)).alloc (.cells zarr 28))).cell? ⟨w.heap.size, 0, none⟩ = some (.int .i64 s.app) := by simp [go_sem]
  have d1 : (((w.alloc (.cells (garr (⟨s, opened, yes, 0⟩ : Gt) A c A' c') 28)).alloc (.cells zarr 28))).cell? ⟨w.heap.size, 1, none⟩ = some (.slice A s.who.length c) := by simp [go_sem]
  have d2 : (((w.alloc (.cells (garr (⟨s, opened, yes, 0⟩ : Gt) A c A' c') 28)).alloc (.cells zarr 28))).cell? ⟨w.heap.size, 2, none⟩ = some (.int .i64 s.exp) := by simp [go_sem]
  have d3 : (((w.alloc (.cells (garr (⟨s, opened, yes, 0⟩ : Gt) A c A' c') 28)).alloc (.cells zarr 28))).cell? ⟨w.heap.size, 3, none⟩ = some (.int .i64 opened) := by simp [go_sem]
  have d4 : (((w.alloc (.cells (garr (⟨s, opened, yes, 0⟩ : Gt) A c A' c') 28)).alloc (.cells zarr 28))).cell? ⟨w.heap.size, 4, none⟩ = some (.slice A' yes.length c') := by simp [go_sem]
  have d5 : (((w.alloc (.cells (garr (⟨s, opened, yes, 0⟩ : Gt) A c A' c') 28)).alloc (.cells zarr 28))).cell? ⟨w.heap.size, 5, none⟩ = some (.int .i64 0) := by simp [go_sem]
  have dF : ∀ j, (((w.alloc (.cells (garr (⟨s, opened, yes, 0⟩ : Gt) A c A' c') 28)).alloc (.cells zarr 28))).frozen? ⟨w.heap.size, j, none⟩ = false := fun j => by simp [go_sem]
  have z0 : (((w.alloc (.cells (garr (⟨s, opened, yes, 0⟩ : Gt) A c A' c') 28)).alloc (.cells zarr 28))).cell? ⟨w.heap.size + 1, 0, none⟩ = some (.int .i64 0) := by simp [go_sem]
  have z1 : (((w.alloc (.cells (garr (⟨s, opened, yes, 0⟩ : Gt) A c A' c') 28)).alloc (.cells zarr 28))).cell? ⟨w.heap.size + 1, 1, none⟩ = some (.slice none 0 0) := by simp [go_sem]
  have z2 : (((w.alloc (.cells (garr (⟨s, opened, yes, 0⟩ : Gt) A c A' c') 28)).alloc (.cells zarr 28))).cell? ⟨w.heap.size + 1, 2, none⟩ = some (.int .i64 0) := by simp [go_sem]
  have z3 : (((w.alloc (.cells (garr (⟨s, opened, yes, 0⟩ : Gt) A c A' c') 28)).alloc (.cells zarr 28))).cell? ⟨w.heap.size + 1, 3, none⟩ = some (.int .i64 0) := by simp [go_sem]
  have z4 : (((w.alloc (.cells (garr (⟨s, opened, yes, 0⟩ : Gt) A c A' c') 28)).alloc (.cells zarr 28))).cell? ⟨w.heap.size + 1, 4, none⟩ = some (.slice none 0 0) := by simp [go_sem]
  have z5 : (((w.alloc (.cells (garr (⟨s, opened, yes, 0⟩ : Gt) A c A' c') 28)).alloc (.cells zarr 28))).cell? ⟨w.heap.size + 1, 5, none⟩ = some (.int .i64 0) := by simp [go_sem]
  have zF : ∀ j, (((w.alloc (.cells (garr (⟨s, opened, yes, 0⟩ : Gt) A c A' c') 28)).alloc (.cells zarr 28))).frozen? ⟨w.heap.size + 1, j, none⟩ = false := fun j => by simp [go_sem]
  go_enter Tryd.func20, Tryd.ntmps20
  repeat' ((fail_if_success at_builtin); (first | go_skip | go_guarded | go_step))
  generalize ((w.alloc (.cells (garr (⟨s, opened, yes, 0⟩ : Gt) A c A' c') 28)).alloc (.cells zarr 28)) = w1 at *
  have hs1 := (hs.below hb1).more hb1.size
  have hs1' := (hs'.below hb1).more hb1.size
  refine (copied_any (⟨s, opened, yes, 0⟩ : Gt) A c A' c' w1 hs1 hs1' hl hl').mono ?_
  rintro e w2 ⟨A1, c1, A2, c2, B, rfl, hb2, hB, hB2, hq1, hq2⟩
  dsimp only
  replace d0 := (hb2.cell (p := ⟨w.heap.size, 0, none⟩) (by dsimp only; omega)).trans d0
  replace d1 := (hb2.cell (p := ⟨w.heap.size, 1, none⟩) (by dsimp only; omega)).trans d1
  replace d2 := (hb2.cell (p := ⟨w.heap.size, 2, none⟩) (by dsimp only; omega)).trans d2
  replace d3 := (hb2.cell (p := ⟨w.heap.size, 3, none⟩) (by dsimp only; omega)).trans d3
  replace d4 := (hb2.cell (p := ⟨w.heap.size, 4, none⟩) (by dsimp only; omega)).trans d4
  replace d5 := (hb2.cell (p := ⟨w.heap.size, 5, none⟩) (by dsimp only; omega)).trans d5
  replace dF := frz_below hb2 (by omega) dF
  replace z0 := (hb2.cell (p := ⟨w.heap.size + 1, 0, none⟩) (by dsimp only; omega)).trans z0
  replace z1 := (hb2.cell (p := ⟨w.heap.size + 1, 1, none⟩) (by dsimp only; omega)).trans z1
  replace z2 := (hb2.cell (p := ⟨w.heap.size + 1, 2, none⟩) (by dsimp only; omega)).trans z2
  replace z3 := (hb2.cell (p := ⟨w.heap.size + 1, 3, none⟩) (by dsimp only; omega)).trans z3
  replace z4 := (hb2.cell (p := ⟨w.heap.size + 1, 4, none⟩) (by dsimp only; omega)).trans z4
  replace z5 := (hb2.cell (p := ⟨w.heap.size + 1, 5, none⟩) (by dsimp only; omega)).trans z5
  replace zF := frz_below hb2 (by omega) zF
  repeat' ((fail_if_success at_builtin); (first | go_skip | go_guarded | go_step))
  generalize hw_w3 : ((((((w2.setCell ⟨w.heap.size, 0, none⟩ (.int .i64 s.app)).setCell ⟨w.heap.size, 1, none⟩ (.slice A1 s.who.length c1)).setCell ⟨w.heap.size, 2, none⟩ (.int .i64 s.exp)).setCell ⟨w.heap.size, 3, none⟩ (.int .i64 opened)).setCell ⟨w.heap.size, 4, none⟩ (.slice A2 yes.length c2)).setCell ⟨w.heap.size, 5, none⟩ (.int .i64 0)) = w3 at *
  obtain ⟨⟨nd0, nd1, nd2, nd3, nd4, nd5⟩, far_w3, frz_w3, hsz_w3, bel_w3, own_w3⟩ := six_ok (.int .i64 s.app) (.slice A1 s.who.length c1) (.int .i64 s.exp) (.int .i64 opened) (.slice A2 yes.length c2) (.int .i64 0) d0 d1 d2 d3 d4 d5 w3 hw_w3
  clear d0 d1 d2 d3 d4 d5 hw_w3
  have d0 := nd0
  have d1 := nd1
  have d2 := nd2
  have d3 := nd3
  have d4 := nd4
  have d5 := nd5
  clear nd0 nd1 nd2 nd3 nd4 nd5
  replace dF := fun j => (frz_w3 ⟨w.heap.size, j, none⟩).trans (dF j)
  replace z0 := (far_w3 ⟨w.heap.size + 1, 0, none⟩ (by dsimp only; omega)).trans z0
  replace z1 := (far_w3 ⟨w.heap.size + 1, 1, none⟩ (by dsimp only; omega)).trans z1
  replace z2 := (far_w3 ⟨w.heap.size + 1, 2, none⟩ (by dsimp only; omega)).trans z2
  replace z3 := (far_w3 ⟨w.heap.size + 1, 3, none⟩ (by dsimp only; omega)).trans z3
  replace z4 := (far_w3 ⟨w.heap.size + 1, 4, none⟩ (by dsimp only; omega)).trans z4
  replace z5 := (far_w3 ⟨w.heap.size + 1, 5, none⟩ (by dsimp only; omega)).trans z5
  replace zF := fun j => (frz_w3 ⟨w.heap.size + 1, j, none⟩).trans (zF j)
  have hbw3 := bel_w3 _ _ (Nat.le_refl _) (hb1.trans (hb2.mono hb1.size))
  have hz3 : w1.heap.size ≤ w3.heap.size := by rw [hsz_w3]; exact hb2.size
  have hq3 : SeqP w3 (fun b => w1.heap.size ≤ b ∧ b < B) 1 A1 s.who.length (cellsS s.who) := hq1.map (fun p hp => far_w3 p (by have := hp.1; omega)) fun _ h => h
  have ho3 := own_w3 _ _ _ _ _ _ (by omega) hq2
  have hBw3 : B ≤ w3.heap.size := by rw [hsz_w3]; exact hB2
  clear hq1 hq2 far_w3 frz_w3 bel_w3 own_w3 hb2 hsz_w3
  have hr3 : Seq w3 w3.heap.size 1 A1 s.who.length (cellsS s.who) := hq3.lower
  have hr3' : Seq w3 w3.heap.size 1 A2 yes.length (cellsS yes) := Seq.of_own ho3
  have hq3' := seq_lohi ho3
  have hpass := passed_any (⟨s, opened, yes, 0⟩ : Gt) A1 c1 A2 c2 now w3 h1 h2
  have hN : expG (⟨s, opened, yes, 0⟩ : Gt) now = if passG (⟨s, opened, yes, 0⟩ : Gt) now = true then ⟨s, opened, yes, 3⟩ else (⟨s, opened, yes, 0⟩ : Gt) := by
    unfold expG
    simp
  generalize expG (⟨s, opened, yes, 0⟩ : Gt) now = g' at *
  replace hN := Lib.hid hN
  refine hpass.mono ?_
  rintro e w4 ⟨rfl, hb4⟩
  dsimp only
  replace d0 := (hb4.cell (p := ⟨w.heap.size, 0, none⟩) (by dsimp only; omega)).trans d0
  replace d1 := (hb4.cell (p := ⟨w.heap.size, 1, none⟩) (by dsimp only; omega)).trans d1
  replace d2 := (hb4.cell (p := ⟨w.heap.size, 2, none⟩) (by dsimp only; omega)).trans d2
  replace d3 := (hb4.cell (p := ⟨w.heap.size, 3, none⟩) (by dsimp only; omega)).trans d3
  replace d4 := (hb4.cell (p := ⟨w.heap.size, 4, none⟩) (by dsimp only; omega)).trans d4
  replace d5 := (hb4.cell (p := ⟨w.heap.size, 5, none⟩) (by dsimp only; omega)).trans d5
  replace dF := frz_below hb4 (by omega) dF
  replace z0 := (hb4.cell (p := ⟨w.heap.size + 1, 0, none⟩) (by dsimp only; omega)).trans z0
  replace z1 := (hb4.cell (p := ⟨w.heap.size + 1, 1, none⟩) (by dsimp only; omega)).trans z1
  replace z2 := (hb4.cell (p := ⟨w.heap.size + 1, 2, none⟩) (by dsimp only; omega)).trans z2
  replace z3 := (hb4.cell (p := ⟨w.heap.size + 1, 3, none⟩) (by dsimp only; omega)).trans z3
  replace z4 := (hb4.cell (p := ⟨w.heap.size + 1, 4, none⟩) (by dsimp only; omega)).trans z4
  replace z5 := (hb4.cell (p := ⟨w.heap.size + 1, 5, none⟩) (by dsimp only; omega)).trans z5
  replace zF := frz_below hb4 (by omega) zF
  have hbw4 := hbw3.trans (hb4.mono hbw3.size)
  have hz4 : w1.heap.size ≤ w4.heap.size := by have := hb4.size; omega
  have hq4 := hq3.belowS hb4 (fun b hb => Nat.lt_of_lt_of_le hb.2 hBw3)
  have hq4' := hq3'.belowS hb4 (fun b hb => hb.2)
  clear hpass
  cases hp : passG (⟨s, opened, yes, 0⟩ : Gt) now with
  | true =>
    have hN' := hN.out
    rw [if_pos hp] at hN'
    subst hN'
    clear hN
    repeat' ((fail_if_success at_builtin); (first | go_skip | go_guarded | go_step))
    replace d0 := (World.cell?_setCell_other w4 ⟨w.heap.size, 5, none⟩ ⟨w.heap.size, 0, none⟩ (.int .i64 3) (by simp)).trans d0
    replace d1 := (World.cell?_setCell_other w4 ⟨w.heap.size, 5, none⟩ ⟨w.heap.size, 1, none⟩ (.int .i64 3) (by simp)).trans d1
    replace d2 := (World.cell?_setCell_other w4 ⟨w.heap.size, 5, none⟩ ⟨w.heap.size, 2, none⟩ (.int .i64 3) (by simp)).trans d2
    replace d3 := (World.cell?_setCell_other w4 ⟨w.heap.size, 5, none⟩ ⟨w.heap.size, 3, none⟩ (.int .i64 3) (by simp)).trans d3
    replace d4 := (World.cell?_setCell_other w4 ⟨w.heap.size, 5, none⟩ ⟨w.heap.size, 4, none⟩ (.int .i64 3) (by simp)).trans d4
    replace d5 := World.cell?_setCell_same w4 _ (.int .i64 3) d5
    replace dF := frz_set (p := ⟨w.heap.size, 5, none⟩) (v := .int .i64 3) dF
    replace z0 := (World.cell?_setCell_far w4 ⟨w.heap.size, 5, none⟩ ⟨w.heap.size + 1, 0, none⟩ (.int .i64 3) (by dsimp only; omega)).trans z0
    replace z1 := (World.cell?_setCell_far w4 ⟨w.heap.size, 5, none⟩ ⟨w.heap.size + 1, 1, none⟩ (.int .i64 3) (by dsimp only; omega)).trans z1
    replace z2 := (World.cell?_setCell_far w4 ⟨w.heap.size, 5, none⟩ ⟨w.heap.size + 1, 2, none⟩ (.int .i64 3) (by dsimp only; omega)).trans z2
    replace z3 := (World.cell?_setCell_far w4 ⟨w.heap.size, 5, none⟩ ⟨w.heap.size + 1, 3, none⟩ (.int .i64 3) (by dsimp only; omega)).trans z3
    replace z4 := (World.cell?_setCell_far w4 ⟨w.heap.size, 5, none⟩ ⟨w.heap.size + 1, 4, none⟩ (.int .i64 3) (by dsimp only; omega)).trans z4
    replace z5 := (World.cell?_setCell_far w4 ⟨w.heap.size, 5, none⟩ ⟨w.heap.size + 1, 5, none⟩ (.int .i64 3) (by dsimp only; omega)).trans z5
    replace zF := frz_set (p := ⟨w.heap.size, 5, none⟩) (v := .int .i64 3) zF
    generalize hw_w5 : w4.setCell ⟨w.heap.size, 5, none⟩ (.int .i64 3) = w5 at *
    have hbw5 : Below w.heap.size w w5 := hw_w5 ▸ Below.setCell (p := ⟨w.heap.size, 5, none⟩) hbw4 (Nat.le_refl _) _
    have hq5 := SeqP.set (p := ⟨w.heap.size, 5, none⟩) hq4 (by dsimp only; omega) (.int .i64 3)
    have hq5' := SeqP.set (p := ⟨w.heap.size, 5, none⟩) hq4' (by dsimp only; omega) (.int .i64 3)
    rw [hw_w5] at hq5 hq5'
    generalize hw_w6 : ((((((w5.setCell ⟨w.heap.size + 1, 0, none⟩ (.int .i64 s.app)).setCell ⟨w.heap.size + 1, 1, none⟩ (.slice A1 s.who.length c1)).setCell ⟨w.heap.size + 1, 2, none⟩ (.int .i64 s.exp)).setCell ⟨w.heap.size + 1, 3, none⟩ (.int .i64 opened)).setCell ⟨w.heap.size + 1, 4, none⟩ (.slice A2 yes.length c2)).setCell ⟨w.heap.size + 1, 5, none⟩ (.int .i64 3)) = w6 at *
    obtain ⟨⟨nz0, nz1, nz2, nz3, nz4, nz5⟩, far_w6, frz_w6, hsz_w6, bel_w6, own_w6⟩ := six_ok (.int .i64 s.app) (.slice A1 s.who.length c1) (.int .i64 s.exp) (.int .i64 opened) (.slice A2 yes.length c2) (.int .i64 3) z0 z1 z2 z3 z4 z5 w6 hw_w6
    clear z0 z1 z2 z3 z4 z5 hw_w6
    have z0 := nz0
    have z1 := nz1
    have z2 := nz2
    have z3 := nz3
    have z4 := nz4
    have z5 := nz5
    clear nz0 nz1 nz2 nz3 nz4 nz5
    replace d0 := (far_w6 ⟨w.heap.size, 0, none⟩ (by dsimp only; omega)).trans d0
    replace d1 := (far_w6 ⟨w.heap.size, 1, none⟩ (by dsimp only; omega)).trans d1
    replace d2 := (far_w6 ⟨w.heap.size, 2, none⟩ (by dsimp only; omega)).trans d2
    replace d3 := (far_w6 ⟨w.heap.size, 3, none⟩ (by dsimp only; omega)).trans d3
    replace d4 := (far_w6 ⟨w.heap.size, 4, none⟩ (by dsimp only; omega)).trans d4
    replace d5 := (far_w6 ⟨w.heap.size, 5, none⟩ (by dsimp only; omega)).trans d5
    replace dF := fun j => (frz_w6 ⟨w.heap.size, j, none⟩).trans (dF j)
    replace zF := fun j => (frz_w6 ⟨w.heap.size + 1, j, none⟩).trans (zF j)
    clear d0 d1 d2 d3 d4 d5
    refine bodyPost_ret (v := .agg #[.int .i64 s.app, .slice A1 s.who.length c1, .int .i64 s.exp, .int .i64 opened, .slice A2 yes.length c2, .int .i64 3]) (by simp only [results, Tryd.results20]; go_simp; try (first | rfl | exact ⟨rfl, rfl, rfl, rfl, rfl, rfl⟩)) rfl ?_
    exact ⟨_, _, _, _, rfl, bel_w6 _ _ (by omega) hbw5, (SeqP.map hq5 (fun p hp => far_w6 p (by have := hp.1; omega)) fun _ h => h).lower, (SeqP.map hq5' (fun p hp => far_w6 p (by have := hp.1; omega)) fun _ h => h).lower⟩
  | false =>
    have hN' := hN.out
    rw [if_neg (by simp [hp])] at hN'
    subst hN'
    clear hN
    repeat' ((fail_if_success at_builtin); (first | go_skip | go_guarded | go_step))
    generalize hw_w5 : ((((((w4.setCell ⟨w.heap.size + 1, 0, none⟩ (.int .i64 s.app)).setCell ⟨w.heap.size + 1, 1, none⟩ (.slice A1 s.who.length c1)).setCell ⟨w.heap.size + 1, 2, none⟩ (.int .i64 s.exp)).setCell ⟨w.heap.size + 1, 3, none⟩ (.int .i64 opened)).setCell ⟨w.heap.size + 1, 4, none⟩ (.slice A2 yes.length c2)).setCell ⟨w.heap.size + 1, 5, none⟩ (.int .i64 0)) = w5 at *
    obtain ⟨⟨nz0, nz1, nz2, nz3, nz4, nz5⟩, far_w5, frz_w5, hsz_w5, bel_w5, own_w5⟩ := six_ok (.int .i64 s.app) (.slice A1 s.who.length c1) (.int .i64 s.exp) (.int .i64 opened) (.slice A2 yes.length c2) (.int .i64 0) z0 z1 z2 z3 z4 z5 w5 hw_w5
    clear z0 z1 z2 z3 z4 z5 hw_w5
    have z0 := nz0
    have z1 := nz1
    have z2 := nz2
    have z3 := nz3
    have z4 := nz4
    have z5 := nz5
    clear nz0 nz1 nz2 nz3 nz4 nz5
    replace d0 := (far_w5 ⟨w.heap.size, 0, none⟩ (by dsimp only; omega)).trans d0
    replace d1 := (far_w5 ⟨w.heap.size, 1, none⟩ (by dsimp only; omega)).trans d1
    replace d2 := (far_w5 ⟨w.heap.size, 2, none⟩ (by dsimp only; omega)).trans d2
    replace d3 := (far_w5 ⟨w.heap.size, 3, none⟩ (by dsimp only; omega)).trans d3
    replace d4 := (far_w5 ⟨w.heap.size, 4, none⟩ (by dsimp only; omega)).trans d4
    replace d5 := (far_w5 ⟨w.heap.size, 5, none⟩ (by dsimp only; omega)).trans d5
    replace dF := fun j => (frz_w5 ⟨w.heap.size, j, none⟩).trans (dF j)
    replace zF := fun j => (frz_w5 ⟨w.heap.size + 1, j, none⟩).trans (zF j)
    clear d0 d1 d2 d3 d4 d5
    refine bodyPost_ret (v := .agg #[.int .i64 s.app, .slice A1 s.who.length c1, .int .i64 s.exp, .int .i64 opened, .slice A2 yes.length c2, .int .i64 0]) (by simp only [results, Tryd.results20]; go_simp; try (first | rfl | exact ⟨rfl, rfl, rfl, rfl, rfl, rfl⟩)) rfl ?_
    exact ⟨_, _, _, _, rfl, bel_w5 _ _ (by omega) hbw4, (SeqP.map hq4 (fun p hp => far_w5 p (by have := hp.1; omega)) fun _ h => h).lower, (SeqP.map hq4' (fun p hp => far_w5 p (by have := hp.1; omega)) fun _ h => h).lower⟩
set_option maxRecDepth 100000 in
set_option maxHeartbeats 4000000 in
theorem expire1_any (g : Gt) (A : Option Addr) (c : Nat) (A' : Option Addr) (c' : Nat) (now : Int) (w : World) (hs : Seq w w.heap.size 1 A g.s.who.length (cellsS g.s.who)) (hs' : Seq w w.heap.size 1 A' g.yes.length (cellsS g.yes)) (hl : g.s.who.length ≤ 1000) (hl' : g.yes.length ≤ 1000) (q0 : ¬ g.state = 0) : Calls Tryd.prog 20 #[.agg (garr g A c A' c'), .int .i64 now] w (GRet1 w (expG g now)) := by
  have p0 : (g.state == 0) = false := by simp [q0]
  have hb1 := ((Below.refl w.heap.size w).alloc (Nat.le_refl _) (.cells (garr g A c A' c') 28)).alloc (by simp) (.cells zarr 28)
  have hz : ((w.alloc (.cells (garr g A c A' c') 28)).alloc (.cells zarr 28)).heap.size = w.heap.size + 1 + 1 := by simp
  have d0 : (((w.alloc (.cells (garr g A c A' c') 28)).alloc (.cells zarr 28))).cell? ⟨w.heap.size, 0, none⟩ = some (.int .i64 g.s.app) := by simp [go_sem]
  have d1 : (((w.alloc (.cells (garr g A c A' c') 28)).alloc (.cells zarr 28))).cell? ⟨w.heap.size, 1, none⟩ = some (.slice A g.s.who.length c) := by simp [go_sem]
  have d2 : (((w.alloc (.cells (garr g A c A' c') 28)).alloc (.cells zarr 28))).cell? ⟨w.heap.size, 2, none⟩ = some (.int .i64 g.s.exp) := by simp [go_sem]
  have d3 : (((w.alloc (.cells (garr g A c A' c') 28)).alloc (.cells zarr 28))).cell? ⟨w.heap.size, 3, none⟩ = some (.int .i64 g.opened) := by simp [go_sem]
  have d4 : (((w.alloc (.cells (garr g A c A' c') 28)).alloc (.cells zarr 28))).cell? ⟨w.heap.size, 4, none⟩ = some (.slice A' g.yes.length c') := by simp [go_sem]
  have d5 : (((w.alloc (.cells (garr g A c A' c') 28)).alloc (.cells zarr 28))).cell? ⟨w.heap.size, 5, none⟩ = some (.int .i64 g.state) := by simp [go_sem]
  have dF : ∀ j, (((w.alloc (.cells (garr g A c A' c') 28)).alloc (.cells zarr 28))).frozen? ⟨w.heap.size, j, none⟩ = false := fun j => by simp [go_sem]
  have z0 : (((w.alloc (.cells (garr g A c A' c') 28)).alloc (.cells zarr 28))).cell? ⟨w.heap.size + 1, 0, none⟩ = some (.int .i64 0) := by simp [go_sem]
  have z1 : (((w.alloc (.cells (garr g A c A' c') 28)).alloc (.cells zarr 28))).cell? ⟨w.heap.size + 1, 1, none⟩ = some (.slice none 0 0) := by simp [go_sem]
  have z2 : (((w.alloc (.cells (garr g A c A' c') 28)).alloc (.cells zarr 28))).cell? ⟨w.heap.size + 1, 2, none⟩ = some (.int .i64 0) := by simp [go_sem]
  have z3 : (((w.alloc (.cells (garr g A c A' c') 28)).alloc (.cells zarr 28))).cell? ⟨w.heap.size + 1, 3, none⟩ = some (.int .i64 0) := by simp [go_sem]
  have z4 : (((w.alloc (.cells (garr g A c A' c') 28)).alloc (.cells zarr 28))).cell? ⟨w.heap.size + 1, 4, none⟩ = some (.slice none 0 0) := by simp [go_sem]
  have z5 : (((w.alloc (.cells (garr g A c A' c') 28)).alloc (.cells zarr 28))).cell? ⟨w.heap.size + 1, 5, none⟩ = some (.int .i64 0) := by simp [go_sem]
  have zF : ∀ j, (((w.alloc (.cells (garr g A c A' c') 28)).alloc (.cells zarr 28))).frozen? ⟨w.heap.size + 1, j, none⟩ = false := fun j => by simp [go_sem]
  go_enter Tryd.func20, Tryd.ntmps20
  repeat' ((fail_if_success at_builtin); (first | go_skip | go_guarded | go_step))
  generalize ((w.alloc (.cells (garr g A c A' c') 28)).alloc (.cells zarr 28)) = w1 at *
  have hs1 := (hs.below hb1).more hb1.size
  have hs1' := (hs'.below hb1).more hb1.size
  refine (copied_any g A c A' c' w1 hs1 hs1' hl hl').mono ?_
  rintro e w2 ⟨A1, c1, A2, c2, B, rfl, hb2, hB, hB2, hq1, hq2⟩
  dsimp only
  replace d0 := (hb2.cell (p := ⟨w.heap.size, 0, none⟩) (by dsimp only; omega)).trans d0
  replace d1 := (hb2.cell (p := ⟨w.heap.size, 1, none⟩) (by dsimp only; omega)).trans d1
  replace d2 := (hb2.cell (p := ⟨w.heap.size, 2, none⟩) (by dsimp only; omega)).trans d2
  replace d3 := (hb2.cell (p := ⟨w.heap.size, 3, none⟩) (by dsimp only; omega)).trans d3
  replace d4 := (hb2.cell (p := ⟨w.heap.size, 4, none⟩) (by dsimp only; omega)).trans d4
  replace d5 := (hb2.cell (p := ⟨w.heap.size, 5, none⟩) (by dsimp only; omega)).trans d5
  replace dF := frz_below hb2 (by omega) dF
  replace z0 := (hb2.cell (p := ⟨w.heap.size + 1, 0, none⟩) (by dsimp only; omega)).trans z0
  replace z1 := (hb2.cell (p := ⟨w.heap.size + 1, 1, none⟩) (by dsimp only; omega)).trans z1
  replace z2 := (hb2.cell (p := ⟨w.heap.size + 1, 2, none⟩) (by dsimp only; omega)).trans z2
  replace z3 := (hb2.cell (p := ⟨w.heap.size + 1, 3, none⟩) (by dsimp only; omega)).trans z3
  replace z4 := (hb2.cell (p := ⟨w.heap.size + 1, 4, none⟩) (by dsimp only; omega)).trans z4
  replace z5 := (hb2.cell (p := ⟨w.heap.size + 1, 5, none⟩) (by dsimp only; omega)).trans z5
  replace zF := frz_below hb2 (by omega) zF
  repeat' ((fail_if_success at_builtin); (first | go_skip | go_guarded | go_step))
  generalize hw_w3 : ((((((w2.setCell ⟨w.heap.size, 0, none⟩ (.int .i64 g.s.app)).setCell ⟨w.heap.size, 1, none⟩ (.slice A1 g.s.who.length c1)).setCell ⟨w.heap.size, 2, none⟩ (.int .i64 g.s.exp)).setCell ⟨w.heap.size, 3, none⟩ (.int .i64 g.opened)).setCell ⟨w.heap.size, 4, none⟩ (.slice A2 g.yes.length c2)).setCell ⟨w.heap.size, 5, none⟩ (.int .i64 g.state)) = w3 at *
  obtain ⟨⟨nd0, nd1, nd2, nd3, nd4, nd5⟩, far_w3, frz_w3, hsz_w3, bel_w3, own_w3⟩ := six_ok (.int .i64 g.s.app) (.slice A1 g.s.who.length c1) (.int .i64 g.s.exp) (.int .i64 g.opened) (.slice A2 g.yes.length c2) (.int .i64 g.state) d0 d1 d2 d3 d4 d5 w3 hw_w3
  clear d0 d1 d2 d3 d4 d5 hw_w3
  have d0 := nd0
  have d1 := nd1
  have d2 := nd2
  have d3 := nd3
  have d4 := nd4
  have d5 := nd5
  clear nd0 nd1 nd2 nd3 nd4 nd5
  replace dF := fun j => (frz_w3 ⟨w.heap.size, j, none⟩).trans (dF j)
  replace z0 := (far_w3 ⟨w.heap.size + 1, 0, none⟩ (by dsimp only; omega)).trans z0
  replace z1 := (far_w3 ⟨w.heap.size + 1, 1, none⟩ (by dsimp only; omega)).trans z1
  replace z2 := (far_w3 ⟨w.heap.size + 1, 2, none⟩ (by dsimp only; omega)).trans z2
  replace z3 := (far_w3 ⟨w.heap.size + 1, 3, none⟩ (by dsimp only; omega)).trans z3
  replace z4 := (far_w3 ⟨w.heap.size + 1, 4, none⟩ (by dsimp only; omega)).trans z4
  replace z5 := (far_w3 ⟨w.heap.size + 1, 5, none⟩ (by dsimp only; omega)).trans z5
  replace zF := fun j => (frz_w3 ⟨w.heap.size + 1, j, none⟩).trans (zF j)
  have hbw3 := bel_w3 _ _ (Nat.le_refl _) (hb1.trans (hb2.mono hb1.size))
  have hz3 : w1.heap.size ≤ w3.heap.size := by rw [hsz_w3]; exact hb2.size
  have hq3 : SeqP w3 (fun b => w1.heap.size ≤ b ∧ b < B) 1 A1 g.s.who.length (cellsS g.s.who) := hq1.map (fun p hp => far_w3 p (by have := hp.1; omega)) fun _ h => h
  have ho3 := own_w3 _ _ _ _ _ _ (by omega) hq2
  have hBw3 : B ≤ w3.heap.size := by rw [hsz_w3]; exact hB2
  clear hq1 hq2 far_w3 frz_w3 bel_w3 own_w3 hb2 hsz_w3
  have hr3 : Seq w3 w3.heap.size 1 A1 g.s.who.length (cellsS g.s.who) := hq3.lower
  have hr3' : Seq w3 w3.heap.size 1 A2 g.yes.length (cellsS g.yes) := Seq.of_own ho3
  have hq3' := seq_lohi ho3
  have hN : expG g now = g := by unfold expG; rw [if_neg (fun h => q0 h.1)]
  rw [hN]
  clear hN q0
  repeat' ((fail_if_success at_builtin); (first | go_skip | go_guarded | go_step))
  generalize hw_w5 : ((((((w3.setCell ⟨w.heap.size + 1, 0, none⟩ (.int .i64 g.s.app)).setCell ⟨w.heap.size + 1, 1, none⟩ (.slice A1 g.s.who.length c1)).setCell ⟨w.heap.size + 1, 2, none⟩ (.int .i64 g.s.exp)).setCell ⟨w.heap.size + 1, 3, none⟩ (.int .i64 g.opened)).setCell ⟨w.heap.size + 1, 4, none⟩ (.slice A2 g.yes.length c2)).setCell ⟨w.heap.size + 1, 5, none⟩ (.int .i64 g.state)) = w5 at *
  obtain ⟨⟨nz0, nz1, nz2, nz3, nz4, nz5⟩, far_w5, frz_w5, hsz_w5, bel_w5, own_w5⟩ := six_ok (.int .i64 g.s.app) (.slice A1 g.s.who.length c1) (.int .i64 g.s.exp) (.int .i64 g.opened) (.slice A2 g.yes.length c2) (.int .i64 g.state) z0 z1 z2 z3 z4 z5 w5 hw_w5
  clear z0 z1 z2 z3 z4 z5 hw_w5
  have z0 := nz0
  have z1 := nz1
  have z2 := nz2
  have z3 := nz3
  have z4 := nz4
  have z5 := nz5
  clear nz0 nz1 nz2 nz3 nz4 nz5
  replace d0 := (far_w5 ⟨w.heap.size, 0, none⟩ (by dsimp only; omega)).trans d0
  replace d1 := (far_w5 ⟨w.heap.size, 1, none⟩ (by dsimp only; omega)).trans d1
  replace d2 := (far_w5 ⟨w.heap.size, 2, none⟩ (by dsimp only; omega)).trans d2
  replace d3 := (far_w5 ⟨w.heap.size, 3, none⟩ (by dsimp only; omega)).trans d3
  replace d4 := (far_w5 ⟨w.heap.size, 4, none⟩ (by dsimp only; omega)).trans d4
  replace d5 := (far_w5 ⟨w.heap.size, 5, none⟩ (by dsimp only; omega)).trans d5
  replace dF := fun j => (frz_w5 ⟨w.heap.size, j, none⟩).trans (dF j)
  replace zF := fun j => (frz_w5 ⟨w.heap.size + 1, j, none⟩).trans (zF j)
  clear d0 d1 d2 d3 d4 d5
  refine bodyPost_ret (v := .agg #[.int .i64 g.s.app, .slice A1 g.s.who.length c1, .int .i64 g.s.exp, .int .i64 g.opened, .slice A2 g.yes.length c2, .int .i64 g.state]) (by simp only [results, Tryd.results20]; go_simp; try (first | rfl | exact ⟨rfl, rfl, rfl, rfl, rfl, rfl⟩)) rfl ?_
  exact ⟨_, _, _, _, rfl, bel_w5 _ _ (by omega) hbw3, (SeqP.map hq3 (fun p hp => far_w5 p (by have := hp.1; omega)) fun _ h => h).lower, (SeqP.map hq3' (fun p hp => far_w5 p (by have := hp.1; omega)) fun _ h => h).lower⟩
set_option maxRecDepth 100000 in
set_option maxHeartbeats 4000000 in
theorem expire_any (g : Gt) (A : Option Addr) (c : Nat) (A' : Option Addr) (c' : Nat) (now : Int) (w : World) (hs : Seq w w.heap.size 1 A g.s.who.length (cellsS g.s.who)) (hs' : Seq w w.heap.size 1 A' g.yes.length (cellsS g.yes)) (hl : g.s.who.length ≤ 1000) (hl' : g.yes.length ≤ 1000) (h1 : I64 g.opened) (h2 : I64 g.s.exp) : Calls Tryd.prog 20 #[.agg (garr g A c A' c'), .int .i64 now] w (GRet1 w (expG g now)) := by
  by_cases q0 : g.state = 0
  · obtain ⟨s, opened, yes, st⟩ := g
    dsimp only at q0
    subst q0
    exact expire0_any s opened yes A c A' c' now w hs hs' hl hl' h1 h2
  · exact expire1_any g A c A' c' now w hs hs' hl hl' q0
end Go.Proofs.YtionchkblgpklaaDoor
