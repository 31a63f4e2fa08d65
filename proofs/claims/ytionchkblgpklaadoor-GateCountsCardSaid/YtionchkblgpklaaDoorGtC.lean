/- Copies: what clone and copied return. -/
import Derived.Test.YtionchkblgpklaaDoorGtV
namespace Go.Proofs.YtionchkblgpklaaDoor
open Go.RowKit
theorem frz_below {B b : Nat} {w w' : World} (hb : Below B w w') (h : b < B) (f : ∀ j, w.frozen? ⟨b, j, none⟩ = false) : ∀ j, w'.frozen? ⟨b, j, none⟩ = false := fun j => (hb.frozen (p := ⟨b, j, none⟩) h).trans (f j)
theorem frz_set {b : Nat} {w : World} {p : Addr} {v : Value} (f : ∀ j, w.frozen? ⟨b, j, none⟩ = false) : ∀ j, (w.setCell p v).frozen? ⟨b, j, none⟩ = false := fun j => by simpa [go_sem] using f j
theorem SeqP.set {w : World} {S : Nat → Prop} {sz n : Nat} {A : Option Addr} {cs : List Value} (h : SeqP w S sz A n cs) {p : Addr} (hp : ¬ S p.block) (v : Value) : SeqP (w.setCell p v) S sz A n cs :=
  h.map (fun q hq => World.cell?_setCell_far w p q v (fun e => hp (by rw [e]; exact hq))) fun _ hb => hb
theorem seq_lohi {w : World} {B n sz c : Nat} {e : TypeId} {A : Option Addr} {xs : List Value} (h : w.ownsRow B e sz (.slice A n c) n xs) : SeqP w (fun b => B ≤ b ∧ b < w.heap.size) sz A n xs := by
  refine ⟨h.1, fun hn => ?_⟩
  rcases h.2 with ⟨hv, h0⟩ | ⟨g, cap, cur, hv, hb, hg, hnc, _, hcs, ht⟩
  · omega
  · injection hv with hA
    subst hA
    refine ⟨g, 0, rfl, ⟨hb, (Array.getElem?_eq_some_iff.1 hg).1⟩, fun j u hu => ?_⟩
    have := h.cells (g := g) rfl j u hu
    rw [Addr.add_lit] at this
    exact this
theorem SeqP.belowS {w w' : World} {S : Nat → Prop} {B sz n : Nat} {A : Option Addr} {cs : List Value} (h : SeqP w S sz A n cs) (hb : Below B w w') (hS : ∀ b, S b → b < B) : SeqP w' S sz A n cs := h.map (fun _ hp => hb.cell (hS _ hp)) fun _ hb => hb
theorem heap_setCell_far {w : World} {p : Addr} {v : Value} {g : Nat} (h : p.block ≠ g) : (w.setCell p v).heap[g]? = w.heap[g]? := by
  unfold World.setCell
  simp only
  rw [Array.getElem?_modify]
  rw [if_neg h]
theorem owns_far {w : World} {B n sz : Nat} {e : TypeId} {v : Value} {xs : List Value} (h : w.ownsRow B e sz v n xs) {p : Addr} (hp : p.block < B) (u : Value) : (w.setCell p u).ownsRow B e sz v n xs := by
  refine ⟨h.1, ?_⟩
  rcases h.2 with h2 | ⟨g, cap, cur, h3, h4, h5, h6⟩
  · exact .inl h2
  · exact .inr ⟨g, cap, cur, h3, h4, by rw [heap_setCell_far (by omega)]; exact h5, h6⟩
abbrev zarr : Array Value := #[.int .i64 0, .slice none 0 0, .int .i64 0, .int .i64 0, .slice none 0 0, .int .i64 0]
theorem getD_eq {l : List ByteArray} {j : Nat} (h : j < l.length) : l.getD j ByteArray.empty = l[j] := by rw [List.getD_eq_getElem?_getD, List.getElem?_eq_getElem h]; rfl
set_option maxRecDepth 100000 in
set_option maxHeartbeats 4000000 in
theorem clone_any (l : List ByteArray) (A : Option Addr) (c : Nat) (w : World) (hs : Seq w w.heap.size 1 A l.length (cellsS l)) (hl : l.length ≤ 1000) :
    Calls Tryd.prog 45 #[.slice A l.length c] w fun e w' => ∃ A' c', e = .returned (.slice A' l.length c') ∧ Own w w' 9 1 (.slice A' l.length c') l.length (cellsS l) := by
  cases A with
  | none =>
    have h0 : l = [] := by
      cases l with
      | nil => rfl
      | cons a l => obtain ⟨b, o, h, _⟩ := hs.2 (by simp); cases h
    subst h0
    refine (Tryd.slices_Clone_string_nil 0 c w).mono ?_
    rintro e w' ⟨rfl, rfl⟩
    exact ⟨none, 0, rfl, Own.nil_ _ _ _⟩
  | some a =>
    by_cases h0 : l.length = 0
    · have h1 : l = [] := List.eq_nil_of_length_eq_zero h0
      subst h1
      refine (Tryd.slices_Clone_string_zero a c w).mono ?_
      rintro e w' ⟨v', rfl, h1, _, h2⟩
      obtain ⟨A', c', rfl⟩ := Own.slice_form (W0 := w) ⟨h1, h2⟩
      exact ⟨A', c', rfl, h1, h2⟩
    · obtain ⟨b, o, h, hb, hc⟩ := hs.2 (by omega)
      cases h
      refine (Tryd.slices_Clone_string b o l.length c l w (Nat.le_refl _) (by omega) (fun j hj => hc j _ (by rw [List.getElem?_map, List.getElem?_eq_getElem hj, getD_eq hj]; rfl))).mono ?_
      rintro e w' ⟨v', rfl, h1, _, h2⟩
      rw [List.take_length] at h1
      obtain ⟨A', c', rfl⟩ := Own.slice_form (W0 := w) ⟨h1, h2⟩
      exact ⟨A', c', rfl, h1, h2⟩
set_option maxRecDepth 100000 in
set_option maxHeartbeats 4000000 in
theorem copied_any (g : Gt) (A : Option Addr) (c : Nat) (A' : Option Addr) (c' : Nat) (w : World) (hs : Seq w w.heap.size 1 A g.s.who.length (cellsS g.s.who)) (hs' : Seq w w.heap.size 1 A' g.yes.length (cellsS g.yes)) (hl : g.s.who.length ≤ 1000) (hl' : g.yes.length ≤ 1000) :
    Calls Tryd.prog 27 #[.agg (garr g A c A' c')] w fun e w' => ∃ A1 c1 A2 c2 B, e = .returned (.agg (garr g A1 c1 A2 c2)) ∧ Below w.heap.size w w' ∧ w.heap.size ≤ B ∧ B ≤ w'.heap.size ∧ SeqP w' (fun b => w.heap.size ≤ b ∧ b < B) 1 A1 g.s.who.length (cellsS g.s.who) ∧ w'.ownsRow B 9 1 (.slice A2 g.yes.length c2) g.yes.length (cellsS g.yes) := by
  have hb1 := ((Below.refl w.heap.size w).alloc (Nat.le_refl _) (.cells (garr g A c A' c') 28)).alloc (by simp) (.cells zarr 28)
  have hz : ((w.alloc (.cells (garr g A c A' c') 28)).alloc (.cells zarr 28)).heap.size = w.heap.size + 1 + 1 := by simp
  have d0 : (((w.alloc (.cells (garr g A c A' c') 28)).alloc (.cells zarr 28))).cell? ⟨w.heap.size, 0, none⟩ = some (.int .i64 g.s.app) := by simp [go_sem]
  have d1 : (((w.alloc (.cells (garr g A c A' c') 28)).alloc (.cells zarr 28))).cell? ⟨w.heap.size, 1, none⟩ = some (.slice A g.s.who.length c) := by simp [go_sem]
  have d2 : (((w.alloc (.cells (garr g A c A' c') 28)).alloc (.cells zarr 28))).cell? ⟨w.heap.size, 2, none⟩ = some (.int .i64 g.s.exp) := by simp [go_sem]
  have d3 : (((w.alloc (.cells (garr g A c A' c') 28)).alloc (.cells zarr 28))).cell? ⟨w.heap.size, 3, none⟩ = some (.int .i64 g.opened) := by simp [go_sem]
  have d4 : (((w.alloc (.cells (garr g A c A' c') 28)).alloc (.cells zarr 28))).cell? ⟨w.heap.size, 4, none⟩ = some (.slice A' g.yes.length c') := by simp [go_sem]
  have d5 : (((w.alloc (.cells (garr g A c A' c') 28)).alloc (.cells zarr 28))).cell? ⟨w.heap.size, 5, none⟩ = some (.int .i64 g.state) := by simp [go_sem]
  have dF : ∀ j, (((w.alloc (.cells (garr g A c A' c') 28)).alloc (.cells zarr 28))).frozen? ⟨w.heap.size, j, none⟩ = false := fun j => by simp [go_sem]
  have z0 : (((w.alloc (.cells (garr g A c A' c') 28)).alloc (.cells zarr 28))).cell? ⟨w.heap.size + 1, 0, none⟩ = some (.int .i64 0) := by simp [go_sem]
  have z1 : (((w.alloc (.cells (garr g A c A' c') 28)).alloc (.cells zarr 28))).cell? ⟨w.heap.size + 1, 1, none⟩ = some (.slice none 0 0) := by simp [go_sem]
  have z2 : (((w.alloc (.cells (garr g A c A' c') 28)).alloc (.cells zarr 28))).cell? ⟨w.heap.size + 1, 2, none⟩ = some (.int .i64 0) := by simp [go_sem]
  have z3 : (((w.alloc (.cells (garr g A c A' c') 28)).alloc (.cells zarr 28))).cell? ⟨w.heap.size + 1, 3, none⟩ = some (.int .i64 0) := by simp [go_sem]
  have z4 : (((w.alloc (.cells (garr g A c A' c') 28)).alloc (.cells zarr 28))).cell? ⟨w.heap.size + 1, 4, none⟩ = some (.slice none 0 0) := by simp [go_sem]
  have z5 : (((w.alloc (.cells (garr g A c A' c') 28)).alloc (.cells zarr 28))).cell? ⟨w.heap.size + 1, 5, none⟩ = some (.int .i64 0) := by simp [go_sem]
  have zF : ∀ j, (((w.alloc (.cells (garr g A c A' c') 28)).alloc (.cells zarr 28))).frozen? ⟨w.heap.size + 1, j, none⟩ = false := fun j => by simp [go_sem]
  have hs1 := (hs.below hb1).more hb1.size
  go_enter Tryd.func27, Tryd.ntmps27
  repeat' ((fail_if_success at_builtin); (first | go_skip | go_guarded | go_step))
  generalize ((w.alloc (.cells (garr g A c A' c') 28)).alloc (.cells zarr 28)) = w1 at *
  refine (clone_any g.s.who A c w1 hs1 hl).mono ?_
  rintro e w2 ⟨A1, c1, rfl, hown1⟩
  dsimp only
  replace d0 := (hown1.2.cell (p := ⟨w.heap.size, 0, none⟩) (by dsimp only; omega)).trans d0
  replace d1 := (hown1.2.cell (p := ⟨w.heap.size, 1, none⟩) (by dsimp only; omega)).trans d1
  replace d2 := (hown1.2.cell (p := ⟨w.heap.size, 2, none⟩) (by dsimp only; omega)).trans d2
  replace d3 := (hown1.2.cell (p := ⟨w.heap.size, 3, none⟩) (by dsimp only; omega)).trans d3
  replace d4 := (hown1.2.cell (p := ⟨w.heap.size, 4, none⟩) (by dsimp only; omega)).trans d4
  replace d5 := (hown1.2.cell (p := ⟨w.heap.size, 5, none⟩) (by dsimp only; omega)).trans d5
  replace dF := frz_below hown1.2 (by omega) dF
  replace z0 := (hown1.2.cell (p := ⟨w.heap.size + 1, 0, none⟩) (by dsimp only; omega)).trans z0
  replace z1 := (hown1.2.cell (p := ⟨w.heap.size + 1, 1, none⟩) (by dsimp only; omega)).trans z1
  replace z2 := (hown1.2.cell (p := ⟨w.heap.size + 1, 2, none⟩) (by dsimp only; omega)).trans z2
  replace z3 := (hown1.2.cell (p := ⟨w.heap.size + 1, 3, none⟩) (by dsimp only; omega)).trans z3
  replace z4 := (hown1.2.cell (p := ⟨w.heap.size + 1, 4, none⟩) (by dsimp only; omega)).trans z4
  replace z5 := (hown1.2.cell (p := ⟨w.heap.size + 1, 5, none⟩) (by dsimp only; omega)).trans z5
  replace zF := frz_below hown1.2 (by omega) zF
  have hb2 := hown1.2
  have hbw2 := hb1.trans (hb2.mono hb1.size)
  have hA1 := hown1.1
  clear hs1 hown1
  repeat' ((fail_if_success at_builtin); (first | go_skip | go_guarded | go_step))
  replace d0 := (World.cell?_setCell_other w2 ⟨w.heap.size, 1, none⟩ ⟨w.heap.size, 0, none⟩ (.slice A1 g.s.who.length c1) (by simp)).trans d0
  replace d1 := World.cell?_setCell_same w2 _ (.slice A1 g.s.who.length c1) d1
  replace d2 := (World.cell?_setCell_other w2 ⟨w.heap.size, 1, none⟩ ⟨w.heap.size, 2, none⟩ (.slice A1 g.s.who.length c1) (by simp)).trans d2
  replace d3 := (World.cell?_setCell_other w2 ⟨w.heap.size, 1, none⟩ ⟨w.heap.size, 3, none⟩ (.slice A1 g.s.who.length c1) (by simp)).trans d3
  replace d4 := (World.cell?_setCell_other w2 ⟨w.heap.size, 1, none⟩ ⟨w.heap.size, 4, none⟩ (.slice A1 g.s.who.length c1) (by simp)).trans d4
  replace d5 := (World.cell?_setCell_other w2 ⟨w.heap.size, 1, none⟩ ⟨w.heap.size, 5, none⟩ (.slice A1 g.s.who.length c1) (by simp)).trans d5
  replace dF := frz_set (p := ⟨w.heap.size, 1, none⟩) (v := .slice A1 g.s.who.length c1) dF
  replace z0 := (World.cell?_setCell_far w2 ⟨w.heap.size, 1, none⟩ ⟨w.heap.size + 1, 0, none⟩ (.slice A1 g.s.who.length c1) (by dsimp only; omega)).trans z0
  replace z1 := (World.cell?_setCell_far w2 ⟨w.heap.size, 1, none⟩ ⟨w.heap.size + 1, 1, none⟩ (.slice A1 g.s.who.length c1) (by dsimp only; omega)).trans z1
  replace z2 := (World.cell?_setCell_far w2 ⟨w.heap.size, 1, none⟩ ⟨w.heap.size + 1, 2, none⟩ (.slice A1 g.s.who.length c1) (by dsimp only; omega)).trans z2
  replace z3 := (World.cell?_setCell_far w2 ⟨w.heap.size, 1, none⟩ ⟨w.heap.size + 1, 3, none⟩ (.slice A1 g.s.who.length c1) (by dsimp only; omega)).trans z3
  replace z4 := (World.cell?_setCell_far w2 ⟨w.heap.size, 1, none⟩ ⟨w.heap.size + 1, 4, none⟩ (.slice A1 g.s.who.length c1) (by dsimp only; omega)).trans z4
  replace z5 := (World.cell?_setCell_far w2 ⟨w.heap.size, 1, none⟩ ⟨w.heap.size + 1, 5, none⟩ (.slice A1 g.s.who.length c1) (by dsimp only; omega)).trans z5
  replace zF := frz_set (p := ⟨w.heap.size, 1, none⟩) (v := .slice A1 g.s.who.length c1) zF
  generalize hw_w3 : w2.setCell ⟨w.heap.size, 1, none⟩ (.slice A1 g.s.who.length c1) = w3 at *
  have hbw3 : Below w.heap.size w w3 := hw_w3 ▸ hbw2.setCell (p := ⟨w.heap.size, 1, none⟩) (Nat.le_refl _) _
  have hz3 : w3.heap.size = w2.heap.size := by rw [← hw_w3]; simp [World.setCell]
  have hs3 : Seq w3 w3.heap.size 1 A' g.yes.length (cellsS g.yes) := (hs'.below hbw3).more hbw3.size
  have hA3 : w3.ownsRow w1.heap.size 9 1 (.slice A1 g.s.who.length c1) g.s.who.length (cellsS g.s.who) := by
    rw [← hw_w3]
    exact owns_far hA1 (by dsimp only; omega) _
  have hz2 := hb2.size
  clear hw_w3 hA1 hs hs' hb1 hb2 hbw2
  refine (clone_any g.yes A' c' w3 hs3 hl').mono ?_
  rintro e w4 ⟨A2, c2, rfl, hown2⟩
  dsimp only
  replace d0 := (hown2.2.cell (p := ⟨w.heap.size, 0, none⟩) (by dsimp only; omega)).trans d0
  replace d1 := (hown2.2.cell (p := ⟨w.heap.size, 1, none⟩) (by dsimp only; omega)).trans d1
  replace d2 := (hown2.2.cell (p := ⟨w.heap.size, 2, none⟩) (by dsimp only; omega)).trans d2
  replace d3 := (hown2.2.cell (p := ⟨w.heap.size, 3, none⟩) (by dsimp only; omega)).trans d3
  replace d4 := (hown2.2.cell (p := ⟨w.heap.size, 4, none⟩) (by dsimp only; omega)).trans d4
  replace d5 := (hown2.2.cell (p := ⟨w.heap.size, 5, none⟩) (by dsimp only; omega)).trans d5
  replace dF := frz_below hown2.2 (by omega) dF
  replace z0 := (hown2.2.cell (p := ⟨w.heap.size + 1, 0, none⟩) (by dsimp only; omega)).trans z0
  replace z1 := (hown2.2.cell (p := ⟨w.heap.size + 1, 1, none⟩) (by dsimp only; omega)).trans z1
  replace z2 := (hown2.2.cell (p := ⟨w.heap.size + 1, 2, none⟩) (by dsimp only; omega)).trans z2
  replace z3 := (hown2.2.cell (p := ⟨w.heap.size + 1, 3, none⟩) (by dsimp only; omega)).trans z3
  replace z4 := (hown2.2.cell (p := ⟨w.heap.size + 1, 4, none⟩) (by dsimp only; omega)).trans z4
  replace z5 := (hown2.2.cell (p := ⟨w.heap.size + 1, 5, none⟩) (by dsimp only; omega)).trans z5
  replace zF := frz_below hown2.2 (by omega) zF
  have hbw4 := hbw3.trans (hown2.2.mono hbw3.size)
  have hA1 : SeqP w4 (fun b => w1.heap.size ≤ b ∧ b < w3.heap.size) 1 A1 g.s.who.length (cellsS g.s.who) := (seq_lohi hA3).belowS hown2.2 (fun _ h => h.2)
  have hA2 := hown2.1
  have hz4 : w3.heap.size ≤ w4.heap.size := hown2.2.size
  clear hown2 hA3 hs3 hbw3
  repeat' ((fail_if_success at_builtin); (first | go_skip | go_guarded | go_step))
  refine bodyPost_ret (v := .agg (garr g A1 c1 A2 c2)) (by simp only [results, Tryd.results27]; go_simp; try (first | rfl | exact ⟨rfl, rfl, rfl, rfl, rfl, rfl⟩)) rfl ?_
  exact ⟨A1, c1, A2, c2, w3.heap.size, rfl, (((((((hbw4).setCell (p := ⟨w.heap.size, 4, none⟩) (by dsimp only; omega) _).setCell (p := ⟨w.heap.size + 1, 0, none⟩) (by dsimp only; omega) _).setCell (p := ⟨w.heap.size + 1, 1, none⟩) (by dsimp only; omega) _).setCell (p := ⟨w.heap.size + 1, 2, none⟩) (by dsimp only; omega) _).setCell (p := ⟨w.heap.size + 1, 3, none⟩) (by dsimp only; omega) _).setCell (p := ⟨w.heap.size + 1, 4, none⟩) (by dsimp only; omega) _).setCell (p := ⟨w.heap.size + 1, 5, none⟩) (by dsimp only; omega) _, by omega, by simp only [World.setCell, Array.size_modify]; exact hz4, (((((((hA1.imp (fun b hb => (⟨by omega, hb.2⟩ : w.heap.size + 2 ≤ b ∧ b < w3.heap.size))).set (p := ⟨w.heap.size, 4, none⟩) (by dsimp only; omega) _).set (p := ⟨w.heap.size + 1, 0, none⟩) (by dsimp only; omega) _).set (p := ⟨w.heap.size + 1, 1, none⟩) (by dsimp only; omega) _).set (p := ⟨w.heap.size + 1, 2, none⟩) (by dsimp only; omega) _).set (p := ⟨w.heap.size + 1, 3, none⟩) (by dsimp only; omega) _).set (p := ⟨w.heap.size + 1, 4, none⟩) (by dsimp only; omega) _).set (p := ⟨w.heap.size + 1, 5, none⟩) (by dsimp only; omega) _ |>.imp (fun b hb => ⟨by omega, hb.2⟩), owns_far (p := ⟨w.heap.size + 1, 5, none⟩) (owns_far (p := ⟨w.heap.size + 1, 4, none⟩) (owns_far (p := ⟨w.heap.size + 1, 3, none⟩) (owns_far (p := ⟨w.heap.size + 1, 2, none⟩) (owns_far (p := ⟨w.heap.size + 1, 1, none⟩) (owns_far (p := ⟨w.heap.size + 1, 0, none⟩) (owns_far (p := ⟨w.heap.size, 4, none⟩) (hA2) (by dsimp only; omega) _) (by dsimp only; omega) _) (by dsimp only; omega) _) (by dsimp only; omega) _) (by dsimp only; omega) _) (by dsimp only; omega) _) (by dsimp only; omega) _⟩
end Go.Proofs.YtionchkblgpklaaDoor
