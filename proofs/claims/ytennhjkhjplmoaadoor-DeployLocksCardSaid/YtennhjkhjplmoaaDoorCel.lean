/- A block of cells that a call owns or reads: its cells as a list. For any program. -/
import Derived.Test.YtennhjkhjplmoaaDoorMem
import Derived.Lib.BufferOwn
namespace Go.Proofs.YtennhjkhjplmoaaDoor
open Go.RowKit
/-- block g holds these cells, and may be written -/
structure CellsAt (w : World) (g : Nat) (cs : List Value) : Prop where
  lt : g < w.heap.size
  cell : ∀ (j : Nat) (u : Value), cs[j]? = some u → w.cell? ⟨g, j, none⟩ = some u
  fr : ∀ j, w.frozen? ⟨g, j, none⟩ = false
section
variable {w w' : World} {g : Nat} {cs : List Value}
theorem CellsAt.kept (h : CellsAt w g cs) (hb : Below w.heap.size w w') : CellsAt w' g cs :=
  ⟨Nat.lt_of_lt_of_le h.lt hb.size, fun j u hu => (hb.cell (p := ⟨g, j, none⟩) h.lt).trans (h.cell j u hu), fun j => (hb.frozen (p := ⟨g, j, none⟩) h.lt).trans (h.fr j)⟩
theorem CellsAt.grow {r : Nat} (h : CellsAt w g cs) (hg : w.grownBy w' (some r)) (hne : g ≠ r) : CellsAt w' g cs := by
  have hb := hg.block g h.lt (fun e => hne (by injection e))
  exact ⟨Nat.lt_of_lt_of_le h.lt hg.size, fun j u hu => (World.cell?_of_block (a := ⟨g, j, none⟩) hb).trans (h.cell j u hu), fun j => (World.frozen?_of_block (a := ⟨g, j, none⟩) hb).trans (h.fr j)⟩
theorem CellsAt.set (h : CellsAt w g cs) (j : Nat) (v : Value) : CellsAt (w.setCell ⟨g, j, none⟩ v) g (cs.set j v) := by
  refine ⟨by simpa [World.setCell] using h.lt, fun i u hu => ?_, fun i => by rw [World.frozen?_setCell]; exact h.fr i⟩
  rw [List.getElem?_set] at hu
  split at hu
  · rename_i hij
    subst hij
    split at hu
    · rename_i hl
      cases hu
      exact World.cell?_setCell_same w ⟨g, j, none⟩ v (h.cell j _ (List.getElem?_eq_getElem hl))
    · cases hu
  · rename_i hij
    rw [World.cell?_setCell_other w _ _ _ (by intro e; injection e with _ e; exact hij e)]
    exact h.cell i u hu
theorem CellsAt.drew (h : CellsAt w g cs) : CellsAt w.drew g cs := ⟨h.lt, h.cell, h.fr⟩
theorem CellsAt.new (w : World) (cs : Array Value) (t : TypeId) : CellsAt (w.alloc (.cells cs t)) w.heap.size cs.toList :=
  ⟨by simp, fun j u hu => by
    have : cs[j]? = some u := by simpa using hu
    simp [go_sem, this], fun j => by simp [go_sem]⟩
theorem growDrew {row : Option Nat} (h : w.grownBy w' row) : w.grownBy w'.drew row := ⟨h.os, h.tape, h.output, h.size, h.block⟩
theorem growBelow {row : Option Nat} (h : Below w.heap.size w w') : w.grownBy w' row := ⟨h.os, h.tape, h.output, h.size, fun k hk _ => h.block k hk⟩
end
/-- blocks of a call's own, with their cells -/
structure OwnB (w0 w : World) (L : List (Nat × List Value)) : Prop where
  below : Below w0.heap.size w0 w
  all : ∀ (i b : Nat) (cs : List Value), L[i]? = some (b, cs) → w0.heap.size ≤ b ∧ CellsAt w b cs
  ne : ∀ (i j b c : Nat) (x y : List Value), L[i]? = some (b, x) → L[j]? = some (c, y) → i ≠ j → b ≠ c
section
variable {w0 w w' : World} {L : List (Nat × List Value)}
theorem OwnB.refl (w : World) : OwnB w w [] := ⟨Below.refl _ _, fun i b cs h => (by simp at h), fun i j b c x y h => by simp at h⟩
theorem OwnB.of (h : Below w0.heap.size w0 w) : OwnB w0 w [] := ⟨h, fun i b cs h => (by simp at h), fun i j b c x y h => by simp at h⟩
theorem OwnB.kept (h : OwnB w0 w L) (hb : Below w.heap.size w w') : OwnB w0 w' L :=
  ⟨h.below.trans (hb.mono h.below.size), fun i b cs hi => ⟨(h.all i b cs hi).1, (h.all i b cs hi).2.kept hb⟩, h.ne⟩
theorem OwnB.push (h : OwnB w0 w L) {g : Nat} {cs : List Value} (hg : w0.heap.size ≤ g) (hc : CellsAt w g cs) (hne : ∀ (i b : Nat) (x : List Value), L[i]? = some (b, x) → b ≠ g) : OwnB w0 w ((g, cs) :: L) := by
  refine ⟨h.below, fun i b x hi => ?_, fun i j b c x y hi hj hij => ?_⟩
  · cases i with
    | zero => simp at hi; obtain ⟨rfl, rfl⟩ := hi; exact ⟨hg, hc⟩
    | succ i => exact h.all i b x (by simpa using hi)
  · cases i with
    | zero =>
      simp at hi
      obtain ⟨rfl, rfl⟩ := hi
      cases j with
      | zero => exact absurd rfl hij
      | succ j => exact (hne j c y (by simpa using hj)).symm
    | succ i =>
      cases j with
      | zero =>
        simp at hj
        obtain ⟨rfl, rfl⟩ := hj
        exact hne i b x (by simpa using hi)
      | succ j => exact h.ne i j b c x y (by simpa using hi) (by simpa using hj) (fun e => hij (by rw [e]))
theorem OwnB.new (h : OwnB w0 w L) (cs : Array Value) (t : TypeId) {g : Nat} (hg : g = w.heap.size := by simp) : OwnB w0 (w.alloc (.cells cs t)) ((g, cs.toList) :: L) := by
  subst hg
  exact (h.kept ((Below.refl _ _).alloc (Nat.le_refl _) _)).push h.below.size (CellsAt.new w cs t) fun i b x hi => Nat.ne_of_lt (h.all i b x hi).2.lt
theorem OwnB.store (h : OwnB w0 w L) (i : Nat) {g : Nat} {cs : List Value} (hi : L[i]? = some (g, cs)) (j : Nat) (v : Value) : OwnB w0 (w.setCell ⟨g, j, none⟩ v) (L.set i (g, cs.set j v)) := by
  obtain ⟨h1, h2⟩ := h.all i g cs hi
  refine ⟨h.below.setCell (p := ⟨g, j, none⟩) h1 v, fun k b x hk => ?_, fun k l b c x y hk hl hkl => ?_⟩
  · rw [List.getElem?_set] at hk
    split at hk
    · split at hk
      · cases hk; exact ⟨h1, h2.set j v⟩
      · cases hk
    · rename_i hik
      obtain ⟨g1, g2⟩ := h.all k b x hk
      exact ⟨g1, g2.grow (Lib.grownBy_setB (World.grownBy.refl _ _) _ _) (fun e => h.ne i k g b cs x hi hk hik e.symm)⟩
  · rw [List.getElem?_set] at hk hl
    have key : ∀ (k b : Nat) (x : List Value), (if i = k then if i < L.length then some (g, cs.set j v) else none else L[k]?) = some (b, x) → ∃ x', L[k]? = some (b, x') := by
      intro k b x hk
      split at hk
      · rename_i hik
        subst hik
        split at hk
        · cases hk; exact ⟨cs, hi⟩
        · cases hk
      · exact ⟨x, hk⟩
    obtain ⟨x', hk'⟩ := key k b x hk
    obtain ⟨y', hl'⟩ := key l c y hl
    exact h.ne k l b c x' y' hk' hl' hkl
theorem OwnB.c (h : OwnB w0 w L) (i j : Nat) {g : Nat} {cs : List Value} {u : Value} (hi : L[i]? = some (g, cs) := by rfl) (hj : cs[j]? = some u := by rfl) : w.cell? ⟨g, j, none⟩ = some u := (h.all i g cs hi).2.cell j u hj
theorem OwnB.fr (h : OwnB w0 w L) (i : Nat) {g : Nat} {cs : List Value} (hi : L[i]? = some (g, cs) := by rfl) : ∀ j, w.frozen? ⟨g, j, none⟩ = false := (h.all i g cs hi).2.fr
theorem OwnB.drop1 {p : Nat × List Value} (h : OwnB w0 w (p :: L)) : OwnB w0 w L :=
  ⟨h.below, fun i b cs hi => h.all (i + 1) b cs (by simpa using hi), fun i j b c x y hi hj hij => h.ne (i + 1) (j + 1) b c x y (by simpa using hi) (by simpa using hj) (by omega)⟩
theorem OwnB.drew (h : OwnB w0 w L) : OwnB w0 w.drew L := ⟨h.below.drew, fun i b cs hi => ⟨(h.all i b cs hi).1, (h.all i b cs hi).2.drew⟩, h.ne⟩
theorem OwnB.lt (h : OwnB w0 w L) (i : Nat) {g : Nat} {cs : List Value} (hi : L[i]? = some (g, cs) := by rfl) : g < w.heap.size := (h.all i g cs hi).2.lt
theorem OwnB.lo (h : OwnB w0 w L) (i : Nat) {g : Nat} {cs : List Value} (hi : L[i]? = some (g, cs) := by rfl) : w0.heap.size ≤ g := (h.all i g cs hi).1
theorem OwnB.ne' (h : OwnB w0 w L) (i j : Nat) {g k : Nat} {x y : List Value} (hi : L[i]? = some (g, x) := by rfl) (hj : L[j]? = some (k, y) := by rfl) (hij : i ≠ j := by decide) : g ≠ k := h.ne i j g k x y hi hj hij
end
end Go.Proofs.YtennhjkhjplmoaaDoor
