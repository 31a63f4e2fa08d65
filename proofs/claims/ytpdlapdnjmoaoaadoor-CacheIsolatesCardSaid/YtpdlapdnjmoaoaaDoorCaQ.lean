/- Cache: room. -/
import Derived.Test.YtpdlapdnjmoaoaaDoorCaO
import Derived.Test.YtpdlapdnjmoaoaaDoorCaR
namespace Go.Proofs.YtpdlapdnjmoaoaaDoor
open Go.RowKit
theorem own_any {w : World} {base : Nat} {e : TypeId} {size n : Nat} {v : Value} {xs : List Value} (h : w.ownsRow base e size v n xs) (hb : base ≤ w.heap.size) : ∃ W0 : World, W0.heap.size = base ∧ Own W0 w e size v n xs := by
  have hz : (w.heap.extract 0 base).size = base := by rw [Array.size_extract]; omega
  refine ⟨{ w with heap := w.heap.extract 0 base }, hz, ?_, ⟨rfl, rfl, rfl, ?_, fun k hk => ?_⟩⟩
  · show w.ownsRow (w.heap.extract 0 base).size e size v n xs
    rw [hz]; exact h
  · show (w.heap.extract 0 base).size ≤ w.heap.size
    omega
  · have hk' : k < (w.heap.extract 0 base).size := hk
    show w.heap[k]? = (w.heap.extract 0 base)[k]?
    rw [Array.getElem?_extract]
    simp
    omega
/-- all blocks below B but one are as they were -/
structure KeepBut (B cb : Nat) (w w' : World) : Prop where
  os : w'.os = w.os
  tape : w'.tape = w.tape
  output : w'.output = w.output
  size : w.heap.size ≤ w'.heap.size
  block : ∀ k, k < B → k ≠ cb → w'.heap[k]? = w.heap[k]?
theorem KeepBut.refl (B cb : Nat) (w : World) : KeepBut B cb w w := ⟨rfl, rfl, rfl, Nat.le_refl _, fun _ _ _ => rfl⟩
theorem KeepBut.trans {B cb : Nat} {a b c : World} (h : KeepBut B cb a b) (h2 : KeepBut B cb b c) : KeepBut B cb a c := ⟨h2.os.trans h.os, h2.tape.trans h.tape, h2.output.trans h.output, Nat.le_trans h.size h2.size, fun k h1 h3 => (h2.block k h1 h3).trans (h.block k h1 h3)⟩
theorem KeepBut.below {B cb : Nat} {w w' : World} {B' : Nat} (h : Below B' w w') (hB : B ≤ B') : KeepBut B cb w w' := ⟨h.os, h.tape, h.output, h.size, fun k hk _ => h.block k (by omega)⟩
theorem KeepBut.grown {B cb g : Nat} {w w' : World} (h : w.grownBy w' (some g)) (hg : B ≤ g) (hB : B ≤ w.heap.size) : KeepBut B cb w w' := ⟨h.os, h.tape, h.output, h.size, fun k hk _ => h.block k (by omega) (fun e => by injection e with e; omega)⟩
theorem KeepBut.setCell {B cb j : Nat} {w : World} (u : Value) : KeepBut B cb w (w.setCell ⟨cb, j, none⟩ u) := ⟨rfl, rfl, rfl, by simp [World.setCell], fun k _ hk => heap_setCell_other w ⟨cb, j, none⟩ k u (fun e => hk e)⟩
theorem KeepBut.cell {B cb : Nat} {w w' : World} (h : KeepBut B cb w w') {p : Addr} (h1 : p.block < B) (h2 : p.block ≠ cb) : w'.cell? p = w.cell? p := World.cell?_of_block (h.block p.block h1 h2)
theorem KeepBut.frozen {B cb : Nat} {w w' : World} (h : KeepBut B cb w w') {p : Addr} (h1 : p.block < B) (h2 : p.block ≠ cb) : w'.frozen? p = w.frozen? p := World.frozen?_of_block (h.block p.block h1 h2)
theorem KeepBut.toBelow {B cb B' : Nat} {w w' : World} (h : KeepBut B cb w w') (h1 : B' ≤ cb) (h2 : cb < B) : Below B' w w' := ⟨h.os, h.tape, h.output, h.size, fun k hk => h.block k (by omega) (by omega)⟩
/-- few entries, none of a negative size -/
structure SizeOk (l : List Ent) : Prop where
  len : l.length ≤ 1024
  size : ∀ x ∈ l, 0 ≤ x.size ∧ x.size ≤ 1099511627776
theorem SizeOk.erase {l : List Ent} (h : SizeOk l) (i : Nat) : SizeOk (l.eraseIdx i) := ⟨Nat.le_trans (List.length_eraseIdx_le _ _) h.len, fun x hx => h.size x (List.mem_of_mem_eraseIdx hx)⟩
theorem usedF_bound : ∀ (l : List Ent) (n : Int) (k : Nat), (∀ x ∈ l, 0 ≤ x.size ∧ x.size ≤ 1099511627776) → 0 ≤ n → n ≤ 1099511627776 * (k : Int) → k + l.length ≤ 4096 → 0 ≤ usedF l n ∧ usedF l n ≤ 1099511627776 * ((k + l.length : Nat) : Int)
  | [], n, k, _, h1, h2, _ => ⟨h1, by simpa [usedF] using h2⟩
  | x :: l, n, k, hx, h1, h2, h3 => by
    have hx0 := hx x (by simp)
    have hs : satI (n + x.size) = n + x.size := by
      unfold satI
      simp at h3
      rw [if_neg (by omega), if_neg (by omega)]
    rw [usedF, hs]
    simp at h3
    have := usedF_bound l (n + x.size) (k + 1) (fun y hy => hx y (by simp [hy])) (by omega) (by omega) (by omega)
    rw [show k + (x :: l).length = k + 1 + l.length from by simp; omega]
    exact this
theorem used_bound {l : List Ent} (h : SizeOk l) : 0 ≤ usedS l ∧ usedS l ≤ 1125899906842624 := by
  have := usedF_bound l 0 0 h.size (by omega) (by omega) (by have := h.len; omega)
  have h2 := h.len
  unfold usedS
  omega
def fullS (z s : Int) (l : List Ent) : Bool := decide (1024 ≤ l.length) || decide (z < usedS l + s)
def roomF : Nat → Int → Int → List Ent → List Ent
  | 0, _, _, l => l
  | k + 1, z, s, l => if fullS z s l then roomF k z s (l.eraseIdx (oldS l)) else l
def roomS (z s : Int) (l : List Ent) : List Ent := roomF (l.length + 1) z s l
theorem full_nil {z s : Int} (h : s ≤ z) : fullS z s [] = false := by
  simp [fullS, usedS, usedF]
  omega
theorem roomF_more : ∀ (k m : Nat) (z s : Int) (l : List Ent), s ≤ z → l.length < k → l.length < m → roomF k z s l = roomF m z s l
  | 0, _, _, _, _, _, h, _ => by omega
  | _, 0, _, _, _, _, _, h => by omega
  | k + 1, m + 1, z, s, l, hz, h1, h2 => by
    unfold roomF
    split
    · rename_i hf
      have hl : 0 < l.length := by
        cases l with
        | nil => rw [full_nil hz] at hf; cases hf
        | cons => simp
      have hE := List.length_eraseIdx_of_lt (oldS_lt hl)
      exact roomF_more k m z s _ hz (by omega) (by omega)
    · rfl
theorem room_step {z s : Int} {l : List Ent} (hz : s ≤ z) (h : fullS z s l = true) : roomS z s l = roomS z s (l.eraseIdx (oldS l)) := by
  have hl : 0 < l.length := by
    cases l with
    | nil => rw [full_nil hz] at h; cases h
    | cons => simp
  have hE := List.length_eraseIdx_of_lt (oldS_lt hl)
  unfold roomS
  rw [roomF, if_pos h]
  exact roomF_more _ _ _ _ _ hz (by omega) (by omega)
theorem room_stop {z s : Int} {l : List Ent} (h : fullS z s l = false) : roomS z s l = l := by
  unfold roomS
  rw [roomF, if_neg (by rw [h]; simp)]
end Go.Proofs.YtpdlapdnjmoaoaaDoor
