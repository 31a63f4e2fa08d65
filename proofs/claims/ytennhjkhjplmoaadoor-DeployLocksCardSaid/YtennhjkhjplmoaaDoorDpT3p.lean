/- Deploy: Locks: expected: what the walks share. -/
import Derived.Test.YtennhjkhjplmoaaDoorDpT2
import Derived.Test.YtennhjkhjplmoaaDoorDpAp
namespace Go.Proofs.YtennhjkhjplmoaaDoor
open Go.RowKit
/-- two turns in memory, in the blocks S -/
structure TwoS (S : Nat → Prop) (w : World) (p : Turn × Turn) (A1 : Option Addr) (c1 : Nat) (A2 : Option Addr) (c2 : Nat) (B1 : Option Addr) (d1 : Nat) (B2 : Option Addr) (d2 : Nat) : Prop where
  w1 : RSlice rB 1 w S A1 p.1.waiting.length c1 p.1.waiting
  h1 : RSlice rB 1 w S A2 p.1.held.length c2 p.1.held
  w2 : RSlice rB 1 w S B1 p.2.waiting.length d1 p.2.waiting
  h2 : RSlice rB 1 w S B2 p.2.held.length d2 p.2.held
theorem TwoS.move {S S' : Nat → Prop} {w w' : World} {p : Turn × Turn} {A1 : Option Addr} {c1 : Nat} {A2 : Option Addr} {c2 : Nat} {B1 : Option Addr} {d1 : Nat} {B2 : Option Addr} {d2 : Nat} (h : TwoS S w p A1 c1 A2 c2 B1 d1 B2 d2) (hk : ∀ a : Addr, S a.block → w'.cell? a = w.cell? a) (hS : ∀ b, S b → S' b) : TwoS S' w' p A1 c1 A2 c2 B1 d1 B2 d2 := ⟨RSlice.map_ rB_ok hk hS h.w1, RSlice.map_ rB_ok hk hS h.h1, RSlice.map_ rB_ok hk hS h.w2, RSlice.map_ rB_ok hk hS h.h2⟩
/-- not in the boxes a .. b -/
def NB (S : Nat → Prop) (a b : Nat) (w : World) (x : Nat) : Prop := x < w.heap.size ∧ (x < a ∧ S x ∨ b ≤ x)
abbrev SL (S : Nat → Prop) (a b : Nat) (w : World) (A : Option Addr) (n c : Nat) (l : List ByteArray) : Prop := RSlice rB 1 w (NB S a b w) A n c l
section
variable {S : Nat → Prop} {a b n c : Nat} {w w' w0 : World} {A : Option Addr} {l : List ByteArray}
theorem SL.up (h : SL S a b w A n c l) (hb : Below w.heap.size w w') : SL S a b w' A n c l := RSlice.map_ rB_ok (fun _ hp => hb.cell hp.1) (fun _ hp => ⟨Nat.lt_of_lt_of_le hp.1 hb.size, hp.2⟩) h
theorem SL.set {g o : Nat} {v : Value} (h : SL S a b w A n c l) (h1 : a ≤ g) (h2 : g < b) : SL S a b (w.setCell ⟨g, o, none⟩ v) A n c l :=
  RSlice.map_ rB_ok (fun p hp => World.cell?_setCell_far w ⟨g, o, none⟩ p v (fun e => by have := hp.2; simp only at e; omega)) (fun _ hp => ⟨by simpa [World.setCell] using hp.1, hp.2⟩) h
theorem szset {w : World} {n : Nat} {p : Addr} {v : Value} (h : n ≤ w.heap.size) : n ≤ (w.setCell p v).heap.size := by simpa [World.setCell] using h
theorem SL.old (h : RSlice rB 1 w S A n c l) (hS : ∀ x, S x → x < w.heap.size) (hb : Below w.heap.size w w') : SL S w.heap.size b w' A n c l := RSlice.map_ rB_ok (fun _ hp => hb.cell (hS _ hp)) (fun _ hp => ⟨Nat.lt_of_lt_of_le (hS _ hp) hb.size, Or.inl ⟨hS _ hp, hp⟩⟩) h
theorem SL.new (h : RSlice rB 1 w (fun x => w0.heap.size ≤ x ∧ x < w.heap.size) A n c l) (hb : b ≤ w0.heap.size) : SL S a b w A n c l := h.more rB_ok (fun _ hp => ⟨hp.2, Or.inr (Nat.le_trans hb hp.1)⟩)
theorem SL.fin (h : SL S a b w A n c l) : RSlice rB 1 w (fun b => b < w.heap.size) A n c l := h.more rB_ok (fun _ hp => hp.1)
theorem SL.out (h : SL S a b w A n c l) (hab : a ≤ b) : RSlice rB 1 w (fun x => x < w.heap.size ∧ (S x ∨ a ≤ x)) A n c l := h.more rB_ok (fun _ hp => ⟨hp.1, hp.2.elim (fun h => Or.inl h.2) (fun h => Or.inr (Nat.le_trans hab h))⟩)
end
theorem strS_at {w : World} {S : Nat → Prop} {A : Option Addr} {n c : Nat} {l : List ByteArray} {x : ByteArray} (h : RSlice rB 1 w S A n c l) (hx : l[0]? = some x) : ∃ b o, A = some ⟨b, o, none⟩ ∧ S b ∧ w.cell? ⟨b, o, none⟩ = some (.string x) := by
  obtain ⟨b, o, h1, h2, h3⟩ := strB_at h hx
  exact ⟨b, o, h1, h2, h3⟩
end Go.Proofs.YtennhjkhjplmoaaDoor
