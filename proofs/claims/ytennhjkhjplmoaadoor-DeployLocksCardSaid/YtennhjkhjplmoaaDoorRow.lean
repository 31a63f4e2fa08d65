/- Lists of structs with what lies behind their slices: rows of a call's own, arguments, parts. -/
import Derived.Test.YtennhjkhjplmoaaDoorRd
namespace Go.Proofs.YtennhjkhjplmoaaDoor
open Go.RowKit
/-- a reading that looks at memory in the blocks of which S says yes, alone -/
def RdOk {α : Type} (r : Rd α) : Prop := ∀ (w w' : World) (S S' : Nat → Prop) (x : α) (cs : List Value), (∀ p : Addr, S p.block → w'.cell? p = w.cell? p) → (∀ b, S b → S' b) → r w S x cs → r w' S' x cs
/-- where what lies behind the elements of an own row may lie -/
abbrev Beh (w : World) (v : Value) (b : Nat) : Prop := b < w.heap.size ∧ some b ≠ v.ownBlock
/-- the slice value v is a row of the call's own (w0: when it began), and reads as l -/
def OwnR {α : Type} (r : Rd α) (sz : Nat) (w0 w : World) (e : TypeId) (v : Value) (l : List α) : Prop :=
  ∃ cs, Own w0 w e sz v l.length cs ∧ RList r sz w (Beh w v) l cs
section
variable {α : Type} {r : Rd α} {sz : Nat} {w0 w w' wa : World} {e : TypeId} {v v' : Value} {l m : List α}
theorem OwnR.nil (w : World) (e : TypeId) : OwnR r sz w w e (.slice none 0 0) [] := ⟨[], Own.nil_ w e sz, rfl⟩
theorem OwnR.empty (w : World) (e : TypeId) : OwnR r sz w (w.alloc (.cells #[] e)) e (.slice (some ⟨w.heap.size, 0, none⟩) 0 0) [] := ⟨[], Own.empty_lit w e sz, rfl⟩
theorem OwnR.bel (h : OwnR r sz w0 w e v l) : Below w0.heap.size w0 w := by
  obtain ⟨_, h, _⟩ := h
  exact h.2
theorem OwnR.up {w1 : World} (hb : Below w0.heap.size w0 w1) (h : OwnR r sz w1 w e v l) : OwnR r sz w0 w e v l := by
  obtain ⟨cs, h1, h2⟩ := h
  exact ⟨cs, Own.up hb h1, h2⟩
theorem OwnR.below (hr : RdOk r) (h : OwnR r sz w0 w e v l) (hb : Below w.heap.size w w') : OwnR r sz w0 w' e v l := by
  obtain ⟨cs, h1, h2⟩ := h
  exact ⟨cs, h1.below hb, RList.map (fun x c hc => hr _ _ _ _ x c (fun p hp => hb.cell hp.1) (fun b hp => ⟨Nat.lt_of_lt_of_le hp.1 hb.size, hp.2⟩) hc) h2⟩
theorem OwnR.form (h : OwnR r sz w0 w e v l) : ∃ A c, v = .slice A l.length c := by
  obtain ⟨_, h, _⟩ := h
  exact h.slice_form
/-- behind an append -/
theorem OwnR.grew (hr : RdOk r) {cs news : List Value} (hO : Own w0 w' e sz v' (l ++ m).length (cs ++ news)) (hg : Grew wa w' v v') (h1 : RList r sz wa (Beh wa v) l cs) (h2 : RList r sz wa (Beh wa v) m news) : OwnR r sz w0 w' e v' (l ++ m) := by
  refine ⟨cs ++ news, hO, RList.map (fun x c hc => hr _ _ _ _ x c (fun p hp => hg.cell hp.1 hp.2) (fun b hb => ⟨Nat.lt_of_lt_of_le hb.1 hg.by_.size, hg.ne hb.1 hb.2⟩) hc) (h1.append h2)⟩
theorem RList.weak (hr : RdOk r) {S S' : Nat → Prop} {cs : List Value} (hS : ∀ b, S b → S' b) (h : RList r sz w S l cs) : RList r sz w S' l cs := RList.map (fun x c hc => hr _ _ _ _ x c (fun _ _ => rfl) hS hc) h
theorem OwnR.slice (hr : RdOk r) {A : Option Addr} {c : Nat} (h : OwnR r sz w0 w e (.slice A l.length c) l) : RSlice r sz w (fun b => b < w.heap.size) A l.length c l := by
  obtain ⟨cs, h1, h2⟩ := h
  refine ⟨rfl, h1.cap_le, ?_, cs, h1.seq, h2.weak hr fun b hb => hb.1⟩
  intro hA
  rcases h1.1.2 with ⟨hv, h0⟩ | ⟨g, cap, cur, hv, _⟩
  · injection hv
  · injection hv with h3; rw [hA] at h3; cases h3
/-- an argument stays what it is -/
theorem RSlice.below (hr : RdOk r) {B : Nat} {A : Option Addr} {n c : Nat} (h : RSlice r sz w (fun b => b < B) A n c l) (hb : Below B w w') : RSlice r sz w' (fun b => b < B) A n c l := by
  obtain ⟨h1, h2, h3, cs, h4, h5⟩ := h
  exact ⟨h1, h2, h3, cs, Seq.below h4 hb, RList.map (fun x c hc => hr _ _ _ _ x c (fun p hp => hb.cell hp) (fun b hp => hp) hc) h5⟩
theorem RSlice.more (hr : RdOk r) {S S' : Nat → Prop} {A : Option Addr} {n c : Nat} (hS : ∀ b, S b → S' b) (h : RSlice r sz w S A n c l) : RSlice r sz w S' A n c l := by
  obtain ⟨h1, h2, h3, cs, h4, h5⟩ := h
  exact ⟨h1, h2, h3, cs, h4.imp hS, h5.weak hr hS⟩
/-- the element at a place -/
theorem RSlice.at_ {S : Nat → Prop} {A : Option Addr} {n c i : Nat} {x : α} (h : RSlice r sz w S A n c l) (hx : l[i]? = some x) :
    ∃ b o c1, A = some ⟨b, o, none⟩ ∧ S b ∧ c1.length = sz ∧ r w S x c1 ∧ ∀ j u, c1[j]? = some u → w.cell? ⟨b, o + i * sz + j, none⟩ = some u := by
  obtain ⟨h1, h2, h3, cs, h4, h5⟩ := h
  have hi := (List.getElem?_eq_some_iff.1 hx).1
  obtain ⟨b, o, rfl, hb, hc⟩ := h4.2 (by omega)
  obtain ⟨c1, g1, g2, g3⟩ := h5.at_ hx
  exact ⟨b, o, c1, rfl, hb, g1, g2, fun j u hu => by rw [Nat.add_assoc]; exact hc _ u (g3 j u hu)⟩
theorem RList.drop_ : ∀ {l : List α} {cs : List Value} {S : Nat → Prop} (i : Nat), RList r sz w S l cs → RList r sz w S (l.drop i) (cs.drop (i * sz))
  | l, cs, S, 0, h => by simpa using h
  | [], cs, S, i + 1, h => by cases h; simp [RList]
  | x :: l, cs, S, i + 1, h => by
    obtain ⟨c1, c2, rfl, h1, _, h3⟩ := h
    have := RList.drop_ i h3
    rw [List.drop_succ_cons]
    have e : (c1 ++ c2).drop ((i + 1) * sz) = c2.drop (i * sz) := by
      rw [List.drop_append, Nat.add_mul, Nat.one_mul, List.drop_of_length_le (by omega), List.nil_append, h1]
      congr 1
      omega
    rw [e]
    exact this
theorem RList.take_ : ∀ {l : List α} {cs : List Value} {S : Nat → Prop} (i : Nat), RList r sz w S l cs → RList r sz w S (l.take i) (cs.take (i * sz))
  | l, cs, S, 0, h => by simp [RList]
  | [], cs, S, i + 1, h => by cases h; simp [RList]
  | x :: l, cs, S, i + 1, h => by
    obtain ⟨c1, c2, rfl, h1, h2, h3⟩ := h
    have := RList.take_ i h3
    rw [List.take_succ_cons]
    have e : (c1 ++ c2).take ((i + 1) * sz) = c1 ++ c2.take (i * sz) := by
      rw [List.take_append, Nat.add_mul, Nat.one_mul, List.take_of_length_le (by omega), h1]
      congr 2
      omega
    rw [e]
    exact ⟨c1, _, rfl, h1, h2, this⟩
theorem RList.one_inv {x : α} {S : Nat → Prop} {cs : List Value} (h : RList r sz w S [x] cs) : r w S x cs ∧ cs.length = sz := by
  obtain ⟨c1, c2, rfl, h1, h2, h3⟩ := h
  cases h3
  rw [List.append_nil]
  exact ⟨h2, h1⟩
/-- one element's cells replaced -/
theorem RList.set_ {x : α} {S : Nat → Prop} {cs ds : List Value} {i : Nat} (h : RList r sz w S l cs) (hi : i < l.length) (hx : r w S x ds) (hd : ds.length = sz) : RList r sz w S (l.set i x) (cs.take (i * sz) ++ ds ++ cs.drop ((i + 1) * sz)) := by
  rw [List.set_eq_take_append_cons_drop, if_pos hi]
  have h1 := h.take_ i
  have h2 := h.drop_ (i + 1)
  have h3 : RList r sz w S ([x] ++ l.drop (i + 1)) (ds ++ cs.drop ((i + 1) * sz)) := (RList.one hx hd).append h2
  have := h1.append h3
  rw [← List.append_assoc (List.take (i * sz) cs)] at this
  exact this
end
end Go.Proofs.YtennhjkhjplmoaaDoor
