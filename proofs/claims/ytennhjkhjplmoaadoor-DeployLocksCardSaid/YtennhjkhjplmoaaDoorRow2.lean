/- Rows of structs with what lies behind them: appends, stores. For any program. -/
import Derived.Test.YtennhjkhjplmoaaDoorRow
import Derived.Test.YtennhjkhjplmoaaDoorCel
namespace Go.Proofs.YtennhjkhjplmoaaDoor
open Go.RowKit
/-- a reading whose cells are single -/
def RdOne {α : Type} (r : Rd α) : Prop := ∀ (w : World) (S : Nat → Prop) (x : α) (cs : List Value), r w S x cs → ∀ u ∈ cs, u.oneCell' = true
section
variable {P : Program} {ops : Array Oper} {rest : List Oper} {o : Oper} {a : Act} {Q : Exit → Act → World → Prop} {α : Type} {r : Rd α} {sz : Nat} {w0 w wb w' : World} {e : TypeId} {v : Value} {l m : List α} {A : Option Addr} {n c : Nat}
/-- append of one struct that the walk has just laid in a block of its own -/
theorem wp_appR1 (hr : RdOk r) (H : OwnR r sz w0 w e v l) (hb : Below w.heap.size w wb) {x : α} {cs : Array Value} (hx : r wb (Beh wb v) x cs.toList) {t : TypeId} {z : Value} {bytes : Nat} (ht : P.underlying t = some (.slice e)) (hi : Info P e z sz bytes)
    (hbytes : (l.length + 1) * bytes ≤ 140737488355328)
    (h : ∀ v' w', OwnR r sz w0 w' e v' (l ++ [x]) → wpList P ops Q rest (a.put o.dst v') w')
    {s y : Operand} {g : Nat} (hgd : o.guard = none := by rfl) (ho : o.op = .call { callee := .builtin .append, args := #[s, y], argTypes := #[t, t] } := by rfl)
    (hs : a.eval s = v := by rfl) (hy : a.eval y = .slice (some ⟨g, 0, none⟩) 1 1 := by rfl) (hgs : g = wb.heap.size := by first | rfl | simp) (hzs : z.cells.size = sz := by rfl) (hsz : 0 < sz := by decide) (hby : 0 < bytes := by decide)
    (hcs : cs.size = sz := by rfl) (h1 : cs.toList.all Value.oneCell' = true := by rfl) :
    wpList P ops Q (o :: rest) a (wb.alloc (.cells cs e)) := by
  obtain ⟨ds, H1, H2⟩ := H.below hr hb
  have hba := (Below.refl wb.heap.size wb).alloc (Nat.le_refl _) (.cells cs e)
  have hlt : ∀ b, Beh wb v b → Beh (wb.alloc (.cells cs e)) v b := fun b hb => ⟨Nat.lt_of_lt_of_le hb.1 hba.size, hb.2⟩
  refine wp_app1 H1 ht hi hbytes (fun v' w' hO hg => ?_) hgd ho hs hy hgs hzs hsz hby hcs h1
  refine h v' w' (OwnR.grew hr (wa := wb.alloc (.cells cs e)) (by rw [List.length_append]; exact hO) hg (RList.map (fun x c hc => hr _ _ _ _ x c (fun p hp => hba.cell hp.1) hlt hc) H2) (RList.one (hr _ _ _ _ x _ (fun p hp => hba.cell hp.1) hlt hx) (by simpa using hcs)))
/-- append of a slice of structs that is read only -/
theorem wp_appRS (hr : RdOk r) (h1 : RdOne r) (H : OwnR r sz w0 w e v l) (hb : Below w.heap.size w wb) {k : Nat} (hx : RSlice r sz wb (Beh wb v) A k c m) {t : TypeId} {z : Value} {bytes : Nat} (ht : P.underlying t = some (.slice e)) (hi : Info P e z sz bytes)
    (hbytes : (l.length + k) * bytes ≤ 140737488355328)
    (h : ∀ v' w', OwnR r sz w0 w' e v' (l ++ m) → wpList P ops Q rest (a.put o.dst v') w')
    {s y : Operand} (hgd : o.guard = none := by rfl) (ho : o.op = .call { callee := .builtin .append, args := #[s, y], argTypes := #[t, t] } := by rfl)
    (hs : a.eval s = v := by rfl) (hy : a.eval y = .slice A k c := by rfl) (hzs : z.cells.size = sz := by rfl) (hsz : 0 < sz := by decide) (hby : 0 < bytes := by decide) :
    wpList P ops Q (o :: rest) a wb := by
  obtain ⟨ds, H1, H2⟩ := H.below hr hb
  obtain ⟨rfl, hc, hn, cs, hseq, hlist⟩ := hx
  refine wp_appS (B := wb.heap.size) H1 ht hi (hseq.imp fun b hb => hb.1) (RList.one_cell (fun x c hc => h1 _ _ x c hc) hlist) hbytes (fun v' w' hO hg => ?_) hgd ho hs hy hzs hsz hby
  exact h v' w' (OwnR.grew hr (wa := wb) (by rw [List.length_append]; exact hO) hg H2 hlist)
/-- a part of a slice -/
theorem RSlice.take (h : RSlice r sz w (fun b => b < w.heap.size) A n c l) {i : Nat} (hi : i ≤ n) : RSlice r sz w (fun b => b < w.heap.size) A i c (l.take i) := by
  obtain ⟨h1, h2, h3, cs, h4, h5⟩ := h
  refine ⟨by rw [List.length_take]; omega, by omega, h3, cs.take (i * sz), ⟨by rw [List.length_take, h4.1]; exact Nat.min_eq_left (Nat.mul_le_mul_right _ hi), fun hp => ?_⟩, h5.take_ i⟩
  obtain ⟨b, o, hA, hb, hcc⟩ := h4.2 (by omega)
  refine ⟨b, o, hA, hb, fun j u hu => hcc j u ?_⟩
  rw [List.getElem?_take] at hu
  split at hu
  · exact hu
  · cases hu
theorem RSlice.drop (h : RSlice r sz w (fun b => b < w.heap.size) A n c l) {i : Nat} (hi : i ≤ n) : RSlice r sz w (fun b => b < w.heap.size) (if c = i then A else A.map (fun x => x.add (i * sz))) (n - i) (c - i) (l.drop i) := by
  obtain ⟨h1, h2, h3, cs, h4, h5⟩ := h
  refine ⟨by rw [List.length_drop]; omega, by omega, fun hA => ?_, cs.drop (i * sz), Seq.cut h4 hi h2, h5.drop_ i⟩
  by_cases hci : c = i
  · omega
  · rw [if_neg hci] at hA
    cases A with
    | none => have := h3 rfl; omega
    | some a => simp at hA
/-- cells stored into an owned row -/
theorem Own.setCells {g : Nat} (hg : w0.heap.size ≤ g) : ∀ (vs : List Value) (o : Nat) (xs : List Value) (w : World), Own w0 w e sz (.slice (some ⟨g, 0, none⟩) n c) n xs → o + vs.length ≤ xs.length → Own w0 (w.setCells g o vs) e sz (.slice (some ⟨g, 0, none⟩) n c) n (xs.take o ++ vs ++ xs.drop (o + vs.length))
  | [], o, xs, w, H, _ => by
    rw [List.append_nil, List.length_nil, Nat.add_zero, List.take_append_drop]
    exact H
  | u :: vs, o, xs, w, H, hl => by
    have hl' : o < xs.length := by simp at hl; omega
    have := Own.setCells hg vs (o + 1) (xs.set o u) (w.setCell ⟨g, o, none⟩ u) (H.store hg o u) (by simp at hl ⊢; omega)
    have e1 : (xs.set o u).take (o + 1) ++ vs ++ (xs.set o u).drop (o + 1 + vs.length) = xs.take o ++ (u :: vs) ++ xs.drop (o + (u :: vs).length) := by
      have a1 : (xs.set o u).take (o + 1) = xs.take o ++ [u] := by
        rw [List.take_add_one, List.take_set_of_le (Nat.le_refl _), List.getElem?_set_self hl']
        rfl
      rw [a1, List.drop_set_of_lt (by omega), List.length_cons, show o + 1 + vs.length = o + (vs.length + 1) by omega]
      simp
    rw [e1] at this
    exact this
theorem setCells_below {B g : Nat} {a : World} (hg : B ≤ g) : ∀ (vs : List Value) (o : Nat) (w : World), Below B a w → Below B a (w.setCells g o vs)
  | [], _, _, h => h
  | _ :: r, o, _, h => setCells_below hg r (o + 1) _ (h.setCell (p := ⟨g, o, none⟩) hg _)
theorem setCells_size2 (g : Nat) : ∀ (vs : List Value) (o : Nat) (w : World), (w.setCells g o vs).heap.size = w.heap.size
  | [], _, _ => rfl
  | v :: r, o, w => by rw [World.setCells, setCells_size2 g r]; simp [World.setCell]
theorem setCells_far (g : Nat) (vs : List Value) (o : Nat) (w : World) {p : Addr} (hp : p.block ≠ g) : (w.setCells g o vs).cell? p = w.cell? p := World.cell?_setCells_out g vs o w p fun h _ => absurd h hp
/-- one element of an owned row stored anew -/
theorem OwnR.set (hr : RdOk r) {g i : Nat} (H : OwnR r sz w0 w e (.slice (some ⟨g, 0, none⟩) n c) l) (hg : w0.heap.size ≤ g) (hn : n = l.length) {x : α} {vs : List Value} (hi : i < n) (hx : r w (Beh w (.slice (some ⟨g, 0, none⟩) n c)) x vs) (hv : vs.length = sz) :
    OwnR r sz w0 (w.setCells g (i * sz) vs) e (.slice (some ⟨g, 0, none⟩) n c) (l.set i x) := by
  subst hn
  obtain ⟨cs, H1, H2⟩ := H
  have hcl : cs.length = l.length * sz := H1.1.1
  have hle : (i + 1) * sz ≤ l.length * sz := Nat.mul_le_mul_right _ hi
  rw [Nat.add_mul, Nat.one_mul] at hle
  have H3 := Own.setCells hg vs (i * sz) cs w H1 (by omega)
  have H4 := H2.set_ hi hx hv
  rw [hv] at H3
  rw [Nat.add_mul, Nat.one_mul] at H4
  refine ⟨_, by rw [List.length_set]; exact H3, RList.map (fun x c hc => hr _ _ _ _ x c (fun p hp => setCells_far g vs _ w (fun e => hp.2 (by rw [e]; rfl))) (fun b hb => ⟨by rw [setCells_size2]; exact hb.1, hb.2⟩) hc) H4⟩
/-- where an owned slice that is not empty lies -/
theorem OwnR.head (H : OwnR r sz w0 w e (.slice A n c) l) (hn : n = l.length) (h0 : 0 < n) : ∃ g, A = some ⟨g, 0, none⟩ ∧ w0.heap.size ≤ g ∧ g < w.heap.size ∧ (∀ j, w.frozen? ⟨g, j, none⟩ = false) := by
  subst hn
  obtain ⟨cs, H1, _⟩ := H
  obtain ⟨g, h1, h2, h3, _, h5⟩ := H1.head h0
  exact ⟨g, h1, h2, h3, h5⟩
theorem beh_lo (H : OwnR r sz w0 w e v l) {b : Nat} (h1 : w.heap.size ≤ b) (h2 : b < w'.heap.size) : Beh w' v b := ⟨h2, fun e => by
  obtain ⟨ds, H1, _⟩ := H
  have := (H1.1.lt b e.symm).2
  omega⟩
theorem beh_old (H : OwnR r sz w0 w e v l) {b : Nat} (h1 : b < w0.heap.size) : Beh w v b := ⟨Nat.lt_of_lt_of_le h1 H.bel.size, fun e => by
  obtain ⟨ds, H1, _⟩ := H
  have := (H1.1.lt b e.symm).1
  omega⟩
theorem OwnR.size_le (H : OwnR r sz w0 w e (.slice A n c) l) : w0.heap.size ≤ w.heap.size := H.bel.size
end
end Go.Proofs.YtennhjkhjplmoaaDoor
