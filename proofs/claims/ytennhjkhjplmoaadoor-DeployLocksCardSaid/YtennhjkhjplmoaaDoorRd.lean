/- Lists of structs in memory: what a slice of elements of several cells reads as; arguments opened so. -/
import Derived.Test.YtennhjkhjplmoaaDoorRows
import Derived.Test.YtennhjkhjplmoaaDoorOpen
namespace Go.Proofs.YtennhjkhjplmoaaDoor
open Go.ChangeShapes Go.WideShapes Go.ChangeAt Go.RowKit

/-- what the cells of one value read as -/
abbrev Rd (α : Type) := World → (Nat → Prop) → α → List Value → Prop
/-- the cells of elements, one behind the other -/
def RList {α : Type} (r : Rd α) (sz : Nat) (w : World) (S : Nat → Prop) : List α → List Value → Prop
  | [], cs => cs = []
  | x :: xs, cs => ∃ c1 c2, cs = c1 ++ c2 ∧ c1.length = sz ∧ r w S x c1 ∧ RList r sz w S xs c2
section
variable {α : Type} {r : Rd α} {sz : Nat} {w w' : World} {S S' : Nat → Prop}
theorem RList.length : ∀ {l : List α} {cs : List Value}, RList r sz w S l cs → cs.length = l.length * sz
  | [], _, h => by cases h; simp
  | x :: xs, cs, h => by
    obtain ⟨c1, c2, rfl, h1, _, h2⟩ := h
    have := RList.length h2
    simp only [List.length_append, List.length_cons, h1, this, Nat.add_mul]; omega
theorem RList.map (hr : ∀ x cs, r w S x cs → r w' S' x cs) : ∀ {l : List α} {cs : List Value}, RList r sz w S l cs → RList r sz w' S' l cs
  | [], _, h => h
  | x :: xs, cs, h => by
    obtain ⟨c1, c2, rfl, h1, h2, h3⟩ := h
    exact ⟨c1, c2, rfl, h1, hr _ _ h2, RList.map hr h3⟩
/-- the element at a place -/
theorem RList.at_ : ∀ {l : List α} {cs : List Value} {i : Nat} {x : α}, RList r sz w S l cs → l[i]? = some x → ∃ c1, c1.length = sz ∧ r w S x c1 ∧ ∀ j u, c1[j]? = some u → cs[i * sz + j]? = some u
  | [], _, _, _, _, h => by simp at h
  | x :: xs, cs, 0, y, hR, h => by
    obtain ⟨c1, c2, rfl, h1, h2, _⟩ := hR
    simp only [List.getElem?_cons_zero, Option.some.injEq] at h
    subst h
    refine ⟨c1, h1, h2, fun j u hu => ?_⟩
    have hj := (List.getElem?_eq_some_iff.1 hu).1
    rw [Nat.zero_mul, Nat.zero_add, List.getElem?_append_left hj]; exact hu
  | x :: xs, cs, i + 1, y, hR, h => by
    obtain ⟨c1, c2, rfl, h1, _, h3⟩ := hR
    obtain ⟨c, g1, g2, g3⟩ := RList.at_ (i := i) h3 (by simpa using h)
    refine ⟨c, g1, g2, fun j u hu => ?_⟩
    rw [Nat.add_mul, List.getElem?_append_right (by omega), ← g3 j u hu]
    congr 1
    omega
theorem RList.append : ∀ {l m : List α} {cs ds : List Value}, RList r sz w S l cs → RList r sz w S m ds → RList r sz w S (l ++ m) (cs ++ ds)
  | [], _, _, _, h, k => by cases h; exact k
  | x :: xs, _, _, _, h, k => by
    obtain ⟨c1, c2, rfl, h1, h2, h3⟩ := h
    exact ⟨c1, c2 ++ _, by simp, h1, h2, RList.append h3 k⟩
theorem RList.one {x : α} {cs : List Value} (h : r w S x cs) (hl : cs.length = sz) : RList r sz w S [x] cs := ⟨cs, [], by simp, hl, h, rfl⟩
theorem RList.split : ∀ {l m : List α} {cs : List Value}, RList r sz w S (l ++ m) cs → ∃ c1 c2, cs = c1 ++ c2 ∧ RList r sz w S l c1 ∧ RList r sz w S m c2
  | [], _, cs, h => ⟨[], cs, rfl, rfl, h⟩
  | x :: xs, _, _, h => by
    obtain ⟨c1, c2, rfl, h1, h2, h3⟩ := h
    obtain ⟨d1, d2, rfl, g1, g2⟩ := RList.split (l := xs) h3
    exact ⟨c1 ++ d1, d2, by simp, ⟨c1, d1, rfl, h1, h2, g1⟩, g2⟩
theorem RList.one_cell (hr : ∀ x cs, r w S x cs → ∀ u ∈ cs, u.oneCell' = true) : ∀ {l : List α} {cs : List Value}, RList r sz w S l cs → ∀ u ∈ cs, u.oneCell' = true
  | [], _, h => by cases h; intro u hu; cases hu
  | x :: xs, cs, h => by
    obtain ⟨c1, c2, rfl, h1, h2, h3⟩ := h
    intro u hu
    rcases List.mem_append.1 hu with hu | hu
    · exact hr _ _ h2 u hu
    · exact RList.one_cell hr h3 u hu
end

/-- a slice value whose elements read as the list l -/
def RSlice {α : Type} (r : Rd α) (sz : Nat) (w : World) (S : Nat → Prop) (A : Option Addr) (n c : Nat) (l : List α) : Prop :=
  l.length = n ∧ n ≤ c ∧ (A = none → c = 0) ∧ ∃ cs, SeqP w S sz A n cs ∧ RList r sz w S l cs

section
variable {H : Type} {enc : TypeId × Value → H} {P : Program} {W : World} {spare : Nat → Bool} {held : Bool}
theorem cells_of {ad : Addr} {n : Nat} {cs : List Value} (h : W.cells? 0 ad n = some cs) : cs.length = n ∧ ∀ j u, cs[j]? = some u → W.cell? (ad.add j) = some u := by
  obtain ⟨_, hl, hat⟩ := World.cells?_some h
  refine ⟨hl, fun j u hu => ?_⟩
  have hj : j < n := by have := (List.getElem?_eq_some_iff.1 hu).1; omega
  rw [hat j hj]; exact hu
/-- a struct's field of one cell: how it reads -/
theorem field_one {fs : Array Field} {n : Nat} {cs : List Value} {xs : List (DataW H × List MemPlace)}
    (hf : ∀ (i : Nat) (f : Field), fs[i]? = some f → DataW.trod enc P W 0 spare held n f.type ((cs.drop f.offset).take (P.cellsOf f.type)) = xs[i]?)
    (j : Nat) {t : TypeId} {o : Nat} {v : Value} {y : DataW H × List MemPlace} (hj : fs[j]?.map (fun f => (f.type, f.offset)) = some (t, o)) (hC : P.cellsOf t = 1) (hv : cs[o]? = some v) (hy : xs[j]? = some y) :
    DataW.trod enc P W 0 spare held n t [v] = some y := by
  obtain ⟨f, hf1, hf2⟩ := Option.map_eq_some_iff.1 hj
  simp only [Prod.mk.injEq] at hf2
  obtain ⟨rfl, rfl⟩ := hf2
  have := hf j f hf1
  rw [hC, hy] at this
  rw [← this]
  obtain ⟨hlt, he⟩ := List.getElem?_eq_some_iff.1 hv
  rw [List.drop_eq_getElem_cons hlt, he]
  rfl
/-- the value of a slice type is written as a slice -/
theorem slice_val {t e : TypeId} {n : Nat} {v : Value} {y : DataW H × List MemPlace} (ht : P.underlying t = some (.slice e)) (h : DataW.trod enc P W 0 spare held n t [v] = some y) : ∃ A len cap, v = .slice A len cap := by
  rcases DataW.trod_slice ht h with ⟨g, _⟩ | ⟨a, l1, l2, _, _, _, _, g, _⟩
  · simp only [List.cons.injEq, and_true] at g; exact ⟨_, _, _, g⟩
  · simp only [List.cons.injEq, and_true] at g; exact ⟨_, _, _, g⟩
theorem int_val {t : TypeId} {k : IntKind} {n : Nat} {v : Value} {y : DataW H × List MemPlace} (ht : P.underlying t = some (.int k)) (h : DataW.trod enc P W 0 spare held n t [v] = some y) :
    ∃ x, v = .int k x ∧ y = (.lit (.int k x), []) ∧ (Lit.int k x).wf = true := by
  obtain ⟨x, e, h1, h2⟩ := DataW.trod_int ht h
  simp only [List.cons.injEq, and_true] at e
  exact ⟨x, e, h1, h2⟩
theorem str_val {t : TypeId} {n : Nat} {v : Value} {y : DataW H × List MemPlace} (ht : P.underlying t = some .string) (h : DataW.trod enc P W 0 spare held n t [v] = some y) :
    ∃ s : ByteArray, v = .string s ∧ y = (.lit (.string s.data.toList), []) ∧ s.size ≤ maxLen := by
  obtain ⟨x, e, h1, h2⟩ := DataW.trod_string ht h
  simp only [List.cons.injEq, and_true] at e
  exact ⟨x, e, h1, h2⟩
theorem addr_add_add (a : Addr) (i j : Nat) : (a.add i).add j = a.add (i + j) := by
  unfold Addr.add
  by_cases hi : i = 0 <;> by_cases hj : j = 0 <;> simp [hi, hj, Nat.add_assoc]
/-- how a slice argument is opened, where its elements can be -/
theorem open_list {α : Type} {r : Rd α} {sz : Nat} {bulk : α → Nat} {t e : TypeId} {fuel : Nat} {A : Option Addr} {len cap : Nat} {x : DataW H × List MemPlace} (ht : P.underlying t = some (.slice e)) (hC : P.cellsOf e = sz) (hsz : 0 < sz)
    (hel : ∀ n cs y, n + 1 = fuel → cs.length = sz → DataW.trod enc P W 0 spare held n e cs = some y → ∃ a, r W (fun b => b < W.heap.size) a cs ∧ bulk a ≤ Rows.uptoBulk y.1)
    (h : DataW.trod enc P W 0 spare held fuel t [.slice A len cap] = some x) :
    ∃ l : List α, RSlice r sz W (fun b => b < W.heap.size) A len cap l ∧ cap ≤ maxLen ∧ (l.map bulk).sum + 1 ≤ Rows.uptoBulk x.1 := by
  rcases DataW.trod_slice ht h with ⟨h0, h1⟩ | ⟨a, len', cap', elems, rest, n, hfu, hcs, hx, _, hl, hm, hlen, hel', _, _⟩
  · simp at h0
    obtain ⟨rfl, rfl, rfl⟩ := h0
    subst h1
    exact ⟨[], ⟨rfl, Nat.le_refl _, fun _ => rfl, [], SeqP.nil_, rfl⟩, Nat.zero_le _, by simp [Rows.uptoBulk]⟩
  · simp at hcs
    obtain ⟨rfl, rfl, rfl⟩ := hcs
    subst hx
    have key : ∀ k, k ≤ len → ∃ (l : List α) (cs : List Value), l.length = len - k ∧ RList r sz W (fun b => b < W.heap.size) l cs ∧ (∀ j u, cs[j]? = some u → W.cell? (a.add (k * sz + j)) = some u) ∧
        (l.map bulk).sum ≤ Rows.uptoBulkAll ((elems.drop k).map (·.1)) := by
      intro k hk
      obtain ⟨m, hm'⟩ : ∃ m, m = len - k := ⟨_, rfl⟩
      induction m generalizing k with
      | zero => exact ⟨[], [], by simp; omega, rfl, fun j u hu => by simp at hu, by simp⟩
      | succ m ih =>
        obtain ⟨l, cs, g1, g2, g3, g4⟩ := ih (k + 1) (by omega) (by omega)
        have he := hel' k (by omega)
        have hy : elems[k]? = some (elems[k]'(by omega)) := List.getElem?_eq_getElem (by omega)
        rw [hy, hC] at he
        obtain ⟨c1, hc1, ht1⟩ := Option.bind_eq_some_iff.1 he
        obtain ⟨hc1l, hc1c⟩ := cells_of hc1
        obtain ⟨x1, hr1, hb1⟩ := hel n c1 _ hfu.symm hc1l ht1
        refine ⟨x1 :: l, c1 ++ cs, by simp [g1]; omega, ⟨c1, cs, rfl, hc1l, hr1, g2⟩, fun j u hu => ?_, ?_⟩
        · by_cases hj : j < sz
          · rw [List.getElem?_append_left (by omega)] at hu
            rw [← addr_add_add]
            exact hc1c j u hu
          · rw [List.getElem?_append_right (by omega), hc1l] at hu
            have := g3 _ u hu
            rw [Nat.add_mul] at this
            rw [← this]
            congr 2
            omega
        · rw [List.drop_eq_getElem_cons (by omega)]
          simp only [List.map_cons, List.sum_cons, Rows.uptoBulkAll]
          omega
    obtain ⟨l, cs, g1, g2, g3, g4⟩ := key 0 (Nat.zero_le _)
    have hl' : l.length = len := by omega
    refine ⟨l, ⟨hl', hl, (fun h => by cases h), cs, ?_, g2⟩, hm, ?_⟩
    · refine seq_of_cells (by rw [g2.length, hl']) hsz fun j u hu => ?_
      have := g3 j u hu
      rwa [Nat.zero_mul, Nat.zero_add] at this
    · rw [List.drop_zero] at g4
      simp only [Rows.uptoBulk]
      omega
end
end Go.Proofs.YtennhjkhjplmoaaDoor
