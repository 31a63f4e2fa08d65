/- Deploy: append in a drawn region, of a slice that is read. -/
import Derived.Test.YtennhjkhjplmoaaDoorDpX
import Derived.Test.YtennhjkhjplmoaaDoorDpW
import Derived.Test.YtennhjkhjplmoaaDoorDpR
namespace Go.Proofs.YtennhjkhjplmoaaDoor
open Go.RowKit
theorem step_appS {P : Program} {ops : Array Oper} {o : Oper} {a : Act} {K : Act → World → Prop} {Q : Exit → Act → World → Prop} {E : Prop} {w W0 : World} {e : TypeId} {size n : Nat} {v : Value} {xs : List Value} (H : Own W0 w e size v n xs) {t : TypeId} {z : Value} {bytes : Nat} (ht : P.underlying t = some (.slice e)) (hi : Info P e z size bytes)
    {A : Option Addr} {m c B : Nat} {news : List Value} (hr : Seq w B size A m news) (h1 : ∀ u ∈ news, u.oneCell' = true)
    (hbytes : (n + m) * bytes ≤ 140737488355328)
    (h : ∀ v' w', Own W0 w' e size v' (n + m) (xs ++ news) → Grew w w' v v' → K (a.put o.dst v') w')
    {s x : Operand} (hgd : o.guard = none := by rfl) (ho : o.op = .call { callee := .builtin .append, args := #[s, x], argTypes := #[t, t] } := by rfl)
    (hs : a.eval s = v := by rfl) (hx : a.eval x = .slice A m c := by rfl) (hzs : z.cells.size = size := by rfl) (hsz : 0 < size := by decide) (hby : 0 < bytes := by decide) :
    if Region.wanted o (yielded ops a.tmps) = true then Oper.wp P o a w K Q else E := by
  rw [if_pos (by simp [Region.wanted, hgd])]
  obtain ⟨hown, hB⟩ := H
  have hn := Nat.le_trans (Nat.le_mul_of_pos_right (n + m) hby) hbytes
  obtain ⟨i, hi1, hi2, hi3, hi4⟩ := info_parts hi
  rcases A with _ | ad
  · have hm : m = 0 := by
      rcases Nat.eq_zero_or_pos m with h0 | h0
      · exact h0
      · obtain ⟨_, _, h, _⟩ := hr.2 h0
        cases h
    have hnw : news = [] := List.eq_nil_of_length_eq_zero (by rw [hr.1, hm]; simp)
    subst hm hnw
    have hr' := run_append_of_nil (P := P) (t := t) (ty := o.type) ht hi1 hown c
    unfold Oper.wp execOp
    simp only [ho, resolve, invoke, builtin, Sem.run_bind, Sem.run_pure, Result.andThen_ok, List.map_toArray, List.map_cons, List.map_nil, hs, hx, hr']
    exact h v w ⟨by simpa using hown, hB⟩ ⟨World.grownBy.refl _ _, .inl rfl⟩
  · obtain ⟨v', w', hr2, h2, h3, h4, h5⟩ := run_append_own_at (P := P) w W0.heap.size t o.type e i z size bytes ht hi1 hi2 hi3 hi4 hzs hsz v n xs hown ad m c news hr.1
      (by
        intro j u hu
        rcases Nat.eq_zero_or_pos m with h0 | h0
        · have : news = [] := List.eq_nil_of_length_eq_zero (by rw [hr.1, h0]; simp)
          subst this
          simp at hu
        · obtain ⟨b, o', hA, _, hc⟩ := hr.2 h0
          injection hA with hA
          subst hA
          rw [Addr.add_lit]
          exact hc j u hu) h1 (by unfold maxLen; omega) hbytes hB.size
    unfold Oper.wp execOp
    simp only [ho, resolve, invoke, builtin, Sem.run_bind, Sem.run_pure, Result.andThen_ok, List.map_toArray, List.map_cons, List.map_nil, hs, hx, hr2]
    exact h v' w' ⟨h2, hB.grown h3 hB.size (fun k hk => (hown.lt k hk).1)⟩ ⟨h3, h5⟩
theorem step_appRS {α : Type} {r : Rd α} {l m : List α} {P : Program} {ops : Array Oper} {o : Oper} {a : Act} {K : Act → World → Prop} {Q : Exit → Act → World → Prop} {E : Prop} {w w0 : World} {e : TypeId} {sz c : Nat} {v : Value} {A : Option Addr} (hr : RdOk r) (h1 : RdOne r) (H : OwnR r sz w0 w e v l) {k : Nat} (hx : RSlice r sz w (Beh w v) A k c m) {t : TypeId} {z : Value} {bytes : Nat} (ht : P.underlying t = some (.slice e)) (hi : Info P e z sz bytes)
    (hbytes : (l.length + k) * bytes ≤ 140737488355328)
    (h : ∀ v' w', OwnR r sz w0 w' e v' (l ++ m) → Grew w w' v v' → K (a.put o.dst v') w')
    {s y : Operand} (hgd : o.guard = none := by rfl) (ho : o.op = .call { callee := .builtin .append, args := #[s, y], argTypes := #[t, t] } := by rfl)
    (hs : a.eval s = v := by rfl) (hy : a.eval y = .slice A k c := by rfl) (hzs : z.cells.size = sz := by rfl) (hsz : 0 < sz := by decide) (hby : 0 < bytes := by decide) :
    if Region.wanted o (yielded ops a.tmps) = true then Oper.wp P o a w K Q else E := by
  obtain ⟨ds, H1, H2⟩ := H
  obtain ⟨rfl, hc, hn, cs, hseq, hlist⟩ := hx
  refine step_appS (B := w.heap.size) H1 ht hi (hseq.imp fun b hb => hb.1) (RList.one_cell (fun x c hc => h1 _ _ x c hc) hlist) hbytes (fun v' w' hO hg => ?_) hgd ho hs hy hzs hsz hby
  obtain ⟨ds2, J1, J2⟩ := (show OwnR r sz w0 w e v l from ⟨ds, H1, H2⟩).below hr (Below.refl _ _)
  exact h v' w' (OwnR.grew hr (wa := w) (by rw [List.length_append]; exact hO) hg H2 hlist) hg
/-- a box with one reference, as a slice -/
theorem box_ref {w : World} {S : Nat → Prop} {g : Nat} {r : Ref} (hS : S g) (b0 : w.cell? ⟨g, 0, none⟩ = some (.string r.run)) (b1 : w.cell? ⟨g, 1, none⟩ = some (.string r.job)) : RSlice rRef 2 w S (some ⟨g, 0, none⟩) 1 1 [r] := by
  refine ⟨rfl, Nat.le_refl _, fun h => (by cases h), refC r, ⟨rfl, fun _ => ⟨g, 0, rfl, hS, fun j u hu => ?_⟩⟩, RList.one rfl rfl⟩
  rw [Nat.zero_add]
  match j, hu with
  | 0, hu => injection hu with hu; rw [b0, ← hu]
  | 1, hu => injection hu with hu; rw [b1, ← hu]
theorem box_dep {w : World} {S : Nat → Prop} {g : Nat} {d : Dep} (hS : S g) (b0 : w.cell? ⟨g, 0, none⟩ = some (.string d.ref.run)) (b1 : w.cell? ⟨g, 1, none⟩ = some (.string d.ref.job)) (b2 : w.cell? ⟨g, 2, none⟩ = some (.int .u64 d.ver)) (b3 : w.cell? ⟨g, 3, none⟩ = some (.int .i64 d.at_)) (b4 : w.cell? ⟨g, 4, none⟩ = some (.int .i64 d.st)) : RSlice rDep 5 w S (some ⟨g, 0, none⟩) 1 1 [d] := by
  refine ⟨rfl, Nat.le_refl _, fun h => (by cases h), depC d, ⟨rfl, fun _ => ⟨g, 0, rfl, hS, fun j u hu => ?_⟩⟩, RList.one rfl rfl⟩
  rw [Nat.zero_add]
  match j, hu with
  | 0, hu => injection hu with hu; rw [b0, ← hu]
  | 1, hu => injection hu with hu; rw [b1, ← hu]
  | 2, hu => injection hu with hu; rw [b2, ← hu]
  | 3, hu => injection hu with hu; rw [b3, ← hu]
  | 4, hu => injection hu with hu; rw [b4, ← hu]
theorem OwnR.ltB {α : Type} {r : Rd α} {sz : Nat} {w0 w : World} {e : TypeId} {v : Value} {l : List α} (h : OwnR r sz w0 w e v l) {b : Nat} (hb : w.heap.size ≤ b) : some b ≠ v.ownBlock := by
  obtain ⟨cs, H, _⟩ := h
  exact H.lt hb
/-- cells of another block stored: a row of single cells stays -/
theorem OwnR.farSet {α : Type} {r : Rd α} (_hr : RdOk r) {sz : Nat} {w0 w : World} {e : TypeId} {v : Value} {l : List α} (h : OwnR r sz w0 w e v l) {xb o : Nat} {u : Value} (hne : v.ownBlock ≠ some xb) (hx : w0.heap.size ≤ xb) (hb : ∀ x c, r w (Beh w v) x c → r (w.setCell ⟨xb, o, none⟩ u) (Beh (w.setCell ⟨xb, o, none⟩ u) v) x c) : OwnR r sz w0 (w.setCell ⟨xb, o, none⟩ u) e v l := by
  obtain ⟨cs, H, H2⟩ := h
  exact ⟨cs, H.grown (setCell_grown w xb o u) (fun b hb e => hne (by rw [hb, ← e])) (fun k hk => by injection hk with hk; omega), RList.map (fun x c hc => hb x c hc) H2⟩
theorem RetL.same {w w' : World} {l : List Env} {A : Option Addr} {n c : Nat} (h : Envs w A n c l) (hb : Below w.heap.size w w') (code : Int) : RetL w (l, code) (.returned (.tuple #[.slice A n c, .int .i64 code])) w' := ⟨_, _, _, rfl, hb, (h.below hb).rd⟩
/-- the rest of a list that begins with a reference -/
theorem head_drop {l : List Ref} {r : Ref} (h : headR l r = true) : 0 < l.length := by
  cases l with
  | nil => cases h
  | cons x l => simp
/-- a part of a slice of which something else is known than that it lies below the world -/
theorem RSlice.drop' {α : Type} {r : Rd α} {sz : Nat} {w : World} {A : Option Addr} {n c B : Nat} {l : List α} (h : RSlice r sz w (fun b => b < B) A n c l) {i : Nat} (hi : i ≤ n) : RSlice r sz w (fun b => b < B) (if c = i then A else A.map (fun x => x.add (i * sz))) (n - i) (c - i) (l.drop i) := by
  obtain ⟨h1, h2, h3, cs, h4, h5⟩ := h
  refine ⟨by rw [List.length_drop]; omega, by omega, fun hA => ?_, cs.drop (i * sz), Seq.cut h4 hi h2, h5.drop_ i⟩
  by_cases hci : c = i
  · omega
  · rw [if_neg hci] at hA
    cases A with
    | none => have := h3 rfl; omega
    | some a => simp at hA
end Go.Proofs.YtennhjkhjplmoaaDoor
