/- Fields decoded from bytes, as plain functions: no program's walk. -/
import Derived.Test.YtjipnomokggcfaaFld
namespace Go.Proofs.Ytjipnomokggcfaa
abbrev FV := Int × Int × ByteArray × Flds
/-- the field of kind c that bytes begin with, or the error's number -/
def one (sub : List UInt8 → Nat ⊕ (Flds × List UInt8)) (c : UInt8) (r : List UInt8) : Nat ⊕ (FV × List UInt8) :=
  if c.toNat = 0 then (if (takeI r).2.2 ≠ 0 then .inl (takeI r).2.2 else .inr ((0, (takeI r).1, ByteArray.empty, .nil), r.drop (takeI r).2.1))
  else if c.toNat = 1 then (if (takeS r).2.2 ≠ 0 then .inl (takeS r).2.2 else .inr ((1, 0, ⟨(takeS r).1.toArray⟩, .nil), r.drop (takeS r).2.1))
  else match sub r with
    | .inl e => .inl e
    | .inr (f, r') => .inr ((2, 0, ByteArray.empty, f), r')
/-- one more field -/
def step (o : UInt8 → List UInt8 → Nat ⊕ (FV × List UInt8)) (deep : Bool) (l : List UInt8) : Nat ⊕ (FV × List UInt8) :=
  if deep then .inl 13 else match l with
    | [] => .inl 4
    | c :: r => if 2 < c.toNat then .inl 5 else o c r
/-- so many fields -/
def many (o : UInt8 → List UInt8 → Nat ⊕ (FV × List UInt8)) (deep : Bool) : Nat → List UInt8 → Nat ⊕ (Flds × List UInt8)
  | 0, l => .inr (.nil, l)
  | n + 1, l => match step o deep l with
    | .inl e => .inl e
    | .inr (x, r) => match many o deep n r with
      | .inl e => .inl e
      | .inr (f, r') => .inr (.cons x.1 x.2.1 x.2.2.1 x.2.2.2 f, r')
/-- the number of fields and the fields, at a depth; the first number is fuel -/
def rd : Nat → Nat → List UInt8 → Nat ⊕ (Flds × List UInt8)
  | 0, _, _ => .inl 0
  | F + 1, d, l => if (takeU l).2.2 ≠ 0 then .inl (takeU l).2.2 else many (one (rd F (d + 1))) (decide (128 < d)) (takeU l).1 (l.drop (takeU l).2.1)
def fieldsS (l : List UInt8) : Nat ⊕ Flds :=
  match rd (l.length + 1) 1 l with
  | .inl e => .inl e
  | .inr (f, r) => if r.length ≠ 0 then .inl 5 else .inr f
/-- what has been read stands ahead of what is still to be read -/
def ahead (f : Flds) : Nat ⊕ (Flds × List UInt8) → Nat ⊕ (Flds × List UInt8)
  | .inl e => .inl e
  | .inr (g, r) => .inr (f.append g, r)
theorem append_nil : ∀ f : Flds, f.append .nil = f
  | .nil => rfl
  | .cons k x s sub r => by simp only [Flds.append, append_nil r]
theorem append_assoc : ∀ f g h : Flds, (f.append g).append h = f.append (g.append h)
  | .nil, _, _ => rfl
  | .cons k x s sub r, g, h => by simp only [Flds.append, append_assoc r g h]
theorem many_step {o : UInt8 → List UInt8 → Nat ⊕ (FV × List UInt8)} {deep : Bool} {n : Nat} {l r : List UInt8} {f : Flds} {x : FV} (h : step o deep l = .inr (x, r)) :
    ahead f (many o deep (n + 1) l) = ahead (f.append (.cons x.1 x.2.1 x.2.2.1 x.2.2.2 .nil)) (many o deep n r) := by
  simp only [many, h]
  cases many o deep n r with
  | inl e => rfl
  | inr p =>
    obtain ⟨g, r'⟩ := p
    simp only [ahead, append_assoc, Flds.append]
theorem many_stop {o : UInt8 → List UInt8 → Nat ⊕ (FV × List UInt8)} {deep : Bool} {n : Nat} {l : List UInt8} {f : Flds} {e : Nat} (h : step o deep l = .inl e) :
    ahead f (many o deep (n + 1) l) = .inl e := by
  simp only [many, h, ahead]

/-- what is left is a proper end of what was there; an error has a number -/
def Good {α : Type} (l : List UInt8) : Nat ⊕ (α × List UInt8) → Prop
  | .inl e => e ≠ 0 ∧ e ≤ 13
  | .inr (_, r) => ∃ k, 1 ≤ k ∧ k ≤ l.length ∧ r = l.drop k
def Good0 {α : Type} (l : List UInt8) : Nat ⊕ (α × List UInt8) → Prop
  | .inl e => e ≠ 0 ∧ e ≤ 13
  | .inr (_, r) => ∃ k, k ≤ l.length ∧ r = l.drop k
theorem tu_err : ∀ (l : List UInt8) (i acc : Nat), (tu i acc l).2.2 ≤ 5
  | [], _, _ => by simp [tu]
  | c :: r, i, acc => by
    unfold tu
    split
    · simp
    · split
      · split <;> simp
      · exact tu_err r (i + 1) _
theorem takeU_err (l : List UInt8) : (takeU l).2.2 ≤ 5 := tu_err l 0 0
theorem takeS_err (l : List UInt8) : (takeS l).2.2 ≤ 5 := by
  have := takeU_err l
  unfold takeS
  split
  · exact this
  · split <;> simp
theorem takeS_len {l : List UInt8} (h : (takeS l).2.2 = 0) : 1 ≤ (takeS l).2.1 ∧ (takeS l).2.1 ≤ l.length := by
  unfold takeS at h ⊢
  split at h
  · contradiction
  · rename_i h1
    have h1 : (takeU l).2.2 = 0 := by omega
    have := takeU_len h1
    split at h
    · simp at h
    · rename_i h2
      rw [if_neg (by omega), if_neg h2]
      dsimp only
      omega
theorem one_good {sub : List UInt8 → Nat ⊕ (Flds × List UInt8)} {c : UInt8} {r : List UInt8} (hs : Good r (sub r)) : Good r (one sub c r) := by
  unfold one
  split
  · split
    · rename_i h
      have := takeU_err r
      exact ⟨h, by unfold takeI; dsimp only; omega⟩
    · rename_i h
      have h : (takeU r).2.2 = 0 := by unfold takeI at h; dsimp only at h; omega
      exact ⟨_, (takeU_len h).1, (takeU_len h).2, rfl⟩
  · split
    · split
      · rename_i h
        have := takeS_err r
        exact ⟨h, by omega⟩
      · rename_i h
        have h : (takeS r).2.2 = 0 := by omega
        exact ⟨_, (takeS_len h).1, (takeS_len h).2, rfl⟩
    · revert hs
      cases sub r with
      | inl e => exact id
      | inr p => obtain ⟨f, r'⟩ := p; exact id
theorem step_good {o : UInt8 → List UInt8 → Nat ⊕ (FV × List UInt8)} {deep : Bool} {l : List UInt8} (ho : ∀ c r, r.length < l.length → Good r (o c r)) : Good l (step o deep l) := by
  unfold step
  split
  · exact ⟨by omega, by omega⟩
  · cases l with
    | nil => exact ⟨by omega, by omega⟩
    | cons c r =>
      dsimp only
      split
      · exact ⟨by omega, by omega⟩
      · have := ho c r (by simp)
        revert this
        cases o c r with
        | inl e => exact id
        | inr p =>
          obtain ⟨x, r'⟩ := p
          rintro ⟨k, h1, h2, rfl⟩
          exact ⟨k + 1, by omega, by simp; omega, rfl⟩
theorem many_good {o : UInt8 → List UInt8 → Nat ⊕ (FV × List UInt8)} {deep : Bool} : ∀ (n : Nat) (l : List UInt8), (∀ c r, r.length < l.length → Good r (o c r)) → Good0 l (many o deep n l)
  | 0, l, _ => ⟨0, by omega, rfl⟩
  | n + 1, l, ho => by
    have hst := step_good (deep := deep) ho
    unfold many
    revert hst
    cases step o deep l with
    | inl e => exact id
    | inr p =>
      obtain ⟨x, r⟩ := p
      rintro ⟨k, h1, h2, rfl⟩
      have ih := many_good (o := o) (deep := deep) n (l.drop k) (fun c r hr => ho c r (by simp at hr; omega))
      dsimp only
      revert ih
      cases many o deep n (l.drop k) with
      | inl e => exact id
      | inr q =>
        obtain ⟨f, r'⟩ := q
        rintro ⟨j, h3, rfl⟩
        exact ⟨k + j, by simp at h3; omega, by rw [List.drop_drop]⟩
theorem rd_good : ∀ (F d : Nat) (l : List UInt8), l.length < F → Good l (rd F d l)
  | 0, _, _, h => by omega
  | F + 1, d, l, h => by
    unfold rd
    split
    · rename_i he
      have := takeU_err l
      exact ⟨he, by omega⟩
    · rename_i he
      have hk := takeU_len (l := l) (by omega)
      have := many_good (o := one (rd F (d + 1))) (deep := decide (128 < d)) (takeU l).1 (l.drop (takeU l).2.1) (fun c r hr => one_good (rd_good F (d + 1) r (by simp at hr; omega)))
      revert this
      cases many (one (rd F (d + 1))) (decide (128 < d)) (takeU l).1 (l.drop (takeU l).2.1) with
      | inl e => exact id
      | inr q =>
        obtain ⟨f, r'⟩ := q
        rintro ⟨j, h3, rfl⟩
        exact ⟨(takeU l).2.1 + j, by omega, by simp at h3; omega, by rw [List.drop_drop]⟩
end Go.Proofs.Ytjipnomokggcfaa
