/- Deployments as plain lists. No program in sight. -/
import Derived.Test.YtennhjkhjplmoaaDoorCmpP
import Derived.Test.YtennhjkhjplmoaaDoorIdP
namespace Go.Proofs.YtennhjkhjplmoaaDoor
open Go.RowKit
/-- the first place at which f holds, or the length -/
def posA {α : Type} (f : α → Bool) : List α → Nat
  | [] => 0
  | x :: l => if f x then 0 else posA f l + 1
theorem posA_le {α : Type} (f : α → Bool) : ∀ l : List α, posA f l ≤ l.length
  | [] => Nat.le_refl _
  | x :: l => by
    have := posA_le f l
    unfold posA
    split
    · exact Nat.zero_le _
    · simp; exact this
theorem posA_lt {α : Type} {f : α → Bool} : ∀ {l : List α}, posA f l < l.length ↔ ∃ x ∈ l, f x = true
  | [] => by simp [posA]
  | x :: l => by
    have ih := posA_lt (f := f) (l := l)
    unfold posA
    by_cases h : f x = true
    · rw [if_pos h]
      exact ⟨fun _ => ⟨x, List.mem_cons_self .., h⟩, fun _ => by simp⟩
    · rw [if_neg h]
      constructor
      · intro hp
        obtain ⟨y, hy, hf⟩ := ih.1 (by simpa using hp)
        exact ⟨y, List.mem_cons_of_mem _ hy, hf⟩
      · rintro ⟨y, hy, hf⟩
        rcases List.mem_cons.1 hy with rfl | hy
        · exact absurd hf h
        · have := ih.2 ⟨y, hy, hf⟩
          simp; exact this
theorem posA_at {α : Type} {f : α → Bool} : ∀ {l : List α} {x : α}, l[posA f l]? = some x → f x = true
  | [], _, h => by simp at h
  | y :: l, x, h => by
    unfold posA at h
    by_cases hy : f y = true
    · rw [if_pos hy] at h
      simp at h
      rw [← h]; exact hy
    · rw [if_neg hy] at h
      exact posA_at (by simpa using h)
/-- behind i elements at which f does not hold -/
theorem posA_drop {α : Type} {f : α → Bool} : ∀ {l : List α} {i : Nat}, i ≤ l.length → (∀ x ∈ l.take i, f x = false) → posA f l = i + posA f (l.drop i)
  | l, 0, _, _ => by simp
  | [], i + 1, h, _ => by simp at h
  | y :: l, i + 1, h, hf => by
    have ih := posA_drop (f := f) (l := l) (i := i) (by simpa using h) (fun x hx => hf x (by simp [hx]))
    show (if f y = true then 0 else posA f l + 1) = _
    rw [if_neg (by rw [hf y (by simp)]; simp), ih, List.drop_succ_cons]
    omega
def posI {α : Type} (f : α → Bool) (l : List α) : Int := if posA f l < l.length then (posA f l : Int) else -1
theorem posA_hit {α : Type} {f : α → Bool} {l : List α} {i : Nat} {x : α} (hx : l[i]? = some x) (h : posA f l = i + posA f (l.drop i)) (hf : f x = true) : posI f l = (i : Int) := by
  have hi := (List.getElem?_eq_some_iff.1 hx).1
  have e : posA f (l.drop i) = 0 := by
    rw [List.drop_eq_getElem_cons hi, (List.getElem?_eq_some_iff.1 hx).2]
    unfold posA
    rw [if_pos hf]
  unfold posI
  rw [h, e, Nat.add_zero, if_pos hi]
theorem posA_miss {α : Type} {f : α → Bool} {l : List α} {i : Nat} {x : α} (hx : l[i]? = some x) (h : posA f l = i + posA f (l.drop i)) (hf : f x = false) : posA f l = (i + 1) + posA f (l.drop (i + 1)) := by
  have hi := (List.getElem?_eq_some_iff.1 hx).1
  have e : posA f (l.drop i) = posA f (l.drop (i + 1)) + 1 := by
    rw [List.drop_eq_getElem_cons hi, (List.getElem?_eq_some_iff.1 hx).2]
    show (if f x = true then 0 else _) = _
    rw [if_neg (by rw [hf]; simp)]
  omega
theorem posA_end {α : Type} {f : α → Bool} {l : List α} {i : Nat} (hi : l.length ≤ i) (h : posA f l = i + posA f (l.drop i)) : posI f l = -1 := by
  unfold posI
  rw [if_neg (by omega)]
theorem posI_nonneg {α : Type} (f : α → Bool) (l : List α) : decide (0 ≤ posI f l) = l.any f := by
  rw [Bool.eq_iff_iff, decide_eq_true_eq, List.any_eq_true, ← posA_lt]
  unfold posI
  split <;> rename_i h
  · exact ⟨fun _ => h, fun _ => by omega⟩
  · exact ⟨fun h => by omega, fun h2 => absurd h2 h⟩
structure Ref where
  run : ByteArray
  job : ByteArray
structure Dep where
  ref : Ref
  ver : Int
  at_ : Int
  st : Int
structure Env where
  name : ByteArray
  holder : Ref
  waiting : List Ref
  history : List Dep
def eqB (a b : ByteArray) : Bool := a.toList == b.toList
theorem eqB_iff {a b : ByteArray} : eqB a b = true ↔ a = b := by
  unfold eqB
  rw [beq_iff_eq, ByteArray.toList_eq, ByteArray.toList_eq]
  constructor
  · intro h
    cases a; cases b
    congr
    exact Array.toList_inj.1 h
  · intro h; rw [h]
def eqR (a b : Ref) : Bool := eqB a.run b.run && eqB a.job b.job
theorem eqR_iff {a b : Ref} : eqR a b = true ↔ a = b := by
  unfold eqR
  rw [Bool.and_eq_true, eqB_iff, eqB_iff]
  cases a; cases b
  simp
theorem eqR_ne {a b : Ref} : eqR a b = false ↔ a ≠ b := by
  rw [← Bool.not_eq_true, eqR_iff]
theorem eqR_self (a : Ref) : eqR a a = true := eqR_iff.2 rfl
def eqD (a b : Dep) : Bool := eqR a.ref b.ref && a.ver == b.ver && a.at_ == b.at_ && a.st == b.st
theorem eqD_iff {a b : Dep} : eqD a b = true ↔ a = b := by
  unfold eqD
  rw [Bool.and_eq_true, Bool.and_eq_true, Bool.and_eq_true, eqR_iff, beq_iff_eq, beq_iff_eq, beq_iff_eq]
  cases a; cases b
  simp [and_assoc]
/-- no reference -/
def zR : Ref := ⟨⟨#[]⟩, ⟨#[]⟩⟩
def zD : Dep := ⟨zR, 0, 0, 0⟩
def properR (r : Ref) : Bool := !eqB r.run ⟨#[]⟩ && !eqB r.job ⟨#[]⟩
theorem proper_zR : properR zR = false := by
  have h : eqB zR.run ⟨#[]⟩ = true := eqB_iff.2 rfl
  unfold properR
  rw [h]; rfl
theorem proper_ne {r : Ref} (h : properR r = true) : eqR zR r = false := by
  rw [eqR_ne]
  intro e
  rw [← e, proper_zR] at h
  cases h
def hasR (l : List Ref) (r : Ref) : Bool := l.any fun x => eqR x r
theorem hasR_iff {l : List Ref} {r : Ref} : hasR l r = true ↔ r ∈ l := by
  unfold hasR
  rw [List.any_eq_true]
  exact ⟨fun ⟨x, hx, e⟩ => by rw [← eqR_iff.1 e]; exact hx, fun h => ⟨r, h, eqR_self r⟩⟩
theorem hasR_not {l : List Ref} {r : Ref} : hasR l r = false ↔ r ∉ l := by rw [← Bool.not_eq_true, hasR_iff]
def nameE (s : ByteArray) (e : Env) : Bool := eqB e.name s
def aftE (s : ByteArray) (e : Env) : Bool := decide (0 < cmpN e.name.data.toList s.data.toList)
def holdE (r : Ref) (e : Env) : Bool := eqR e.holder r
def busyE (r : Ref) (e : Env) : Bool := eqR e.holder r || hasR e.waiting r
/-- the holder and the requests of an environment -/
def refsE (e : Env) : List Ref := (if eqR e.holder zR = true then [] else [e.holder]) ++ e.waiting
def refsL (l : List Env) : List Ref := l.flatMap refsE
theorem busy_refsE {r : Ref} (h : properR r = true) (e : Env) : busyE r e = hasR (refsE e) r := by
  unfold busyE refsE
  rw [Bool.eq_iff_iff, Bool.or_eq_true, hasR_iff, hasR_iff, eqR_iff, List.mem_append]
  by_cases hz : eqR e.holder zR = true
  · rw [if_pos hz]
    have h1 := eqR_iff.1 hz
    have h2 := eqR_ne.1 (proper_ne h)
    constructor
    · rintro (h3 | h3)
      · exact absurd (h1.symm.trans h3) h2
      · exact Or.inr h3
    · rintro (h3 | h3)
      · cases h3
      · exact Or.inr h3
  · rw [if_neg hz]
    rw [List.mem_singleton]
    constructor <;> rintro (h3 | h3)
    · exact Or.inl h3.symm
    · exact Or.inr h3
    · exact Or.inl h3.symm
    · exact Or.inr h3
theorem busy_refs {r : Ref} (h : properR r = true) (l : List Env) : l.any (busyE r) = hasR (refsL l) r := by
  rw [Bool.eq_iff_iff, hasR_iff, List.any_eq_true]
  unfold refsL
  rw [List.mem_flatMap]
  constructor
  · rintro ⟨e, he, hb⟩
    rw [busy_refsE h, hasR_iff] at hb
    exact ⟨e, he, hb⟩
  · rintro ⟨e, he, hb⟩
    exact ⟨e, he, by rw [busy_refsE h, hasR_iff]; exact hb⟩
def headR (l : List Ref) (r : Ref) : Bool := match l with
  | [] => false
  | x :: _ => eqR x r
/-- a request -/
def askE (r : Ref) (e : Env) : Env := { e with waiting := e.waiting ++ [r] }
def reqL (l : List Env) (s : ByteArray) (r : Ref) : List Env × Int :=
  if (nameS s.data.toList && properR r) = false then (l, 1)
  else if l.any (busyE r) = true then (l, 7)
  else match l[posA (nameE s) l]? with
    | some x => (l.set (posA (nameE s) l) (askE r x), 0)
    | none => (l.take (posA (aftE s) l) ++ ⟨s, zR, [r], []⟩ :: l.drop (posA (aftE s) l), 0)
def lockE (r : Ref) (e : Env) : Env := { e with holder := r, waiting := e.waiting.drop 1 }
def lockL (l : List Env) (s : ByteArray) (r : Ref) : List Env × Int :=
  match l[posA (nameE s) l]? with
  | none => (l, 8)
  | some x => if hasR x.waiting r = false then (l, 8) else if eqR x.holder zR = false then (l, 19) else if headR x.waiting r = false then (l, 22) else (l.set (posA (nameE s) l) (lockE r x), 0)
def mayL (l : List Env) (s : ByteArray) (r : Ref) : Bool :=
  match l[posA (nameE s) l]? with
  | none => false
  | some x => eqR x.holder zR && headR x.waiting r
theorem head_has {l : List Ref} {r : Ref} (h : headR l r = true) : hasR l r = true := by
  cases l with
  | nil => cases h
  | cons x l =>
    have h1 : eqR x r = true := h
    unfold hasR
    rw [List.any_cons, h1]; rfl
theorem may_lock (l : List Env) (s : ByteArray) (r : Ref) : mayL l s r = ((lockL l s r).2 == 0) := by
  unfold mayL lockL
  cases l[posA (nameE s) l]? with
  | none => rfl
  | some x =>
    dsimp only
    cases h1 : headR x.waiting r with
    | true =>
      rw [if_neg (by rw [head_has h1]; simp)]
      cases h2 : eqR x.holder zR <;> rfl
    | false =>
      rw [Bool.and_false]
      split
      · rfl
      · split <;> rfl
def capH (h : List Dep) : List Dep := if 64 < h.length then h.drop 1 else h
def finE (d : Dep) (e : Env) : Env := { e with holder := zR, history := capH (e.history ++ [d]) }
def finL (l : List Env) (d : Dep) : List Env × Int :=
  if (d.st == 1 || d.st == 2) = false then (l, 1)
  else if d.at_ < 0 ∨ 1125899906842624 < d.at_ then (l, 2)
  else if properR d.ref = false then (l, 8)
  else match l[posA (holdE d.ref) l]? with
    | none => (l, 8)
    | some x => (l.set (posA (holdE d.ref) l) (finE d x), 0)
def leaveE (r : Ref) (e : Env) : Env := { e with holder := if eqR e.holder r = true then zR else e.holder, waiting := e.waiting.filter fun x => !eqR x r }
def abL (l : List Env) (r : Ref) : List Env := l.map (leaveE r)
/-- the last of the first n that is successful and of which f holds, or -1 -/
def lastI (f : Dep → Bool) (h : List Dep) : Nat → Int
  | 0 => -1
  | n + 1 => match h[n]? with
    | some d => if (d.st == 1 && f d) = true then (n : Int) else lastI f h n
    | none => lastI f h n
theorem lastI_lo (f : Dep → Bool) (h : List Dep) : ∀ n, -1 ≤ lastI f h n
  | 0 => Int.le_refl _
  | n + 1 => by
    have := lastI_lo f h n
    unfold lastI
    split
    · split
      · omega
      · exact this
    · exact this
theorem lastI_hi (f : Dep → Bool) (h : List Dep) : ∀ n, lastI f h n < n
  | 0 => by show (-1 : Int) < 0; omega
  | n + 1 => by
    have := lastI_hi f h n
    unfold lastI
    split
    · split <;> omega
    · omega
theorem lastI_is {f : Dep → Bool} {h : List Dep} : ∀ {n : Nat} {d : Dep}, 0 ≤ lastI f h n → h[(lastI f h n).toNat]? = some d → f d = true
  | 0, _, h0, _ => by exact absurd h0 (by show ¬ (0 : Int) ≤ -1; omega)
  | n + 1, d, h0, hd => by
    unfold lastI at h0 hd
    split at h0
    · rename_i x hx
      rw [hx] at hd
      dsimp only at hd
      split at h0
      · rename_i hc
        rw [if_pos hc] at hd
        rw [Int.toNat_natCast, hx] at hd
        injection hd with hd
        rw [← hd]
        exact (Bool.and_eq_true _ _ ▸ hc).2
      · rename_i hc
        rw [if_neg hc] at hd
        exact lastI_is h0 hd
    · rename_i hx
      rw [hx] at hd
      exact lastI_is h0 hd
def curI (h : List Dep) : Int := lastI (fun _ => true) h h.length
def depAt (h : List Dep) (k : Int) : Dep × Bool := if k < 0 then (zD, false) else (h[k.toNat]?.getD zD, true)
def histOf (l : List Env) (s : ByteArray) : List Dep := match l[posA (nameE s) l]? with
  | none => []
  | some x => x.history
def backI (h : List Dep) : Int := if curI h < 0 then -1 else lastI (fun d => !(d.ver == (depAt h (curI h)).1.ver)) h (curI h).toNat
def curL (l : List Env) (s : ByteArray) : Dep × Bool := depAt (histOf l s) (curI (histOf l s))
def backL (l : List Env) (s : ByteArray) : Dep × Bool := depAt (histOf l s) (backI (histOf l s))
theorem back_ver (l : List Env) (s : ByteArray) (h : (backL l s).2 = true) : ((curL l s).1.ver == (backL l s).1.ver) = false := by
  unfold backL curL at *
  generalize histOf l s = q at *
  unfold backI at *
  by_cases h0 : curI q < 0
  · rw [if_pos h0] at h
    unfold depAt at h
    rw [if_pos (by omega)] at h
    cases h
  · rw [if_neg h0] at h ⊢
    generalize hf : (fun d : Dep => !(d.ver == (depAt q (curI q)).1.ver)) = f at h ⊢
    have hhi := lastI_hi f q (curI q).toNat
    have hlast := fun d => lastI_is (f := f) (h := q) (n := (curI q).toNat) (d := d)
    have hhi2 : curI q < q.length := lastI_hi _ _ _
    by_cases h1 : lastI f q (curI q).toNat < 0
    · unfold depAt at h
      rw [if_pos h1] at h
      cases h
    · have hk : (lastI f q (curI q).toNat).toNat < q.length := by omega
      generalize lastI f q (curI q).toNat = z at *
      have h2 : f q[z.toNat] = true := hlast q[z.toNat] (by omega) (List.getElem?_eq_getElem hk)
      have e : (depAt q z).1 = q[z.toNat] := by
        unfold depAt
        rw [if_neg h1]
        show (q[_]?.getD zD) = _
        rw [List.getElem?_eq_getElem hk]
        rfl
      rw [e]
      subst hf
      simp only [Bool.not_eq_true'] at h2
      rw [Bool.eq_false_iff] at h2 ⊢
      intro h3
      rw [beq_iff_eq] at h3
      exact h2 (beq_iff_eq.2 h3.symm)
end Go.Proofs.YtennhjkhjplmoaaDoor
