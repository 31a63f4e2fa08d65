/- The document's patterns as plain functions, and that they say what the program's say. -/
import Derived.Test.YtgloblokkejgmaaDoorGAny
namespace Go.Proofs.YtgloblokkejgmaaDoor
open Go.RowKit
/-- an element of the document: its kind, its items -/
structure REl where
  kind : Nat
  items : List (Nat × Nat)
def inI (l : List (Nat × Nat)) (c : Nat) : Bool := l.any fun x => decide (x.1 ≤ c) && decide (c ≤ x.2)
def fitR (e : REl) (c : Nat) : Bool := if e.kind = 1 then true else if e.kind ≠ 5 ∧ c = 47 then false else if e.kind = 2 ∨ e.kind = 3 then true else inI e.items c
def manyR (e : REl) : Bool := e.kind == 1 || e.kind == 2
/-- an element of the program and one of the document match the same bytes -/
structure ElEq (e : El) (r : REl) : Prop where
  many : e.many = manyR r
  has : ∀ c, c < 256 → hasS e.set c = fitR r c
theorem has_zero {c : Nat} (h : c < 256) : hasS zeroS c = false := by
  unfold hasS zeroS Set4.get
  have : c / 64 < 4 := by omega
  rcases four this with h | h | h | h <;> rw [h] <;> simp
theorem has_full {c : Nat} (h : c < 256) : hasS fullS c = true := by
  have h64 : c % 64 < 64 := Nat.mod_lt _ (by omega)
  have key : ∀ k, k < 64 → (18446744073709551615 : Nat).testBit k = true := by
    intro k hk
    have : (18446744073709551615 : Nat) = 2 ^ 64 - 1 := by decide
    rw [this, Nat.testBit_two_pow_sub_one]
    simp [hk]
  unfold hasS fullS Set4.get
  have : c / 64 < 4 := by omega
  rcases four this with h | h | h | h <;> rw [h] <;> exact key _ h64
theorem has_most {s : Bool} {c : Nat} (h : c < 256) : hasS (mostS s) c = (s || decide (c ≠ 47)) := by
  unfold mostS
  cases s with
  | true => rw [if_pos rfl, has_full h]; rfl
  | false => rw [if_neg (by simp), has_drop (by omega) h, has_full h]; simp
theorem has_addN : ∀ (n a : Nat) (s : Set4) (c : Nat), a + n ≤ 256 → c < 256 → hasS (addN s a n) c = ((decide (a ≤ c) && decide (c < a + n)) || hasS s c)
  | 0, a, s, c, _, _ => by
    have : (decide (a ≤ c) && decide (c < a + 0)) = false := by
      rw [Bool.and_eq_false_iff, decide_eq_false_iff_not, decide_eq_false_iff_not]; omega
    rw [this]; rfl
  | n + 1, a, s, c, h, hc => by
    rw [addN, has_addN n (a + 1) (addS s a) c (by omega) hc, has_add (by omega) hc]
    rw [Bool.eq_iff_iff]
    simp only [Bool.or_eq_true, Bool.and_eq_true, decide_eq_true_eq]
    constructor
    · rintro (⟨h1, h2⟩ | h1 | h1)
      · exact .inl ⟨by omega, by omega⟩
      · exact .inl ⟨by omega, by omega⟩
      · exact .inr h1
    · rintro (⟨h1, h2⟩ | h1)
      · by_cases he : c = a
        · exact .inr (.inl he)
        · exact .inl ⟨by omega, by omega⟩
      · exact .inr (.inr h1)
theorem charAt_from (l : List UInt8) (b a : Nat) : charAt (l.drop b) a = charAt l (b + a) := by
  rw [← charAt_drop (l.drop b) a, List.drop_drop, charAt_drop]
/-- the class whose items begin at a place -/
def clsRF (l : List UInt8) : Nat → Nat → List (Nat × Nat) → Option (List (Nat × Nat) × Nat)
  | 0, _, _ => none
  | k + 1, a, it => if l[a]?.map UInt8.toNat = some 93 then (if it = [] then none else some (it, a + 1))
    else match charAt l a with
      | none => none
      | some (x, n) => if l[a + n]?.map UInt8.toNat = some 45 then
          match charAt l (a + n + 1) with
          | none => none
          | some (y, m) => if y < x then none else clsRF l k (a + n + 1 + m) (it ++ [(x, y)])
        else clsRF l k (a + n) (it ++ [(x, x)])
def ClsEq : Option (Set4 × Nat) → Option (List (Nat × Nat) × Nat) → Prop
  | none, none => True
  | some (s, n), some (it, m) => n = m ∧ ∀ c, c < 256 → hasS s c = (decide (c ≠ 47) && inI it c)
  | _, _ => False
theorem inI_snoc {it : List (Nat × Nat)} {x y c : Nat} : inI (it ++ [(x, y)]) c = ((decide (x ≤ c) && decide (c ≤ y)) || inI it c) := by
  unfold inI
  rw [List.any_append, Bool.or_comm]
  simp
theorem char_93 {l : List UInt8} {a : Nat} (h : l[a]?.map UInt8.toNat = some 93) : charAt l a = none := by
  obtain ⟨c, h1, h2⟩ := Option.map_eq_some_iff.1 h
  unfold charAt
  rw [h1]
  dsimp only
  rw [if_pos (.inl h2)]
theorem char_out {l : List UInt8} {a : Nat} (h : l.length ≤ a) : charAt l a = none := by
  unfold charAt
  rw [List.getElem?_eq_none h]
theorem cls_rel (l : List UInt8) : ∀ (k a : Nat) (out : Set4) (it : List (Nat × Nat)), 1 ≤ a → (it = [] ↔ a = 1) → (∀ c, c < 256 → hasS out c = inI it c) → ClsEq (clsF l k a out) (clsRF l k a it)
  | 0, _, _, _, _, _, _ => trivial
  | k + 1, a, out, it, ha1, hi, ho => by
    unfold clsF clsRF
    by_cases h93 : l[a]?.map UInt8.toNat = some 93
    · have hlt : a < l.length := by
        obtain ⟨c, h1, _⟩ := Option.map_eq_some_iff.1 h93
        exact (List.getElem?_eq_some_iff.1 h1).1
      rw [if_pos h93]
      by_cases ha : a = 1
      · rw [if_pos (.inl ha), if_pos (hi.2 ha), char_93 h93]
        trivial
      · rw [if_neg (by rintro (h | h); exact ha h; exact h.2 h93), if_neg (by omega), if_neg (fun h => ha (hi.1 h))]
        refine ⟨rfl, fun c hc => ?_⟩
        rw [has_drop (by omega) hc, ho c hc]
    · rw [if_neg h93]
      have rest : ClsEq (match charAt l a with
          | none => none
          | some (first, n) => if l[a + n]?.map UInt8.toNat = some 45 then
              match charAt l (a + n + 1) with
              | none => none
              | some (last, m) => if last < first then none else clsF l k (a + n + 1 + m) (addN out first (last + 1 - first))
            else clsF l k (a + n) (addN out first 1)) (match charAt l a with
          | none => none
          | some (x, n) => if l[a + n]?.map UInt8.toNat = some 45 then
              match charAt l (a + n + 1) with
              | none => none
              | some (y, m) => if y < x then none else clsRF l k (a + n + 1 + m) (it ++ [(x, y)])
            else clsRF l k (a + n) (it ++ [(x, x)])) := by
        cases hch : charAt l a with
        | none => trivial
        | some p =>
          obtain ⟨x, n⟩ := p
          dsimp only
          have r1 := charAt_range hch
          by_cases h45 : l[a + n]?.map UInt8.toNat = some 45
          · rw [if_pos h45, if_pos h45]
            cases hc2 : charAt l (a + n + 1) with
            | none => trivial
            | some q =>
              obtain ⟨y, m⟩ := q
              dsimp only
              have r2 := charAt_range hc2
              by_cases hyx : y < x
              · rw [if_pos hyx, if_pos hyx]; trivial
              · rw [if_neg hyx, if_neg hyx]
                refine cls_rel l k _ _ _ (by omega) ⟨fun h => by simp at h, fun h => by omega⟩ (fun c hc => ?_)
                rw [has_addN _ _ _ _ (by omega) hc, inI_snoc, ho c hc]
                congr 2
                exact decide_eq_decide.2 ⟨fun h => by omega, fun h => by omega⟩
          · rw [if_neg h45, if_neg h45]
            refine cls_rel l k _ _ _ (by omega) ⟨fun h => by simp at h, fun h => by omega⟩ (fun c hc => ?_)
            rw [has_addN _ _ _ _ (by omega) hc, inI_snoc, ho c hc]
            congr 2
            exact decide_eq_decide.2 ⟨fun h => by omega, fun h => by omega⟩
      by_cases ha : a = 1 ∨ (a < l.length ∧ l[a]?.map UInt8.toNat ≠ some 93)
      · rw [if_pos ha]; exact rest
      · rw [if_neg ha]
        have hge : l.length ≤ a := by
          by_cases hlt : a < l.length
          · exact absurd (.inr ⟨hlt, h93⟩) ha
          · omega
        rw [if_pos hge, char_out hge]
        trivial
/-- the element with which a pattern begins -/
def fstR (l : List UInt8) : Option (REl × Nat) := match l[0]? with
  | none => none
  | some c => if c.toNat = 42 then (if l[1]?.map UInt8.toNat = some 42 then some (⟨1, []⟩, 2) else some (⟨2, []⟩, 1))
    else if c.toNat = 63 then some (⟨3, []⟩, 1)
    else if c.toNat = 91 then (match clsRF l (l.length + 1) 1 [] with
      | none => none
      | some (it, n) => some (⟨4, it⟩, n))
    else if c.toNat = 92 then (match l[1]? with
      | none => none
      | some d => some (⟨5, [(d.toNat, d.toNat)]⟩, 2))
    else some (⟨5, [(c.toNat, c.toNat)]⟩, 1)
def FstEq : Option (El × Nat) → Option (REl × Nat) → Prop
  | none, none => True
  | some (e, n), some (r, m) => n = m ∧ ElEq e r
  | _, _ => False
theorem lit_eq (c : Nat) (h : c < 256) : ElEq (litE c) ⟨5, [(c, c)]⟩ where
  many := rfl
  has := fun x hx => by
    unfold litE fitR inI
    dsimp only
    rw [has_add h hx, has_zero hx]
    rw [Bool.eq_iff_iff]
    simp
    omega
theorem fst_rel (l : List UInt8) : FstEq (fstS l) (fstR l) := by
  unfold fstS fstR
  cases l[0]? with
  | none => trivial
  | some c =>
    dsimp only
    by_cases h1 : c.toNat = 42
    · rw [if_pos h1, if_pos h1]
      by_cases h2 : l[1]?.map UInt8.toNat = some 42
      · rw [if_pos h2, if_pos h2]
        exact ⟨rfl, rfl, fun x hx => by dsimp only; rw [has_most hx]; simp [fitR]⟩
      · rw [if_neg h2, if_neg h2]
        exact ⟨rfl, rfl, fun x hx => by dsimp only; rw [has_most hx]; unfold fitR; by_cases h : x = 47 <;> simp [h]⟩
    · rw [if_neg h1, if_neg h1]
      by_cases h2 : c.toNat = 63
      · rw [if_pos h2, if_pos h2]
        exact ⟨rfl, rfl, fun x hx => by dsimp only; rw [has_most hx]; unfold fitR; by_cases h : x = 47 <;> simp [h]⟩
      · rw [if_neg h2, if_neg h2]
        by_cases h3 : c.toNat = 91
        · rw [if_pos h3, if_pos h3]
          have := cls_rel l (l.length + 1) 1 zeroS [] (Nat.le_refl _) ⟨fun _ => rfl, fun _ => rfl⟩ (fun x hx => by rw [has_zero hx]; rfl)
          unfold clsS
          cases hA : clsF l (l.length + 1) 1 zeroS with
          | none =>
            rw [hA] at this
            cases hB : clsRF l (l.length + 1) 1 [] with
            | none => trivial
            | some q => rw [hB] at this; exact this.elim
          | some p =>
            rw [hA] at this
            cases hB : clsRF l (l.length + 1) 1 [] with
            | none => rw [hB] at this; exact this.elim
            | some q =>
              rw [hB] at this
              obtain ⟨s, n⟩ := p
              obtain ⟨it, m⟩ := q
              obtain ⟨e1, e2⟩ := this
              refine ⟨e1, rfl, fun x hx => ?_⟩
              dsimp only
              rw [e2 x hx]
              unfold fitR
              by_cases h : x = 47 <;> simp [h]
        · rw [if_neg h3, if_neg h3]
          by_cases h4 : c.toNat = 92
          · rw [if_pos h4, if_pos h4]
            cases l[1]? with
            | none => trivial
            | some d => exact ⟨rfl, lit_eq _ d.toNat_lt⟩
          · rw [if_neg h4, if_neg h4]
            exact ⟨rfl, lit_eq _ c.toNat_lt⟩
def prsRF : Nat → List UInt8 → Option (List REl)
  | _, [] => some []
  | 0, _ :: _ => none
  | k + 1, c :: l => match fstR (c :: l) with
    | none => none
    | some (e, n) => (prsRF k ((c :: l).drop n)).map (e :: ·)
def prsR (l : List UInt8) : Option (List REl) := if 4096 < l.length then none else prsRF l.length l
def LEq : List El → List REl → Prop
  | [], [] => True
  | e :: es, r :: rs => ElEq e r ∧ LEq es rs
  | _, _ => False
def PrsEq : Option (List El) → Option (List REl) → Prop
  | none, none => True
  | some es, some rs => LEq es rs
  | _, _ => False
theorem prsF_rel : ∀ (k : Nat) (l : List UInt8), PrsEq (prsF k l) (prsRF k l)
  | _, [] => by unfold prsF prsRF; trivial
  | 0, _ :: _ => trivial
  | k + 1, c :: l => by
    have h := fst_rel (c :: l)
    unfold prsF prsRF
    cases hA : fstS (c :: l) with
    | none =>
      rw [hA] at h
      cases hB : fstR (c :: l) with
      | none => trivial
      | some q => rw [hB] at h; exact h.elim
    | some p =>
      rw [hA] at h
      cases hB : fstR (c :: l) with
      | none => rw [hB] at h; exact h.elim
      | some q =>
        rw [hB] at h
        obtain ⟨e, n⟩ := p
        obtain ⟨r, m⟩ := q
        obtain ⟨e1, e2⟩ := h
        subst e1
        dsimp only
        have ih := prsF_rel k ((c :: l).drop n)
        cases hC : prsF k ((c :: l).drop n) with
        | none =>
          rw [hC] at ih
          cases hD : prsRF k ((c :: l).drop n) with
          | none => trivial
          | some q => rw [hD] at ih; exact ih.elim
        | some es =>
          rw [hC] at ih
          cases hD : prsRF k ((c :: l).drop n) with
          | none => rw [hD] at ih; exact ih.elim
          | some rs => rw [hD] at ih; exact ⟨e2, ih⟩
theorem prs_rel (l : List UInt8) : PrsEq (prsS l) (prsR l) := by
  unfold prsS prsR
  by_cases h : 4096 < l.length
  · rw [if_pos h, if_pos h]; trivial
  · rw [if_neg h, if_neg h]; exact prsF_rel _ _
theorem LEq.len : ∀ {es : List El} {rs : List REl}, LEq es rs → es.length = rs.length
  | [], [], _ => rfl
  | _ :: _, _ :: _, h => by rw [List.length_cons, List.length_cons, LEq.len h.2]
  | [], _ :: _, h => h.elim
  | _ :: _, [], h => h.elim
theorem LEq.at_ : ∀ {es : List El} {rs : List REl} {k : Nat} {r : REl}, LEq es rs → rs[k]? = some r → ∃ e, es[k]? = some e ∧ ElEq e r
  | [], [], _, _, _, h => by simp at h
  | [], _ :: _, _, _, h, _ => h.elim
  | _ :: _, [], _, _, h, _ => h.elim
  | e :: es, r :: rs, 0, r', h, hr => by
    simp only [List.getElem?_cons_zero, Option.some.injEq] at hr
    subst hr
    exact ⟨e, rfl, h.1⟩
  | e :: es, r :: rs, k + 1, r', h, hr => by
    rw [List.getElem?_cons_succ] at hr ⊢
    exact LEq.at_ h.2 hr
theorem LEq.many {es : List El} {rs : List REl} {k : Nat} {r : REl} (h : LEq es rs) (hr : rs[k]? = some r) : manyAt es k = manyR r := by
  obtain ⟨e, h1, h2⟩ := h.at_ hr
  unfold manyAt
  rw [h1]
  exact h2.many
theorem LEq.has {es : List El} {rs : List REl} {k c : Nat} {r : REl} (h : LEq es rs) (hr : rs[k]? = some r) (hc : c < 256) : hasAt es c k = fitR r c := by
  obtain ⟨e, h1, h2⟩ := h.at_ hr
  unfold hasAt
  rw [h1]
  exact h2.has c hc
end Go.Proofs.YtgloblokkejgmaaDoor
