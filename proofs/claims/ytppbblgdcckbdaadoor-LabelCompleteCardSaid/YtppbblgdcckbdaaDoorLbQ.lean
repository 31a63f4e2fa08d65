/- Labels and requirements, as plain functions: what they mean. No program in sight. -/
import Derived.Test.YtppbblgdcckbdaaDoorLbP
namespace Go.Proofs.YtppbblgdcckbdaaDoor
abbrev MAXN : Nat := 9007199254740992
def labL (s : List UInt8) : Prt := if (readL s).form = 1 ∨ (readL s).form = 5 then readL s else bad
def thereL (l : List (List UInt8)) (nm : List UInt8) : Bool := l.any fun s => (labL s).form != 0 && (labL s).name == nm
def holdsN (t : Prt) (m : Nat) : Bool := if t.form = 3 then decide (t.n ≤ m) else if t.form = 4 then decide (m ≤ t.n) else decide (m = t.n)
def hitM (t : Prt) (s : List UInt8) : Bool := ((labL s).form != 0 && (labL s).name == t.name) && ((labL s).form == 5 && (decide (2 < t.form) && holdsN t (labL s).n))
def metL (l : List (List UInt8)) (t : Prt) : Bool := l.any (hitM t)
def satL (l : List (List UInt8)) (t : Prt) : Bool := if t.form = 0 then false else if t.form = 1 then thereL l t.name else if t.form = 2 then !thereL l t.name else metL l t
def satsL (l needs : List (List UInt8)) : Bool := needs.all fun s => satL l (readL s)
/-- the document's -/
def matchR (x t : Prt) : Bool := if x.form = 0 ∨ x.name ≠ t.name then false else if t.form = 1 ∨ t.form = 2 then true else decide (x.form = 5) && holdsN t x.n
def oneR (l : List (List UInt8)) (t : Prt) : Bool := decide (t.form ≠ 0) && (l.any (fun s => matchR (labL s) t) != decide (t.form = 2))
structure Fit (t : Prt) : Prop where
  lo : 1 ≤ t.form
  hi : t.form ≤ 5
  n : t.n ≤ MAXN
  name : nameS t.name = true
theorem partL_fit (f : Nat) (h1 : 1 ≤ f) (h5 : f ≤ 5) (a b : List UInt8) : partL f a b = bad ∨ Fit (partL f a b) := by
  unfold partL
  split
  · exact .inl rfl
  · rename_i n hn
    split
    · exact .inr ⟨h1, h5, (numL_all hn).2.1, by assumption⟩
    · exact .inl rfl
theorem readL_fit (s : List UInt8) : readL s = bad ∨ Fit (readL s) := by
  unfold readL
  split
  · split
    · exact .inr ⟨show (1 : Nat) ≤ 2 by decide, show (2 : Nat) ≤ 5 by decide, Nat.zero_le _, by assumption⟩
    · exact .inl rfl
  · unfold readC
    split
    · rename_i h
      exact .inr ⟨show (1 : Nat) ≤ 1 by decide, show (1 : Nat) ≤ 5 by decide, Nat.zero_le _, h.2⟩
    · split
      · exact partL_fit 3 (by decide) (by decide) _ _
      · split
        · exact partL_fit 4 (by decide) (by decide) _ _
        · split
          · exact partL_fit 5 (by decide) (by decide) _ _
          · exact .inl rfl
theorem labL_fit (s : List UInt8) : labL s = bad ∨ (Fit (labL s) ∧ ((labL s).form = 1 ∨ (labL s).form = 5)) := by
  unfold labL
  split
  · rename_i h
    rcases readL_fit s with e | e
    · exact .inl e
    · exact .inr ⟨e, h⟩
  · exact .inl rfl
theorem any_congr {α : Type} {l : List α} {f g : α → Bool} (h : ∀ x ∈ l, f x = g x) : l.any f = l.any g := by
  induction l with
  | nil => rfl
  | cons x l ih => simp only [List.any_cons, h x (List.mem_cons_self ..), ih fun y hy => h y (List.mem_cons_of_mem _ hy)]
theorem one_sat (l : List (List UInt8)) (t : Prt) (h5 : t.form ≤ 5) : oneR l t = satL l t := by
  unfold oneR satL
  by_cases h0 : t.form = 0
  · simp [h0]
  · rw [if_neg h0, decide_eq_true h0, Bool.true_and]
    by_cases h1 : t.form = 1
    · rw [if_pos h1, decide_eq_false (by omega)]
      simp only [Bool.bne_false]
      unfold thereL
      refine any_congr fun s _ => ?_
      unfold matchR
      by_cases hf : (labL s).form = 0 <;> by_cases hn : (labL s).name = t.name <;> simp [hf, hn, h1]
    · rw [if_neg h1]
      by_cases h2 : t.form = 2
      · rw [if_pos h2, decide_eq_true h2, Bool.bne_true]
        unfold thereL
        rw [any_congr (g := fun s => (labL s).form != 0 && (labL s).name == t.name)]
        intro s _
        unfold matchR
        by_cases hf : (labL s).form = 0 <;> by_cases hn : (labL s).name = t.name <;> simp [hf, hn, h2]
      · rw [if_neg h2, decide_eq_false h2]
        simp only [Bool.bne_false]
        unfold metL
        refine any_congr fun s _ => ?_
        unfold matchR hitM
        have : decide (2 < t.form) = true := decide_eq_true (by omega)
        by_cases hf : (labL s).form = 0 <;> by_cases hn : (labL s).name = t.name <;> simp [hf, hn, h1, h2, this] <;> (cases holdsN t (labL s).n <;> by_cases h5 : (labL s).form = 5 <;> simp [hf, h5])
/-- what is known of the label with a name: none; one without a number; one with a number -/
abbrev St := Option (Option Nat)
def Vst (s : St) : Prop := ∀ m, s = some (some m) → m ≤ MAXN
def okSt (t : Prt) (s : St) : Prop := if t.form = 1 then s ≠ none else if t.form = 2 then s = none else ∃ m, s = some (some m) ∧ holdsN t m = true
/-- the program's bounds -/
structure Bnd where
  absent : Bool
  there : Bool
  numbered : Bool
  lo : Nat
  hi : Nat
def b0 : Bnd := ⟨false, false, false, 0, MAXN⟩
def addB (b : Bnd) (t : Prt) : Bnd :=
  if t.form = 1 then { b with there := true }
  else if t.form = 2 then { b with absent := true }
  else ⟨b.absent, true, true, if t.form ≠ 4 then max b.lo t.n else b.lo, if t.form ≠ 3 then min b.hi t.n else b.hi⟩
def possB (b : Bnd) : Bool := !(b.absent && b.there) && decide (b.lo ≤ b.hi)
def impB (b : Bnd) (t : Prt) : Bool :=
  if t.form = 1 then b.there else if t.form = 2 then b.absent
  else if t.form = 3 then b.numbered && decide (t.n ≤ b.lo)
  else if t.form = 4 then b.numbered && decide (b.hi ≤ t.n)
  else b.numbered && (decide (b.lo = t.n) && decide (b.hi = t.n))
def bndF (nm : List UInt8) : Bnd → List Prt → Bnd
  | b, [] => b
  | b, t :: r => if t.name = nm then bndF nm (addB b t) r else bndF nm b r
def bndO (a : List Prt) (nm : List UInt8) : Bnd := bndF nm b0 a
def canF : List Prt → List Prt → Bool
  | _, [] => true
  | pre, t :: r => decide (t.form ≠ 0) && (possB (bndO (pre ++ [t]) t.name) && canF (pre ++ [t]) r)
def impA (a b : List Prt) : Bool := !canF [] a || b.all fun t => decide (t.form ≠ 0) && (a.any (fun x => x.name == t.name) && impB (bndO a t.name) t)
/-- the document's cases -/
structure Cs where
  absent : Bool
  plain : Bool
  lo : Nat
  hi : Nat
def c0 : Cs := ⟨true, true, 0, MAXN⟩
def meetC (c : Cs) (t : Prt) : Cs :=
  if t.form = 2 then ⟨c.absent, false, 1, 0⟩
  else ⟨false, c.plain && decide (t.form = 1), if t.form = 3 ∨ t.form = 5 then max c.lo t.n else c.lo, if t.form = 4 ∨ t.form = 5 then min c.hi t.n else c.hi⟩
def permF (nm : List UInt8) : Cs → List Prt → Cs
  | c, [] => c
  | c, t :: r => if t.form ≠ 0 ∧ t.name = nm then permF nm (meetC c t) r else permF nm c r
def permC (a : List Prt) (nm : List UInt8) : Cs := permF nm c0 a
def possC (c : Cs) : Bool := c.absent || (c.plain || decide (c.lo ≤ c.hi))
def withC (a b : Cs) : Bool := (!a.absent || b.absent) && ((!a.plain || b.plain) && (decide (a.hi < a.lo) || (decide (b.lo ≤ a.lo) && decide (a.hi ≤ b.hi))))
def canR (a : List Prt) : Bool := a.all fun t => decide (t.form ≠ 0) && possC (permC a t.name)
def impR (a b : List Prt) : Bool := !canR a || b.all fun t => decide (t.form ≠ 0) && withC (permC a t.name) (permC b t.name)
/-- the meaning -/
def semP (a : List Prt) (nm : List UInt8) (s : St) : Prop := ∀ x ∈ a, x.name = nm → okSt x s
def good (a : List Prt) : Prop := ∀ x ∈ a, Fit x
structure Pos (a : List Prt) : Prop where
  good : good a
  can : ∀ x ∈ a, ∃ s, Vst s ∧ semP a x.name s
def Sem (a b : List Prt) : Prop := ∀ t ∈ b, Fit t ∧ ∀ s, Vst s → semP a t.name s → okSt t s
def inB (b : Bnd) (s : St) : Prop := (b.absent = true → s = none) ∧ (b.there = true → s ≠ none) ∧ (b.numbered = true → ∃ m, s = some (some m)) ∧ ∀ m, s = some (some m) → b.lo ≤ m ∧ m ≤ b.hi
structure Wf (b : Bnd) : Prop where
  num : b.numbered = true → b.there = true
  free : b.numbered = false → b.lo = 0 ∧ b.hi = MAXN
  hi : b.hi ≤ MAXN
theorem wf_0 : Wf b0 := ⟨(fun h => by cases h), fun _ => ⟨rfl, rfl⟩, Nat.le_refl _⟩
theorem in_0 {s : St} (h : Vst s) : inB b0 s := ⟨(fun h => by cases h), (fun h => by cases h), (fun h => by cases h), fun m hm => ⟨Nat.zero_le _, h m hm⟩⟩
theorem wf_add {b : Bnd} (h : Wf b) (t : Prt) (hn : t.n ≤ MAXN) : Wf (addB b t) := by
  obtain ⟨h1, h2, h3⟩ := h
  unfold addB
  split
  · exact ⟨fun _ => rfl, h2, h3⟩
  · split
    · exact ⟨h1, h2, h3⟩
    · refine ⟨fun _ => rfl, fun h => (by cases h), ?_⟩
      show (if t.form ≠ 3 then min b.hi t.n else b.hi) ≤ MAXN
      split <;> omega
theorem in_add {b : Bnd} {t : Prt} (ht : Fit t) {s : St} : inB (addB b t) s ↔ inB b s ∧ okSt t s := by
  obtain ⟨h1, h5, _, _⟩ := ht
  unfold addB okSt
  by_cases e1 : t.form = 1
  · rw [if_pos e1, if_pos e1]
    unfold inB
    simp only
    constructor
    · rintro ⟨a, b, c, d⟩
      exact ⟨⟨a, fun _ => b trivial, c, d⟩, b trivial⟩
    · rintro ⟨⟨a, b, c, d⟩, e⟩
      exact ⟨a, fun _ => e, c, d⟩
  · rw [if_neg e1, if_neg e1]
    by_cases e2 : t.form = 2
    · rw [if_pos e2, if_pos e2]
      unfold inB
      simp only
      constructor
      · rintro ⟨a, b, c, d⟩
        exact ⟨⟨fun _ => a trivial, b, c, d⟩, a trivial⟩
      · rintro ⟨⟨a, b, c, d⟩, e⟩
        exact ⟨fun _ => e, b, c, d⟩
    · rw [if_neg e2, if_neg e2]
      unfold inB
      simp only
      have hr : ∀ m, ((if t.form ≠ 4 then max b.lo t.n else b.lo) ≤ m ∧ m ≤ (if t.form ≠ 3 then min b.hi t.n else b.hi)) ↔ ((b.lo ≤ m ∧ m ≤ b.hi) ∧ holdsN t m = true) := by
        intro m
        unfold holdsN
        have : t.form = 3 ∨ t.form = 4 ∨ t.form = 5 := by omega
        rcases this with e | e | e <;> simp [e] <;> omega
      constructor
      · rintro ⟨a, b, c, d⟩
        obtain ⟨m, rfl⟩ := c trivial
        obtain ⟨d1, d2⟩ := (hr m).1 (d m rfl)
        exact ⟨⟨a, fun _ => by simp, fun _ => ⟨m, rfl⟩, fun k hk => by cases hk; exact d1⟩, m, rfl, d2⟩
      · rintro ⟨⟨a, b, c, d⟩, m, rfl, e⟩
        exact ⟨a, fun _ => by simp, fun _ => ⟨m, rfl⟩, (fun k hk => by cases hk; exact (hr m).2 ⟨d m rfl, e⟩)⟩
theorem bndF_wf (nm : List UInt8) : ∀ (a : List Prt) (b : Bnd), good a → Wf b → Wf (bndF nm b a)
  | [], _, _, h => h
  | t :: r, b, hg, h => by
    unfold bndF
    split
    · exact bndF_wf nm r _ (fun x hx => hg x (List.mem_cons_of_mem _ hx)) (wf_add h t (hg t (List.mem_cons_self ..)).n)
    · exact bndF_wf nm r _ (fun x hx => hg x (List.mem_cons_of_mem _ hx)) h
theorem bndF_in (nm : List UInt8) {s : St} : ∀ (a : List Prt) (b : Bnd), good a → (inB (bndF nm b a) s ↔ inB b s ∧ semP a nm s)
  | [], b, _ => ⟨fun h => ⟨h, fun x hx => by cases hx⟩, fun h => h.1⟩
  | t :: r, b, hg => by
    have ih := fun b => bndF_in nm (s := s) r b (fun x hx => hg x (List.mem_cons_of_mem _ hx))
    unfold bndF
    by_cases e : t.name = nm
    · rw [if_pos e, ih, in_add (hg t (List.mem_cons_self ..))]
      constructor
      · rintro ⟨⟨h1, h2⟩, h3⟩
        exact ⟨h1, fun x hx hn => by
          rcases List.mem_cons.1 hx with rfl | hx
          · exact h2
          · exact h3 x hx hn⟩
      · rintro ⟨h1, h2⟩
        exact ⟨⟨h1, h2 t (List.mem_cons_self ..) e⟩, fun x hx => h2 x (List.mem_cons_of_mem _ hx)⟩
    · rw [if_neg e, ih]
      constructor
      · rintro ⟨h1, h3⟩
        exact ⟨h1, fun x hx hn => by
          rcases List.mem_cons.1 hx with rfl | hx
          · exact absurd hn e
          · exact h3 x hx hn⟩
      · rintro ⟨h1, h2⟩
        exact ⟨h1, fun x hx => h2 x (List.mem_cons_of_mem _ hx)⟩
theorem bndO_wf {a : List Prt} (h : good a) (nm : List UInt8) : Wf (bndO a nm) := bndF_wf nm a b0 h wf_0
theorem bndO_in {a : List Prt} (h : good a) {nm : List UInt8} {s : St} (hv : Vst s) : inB (bndO a nm) s ↔ semP a nm s := by
  unfold bndO
  rw [bndF_in nm a b0 h]
  exact ⟨fun h => h.2, fun h => ⟨in_0 hv, h⟩⟩
theorem poss_in {b : Bnd} (hw : Wf b) : possB b = true ↔ ∃ s, Vst s ∧ inB b s := by
  obtain ⟨h1, h2, h3⟩ := hw
  unfold possB
  rw [Bool.and_eq_true, decide_eq_true_eq]
  constructor
  · rintro ⟨ha, hl⟩
    by_cases hb : b.absent = true
    · have ht : b.there = false := by simpa [hb] using ha
      have hn : b.numbered = false := by
        cases hn : b.numbered with
        | false => rfl
        | true => rw [h1 hn] at ht; cases ht
      exact ⟨none, fun m h => (by cases h), fun _ => rfl, (fun h => by rw [ht] at h; cases h), (fun h => by rw [hn] at h; cases h), fun m h => by cases h⟩
    · exact ⟨some (some b.lo), (fun m h => by cases h; omega), fun h => absurd h hb, fun _ => by simp, fun _ => ⟨_, rfl⟩, (fun m h => by cases h; exact ⟨Nat.le_refl _, hl⟩)⟩
  · rintro ⟨s, hv, i1, i2, i3, i4⟩
    refine ⟨?_, ?_⟩
    · cases ha : b.absent with
      | false => rfl
      | true =>
        cases ht : b.there with
        | false => rfl
        | true => exact absurd (i1 ha) (i2 ht)
    · cases hn : b.numbered with
      | false => have := h2 hn; omega
      | true =>
        obtain ⟨m, rfl⟩ := i3 hn
        have := i4 m rfl
        omega
theorem imp_in {b : Bnd} (hw : Wf b) (hp : possB b = true) {t : Prt} (ht : Fit t) : impB b t = true ↔ ∀ s, Vst s → inB b s → okSt t s := by
  obtain ⟨s0, hv0, hs0⟩ := (poss_in hw).1 hp
  obtain ⟨h1, h2, h3⟩ := hw
  obtain ⟨g1, g5, gn, _⟩ := ht
  unfold possB at hp
  rw [Bool.and_eq_true, decide_eq_true_eq] at hp
  obtain ⟨ha, hl⟩ := hp
  -- the states that show that nothing is implied
  have plain : b.absent = false → b.numbered = false → inB b (some none) := fun e1 e2 => ⟨(fun h => by rw [e1] at h; cases h), fun _ => by simp, (fun h => by rw [e2] at h; cases h), fun m h => by cases h⟩
  have numb : b.absent = false → ∀ m, b.lo ≤ m → m ≤ b.hi → inB b (some (some m)) := fun e1 m l1 l2 => ⟨(fun h => by rw [e1] at h; cases h), fun _ => by simp, fun _ => ⟨m, rfl⟩, (fun k h => by cases h; exact ⟨l1, l2⟩)⟩
  have gone : b.there = false → inB b none := fun e => ⟨fun _ => rfl, (fun h => by rw [e] at h; cases h), (fun h => by rw [h1 h] at e; cases e), fun m h => by cases h⟩
  have vn : Vst none := fun m h => by cases h
  have vp : Vst (some none) := fun m h => by cases h
  have vm : ∀ m, m ≤ b.hi → Vst (some (some m)) := fun m hm k h => by cases h; omega
  have abs : b.there = true → b.absent = false := fun e => by
    cases hb : b.absent with
    | false => rfl
    | true => rw [hb, e] at ha; cases ha
  unfold impB okSt
  by_cases e1 : t.form = 1
  · simp only [e1, if_true]
    constructor
    · intro h s _ hs; exact hs.2.1 h
    · intro h
      cases hb : b.there with
      | true => rfl
      | false => exact absurd rfl (h none vn (gone hb))
  · by_cases e2 : t.form = 2
    · simp only [e2, if_true, show ¬ (2 = 1) by decide, if_false]
      constructor
      · intro h s _ hs; exact hs.1 h
      · intro h
        cases hb : b.absent with
        | true => rfl
        | false =>
          have := h _ (vm b.lo hl) (numb hb b.lo (Nat.le_refl _) hl)
          cases this
    · have hf : t.form = 3 ∨ t.form = 4 ∨ t.form = 5 := by omega
      simp only [e1, e2, if_false]
      have key : (b.numbered = true ∧ ∀ m, b.lo ≤ m → m ≤ b.hi → holdsN t m = true) ↔ ∀ s, Vst s → inB b s → ∃ m, s = some (some m) ∧ holdsN t m = true := by
        constructor
        · rintro ⟨h4, h5⟩ s hv hs
          obtain ⟨m, rfl⟩ := hs.2.2.1 h4
          have := hs.2.2.2 m rfl
          exact ⟨m, rfl, h5 m this.1 this.2⟩
        · intro h
          have hb : b.absent = false := by
            cases hb : b.absent with
            | false => rfl
            | true =>
              have ht : b.there = false := by simpa [hb] using ha
              obtain ⟨m, hm, _⟩ := h none vn (gone ht)
              cases hm
          refine ⟨?_, fun m l1 l2 => ?_⟩
          · cases hn : b.numbered with
            | true => rfl
            | false =>
              obtain ⟨m, hm, _⟩ := h _ vp (plain hb hn)
              cases hm
          · obtain ⟨k, hk, hh⟩ := h _ (vm m l2) (numb hb m l1 l2)
            cases hk
            exact hh
      rw [← key]
      unfold holdsN
      rcases hf with e | e | e
      · simp only [e, if_true, Bool.and_eq_true, decide_eq_true_eq]
        exact and_congr_right fun _ => ⟨fun h m l1 _ => by omega, fun h => h _ (Nat.le_refl _) hl⟩
      · simp only [e, if_true, show ¬ (4 = 3) by decide, if_false, Bool.and_eq_true, decide_eq_true_eq]
        exact and_congr_right fun _ => ⟨fun h m _ l2 => by omega, fun h => h _ hl (Nat.le_refl _)⟩
      · simp only [e, show ¬ (5 = 3) by decide, show ¬ (5 = 4) by decide, if_false, Bool.and_eq_true, decide_eq_true_eq]
        exact and_congr_right fun _ => ⟨fun h m l1 l2 => by omega, fun h => ⟨h _ (Nat.le_refl _) hl, h _ hl (Nat.le_refl _)⟩⟩
theorem impB_0 (t : Prt) : impB b0 t = false := by
  unfold impB b0
  simp
theorem bndF_out (nm : List UInt8) : ∀ (a : List Prt) (b : Bnd), a.any (fun x => x.name == nm) = false → bndF nm b a = b
  | [], _, _ => rfl
  | t :: r, b, h => by
    simp at h
    unfold bndF
    rw [if_neg h.1]
    exact bndF_out nm r b (by simpa using h.2)
theorem bndF_cons (nm : List UInt8) (b : Bnd) (t : Prt) (r : List Prt) : bndF nm b (t :: r) = if t.name = nm then bndF nm (addB b t) r else bndF nm b r := rfl
theorem bndF_nil (nm : List UInt8) (b : Bnd) : bndF nm b [] = b := rfl
theorem bndF_app (nm : List UInt8) : ∀ (a : List Prt) (b : Bnd) (r : List Prt), bndF nm b (a ++ r) = bndF nm (bndF nm b a) r
  | [], _, _ => rfl
  | t :: a, b, r => by
    rw [List.cons_append, bndF_cons, bndF_cons]
    split
    · exact bndF_app nm a _ r
    · exact bndF_app nm a _ r
theorem bndO_snoc (a : List Prt) (t : Prt) (nm : List UInt8) : bndO (a ++ [t]) nm = if t.name = nm then addB (bndO a nm) t else bndO a nm := by
  unfold bndO
  rw [bndF_app, bndF_cons, bndF_nil, bndF_nil]
theorem canF_iff : ∀ (r pre : List Prt), (∀ t ∈ r, t = bad ∨ Fit t) → good pre → (∀ x ∈ pre, possB (bndO pre x.name) = true) → (canF pre r = true ↔ good (pre ++ r) ∧ ∀ x ∈ pre ++ r, possB (bndO (pre ++ r) x.name) = true)
  | [], pre, _, hg, hp => by
    rw [List.append_nil]
    exact ⟨fun _ => ⟨hg, hp⟩, fun _ => rfl⟩
  | t :: r, pre, hr, hg, hp => by
    have e : pre ++ t :: r = (pre ++ [t]) ++ r := by simp
    unfold canF
    rw [Bool.and_eq_true, Bool.and_eq_true, decide_eq_true_eq]
    constructor
    · rintro ⟨h0, h1, h2⟩
      have ht : Fit t := by
        rcases hr t (List.mem_cons_self ..) with rfl | h
        · exact absurd rfl h0
        · exact h
      have hg2 : good (pre ++ [t]) := fun x hx => by
        rcases List.mem_append.1 hx with hx | hx
        · exact hg x hx
        · rw [List.mem_singleton.1 hx]; exact ht
      rw [e]
      refine (canF_iff r (pre ++ [t]) (fun x hx => hr x (List.mem_cons_of_mem _ hx)) hg2 (fun x hx => ?_)).1 h2
      by_cases hn : t.name = x.name
      · rw [← hn]; exact h1
      · rw [bndO_snoc, if_neg hn]
        rcases List.mem_append.1 hx with hx | hx
        · exact hp x hx
        · rw [List.mem_singleton.1 hx] at hn; exact absurd rfl hn
    · rintro ⟨h1, h2⟩
      rw [e] at h1 h2
      have ht : Fit t := h1 t (by simp)
      have hg2 : good (pre ++ [t]) := fun x hx => h1 x (List.mem_append_left _ hx)
      -- a prefix of what is possible is possible
      have hpre : ∀ nm, possB (bndO ((pre ++ [t]) ++ r) nm) = true → possB (bndO (pre ++ [t]) nm) = true := fun nm h => by
        obtain ⟨s, hv, hs⟩ := (poss_in (bndO_wf h1 nm)).1 h
        refine (poss_in (bndO_wf hg2 nm)).2 ⟨s, hv, (bndO_in hg2 hv).2 fun x hx => (bndO_in h1 hv).1 hs x (List.mem_append_left _ hx)⟩
      have hp2 : ∀ x ∈ pre ++ [t], possB (bndO (pre ++ [t]) x.name) = true := fun x hx => hpre _ (h2 x (List.mem_append_left _ hx))
      exact ⟨by have := ht.lo; omega, hp2 t (by simp), (canF_iff r (pre ++ [t]) (fun x hx => hr x (List.mem_cons_of_mem _ hx)) hg2 hp2).2 ⟨h1, h2⟩⟩
theorem can_pos {a : List Prt} (hr : ∀ t ∈ a, t = bad ∨ Fit t) : canF [] a = true ↔ Pos a := by
  rw [canF_iff a [] hr (fun x hx => by cases hx) (fun x hx => by cases hx), List.nil_append]
  constructor
  · rintro ⟨h1, h2⟩
    refine ⟨h1, fun x hx => ?_⟩
    obtain ⟨s, hv, hs⟩ := (poss_in (bndO_wf h1 x.name)).1 (h2 x hx)
    exact ⟨s, hv, (bndO_in h1 hv).1 hs⟩
  · rintro ⟨h1, h2⟩
    refine ⟨h1, fun x hx => ?_⟩
    obtain ⟨s, hv, hs⟩ := h2 x hx
    exact (poss_in (bndO_wf h1 x.name)).2 ⟨s, hv, (bndO_in h1 hv).2 hs⟩
/-- for any name, something is possible -/
theorem Pos.any {a : List Prt} (h : Pos a) (nm : List UInt8) : ∃ s, Vst s ∧ semP a nm s := by
  by_cases hx : ∃ x ∈ a, x.name = nm
  · obtain ⟨x, hx, rfl⟩ := hx
    exact h.can x hx
  · exact ⟨none, fun m h => (by cases h), fun x h1 h2 => absurd ⟨x, h1, h2⟩ hx⟩
/-- the program's Implies means what it should -/
theorem impA_iff {a b : List Prt} (ha : ∀ t ∈ a, t = bad ∨ Fit t) (hb : ∀ t ∈ b, t = bad ∨ Fit t) : impA a b = true ↔ (Pos a → Sem a b) := by
  unfold impA
  by_cases hc : canF [] a = true
  · have hp := (can_pos ha).1 hc
    rw [hc, Bool.not_true, Bool.false_or, List.all_eq_true]
    constructor
    · intro h _ t ht
      have := h t ht
      simp only [Bool.and_eq_true, decide_eq_true_eq] at this
      obtain ⟨h0, _, h2⟩ := this
      have hf : Fit t := by
        rcases hb t ht with rfl | hf
        · exact absurd rfl h0
        · exact hf
      have hpo : possB (bndO a t.name) = true := by
        obtain ⟨s, hv, hs⟩ := hp.any t.name
        exact (poss_in (bndO_wf hp.good _)).2 ⟨s, hv, (bndO_in hp.good hv).2 hs⟩
      exact ⟨hf, fun s hv hs => (imp_in (bndO_wf hp.good _) hpo hf).1 h2 s hv ((bndO_in hp.good hv).2 hs)⟩
    · intro h t ht
      obtain ⟨hf, hs⟩ := h hp t ht
      have hpo : possB (bndO a t.name) = true := by
        obtain ⟨s, hv, hs⟩ := hp.any t.name
        exact (poss_in (bndO_wf hp.good _)).2 ⟨s, hv, (bndO_in hp.good hv).2 hs⟩
      have hi : impB (bndO a t.name) t = true := (imp_in (bndO_wf hp.good _) hpo hf).2 fun s hv hs2 => hs s hv ((bndO_in hp.good hv).1 hs2)
      simp only [Bool.and_eq_true, decide_eq_true_eq]
      refine ⟨by have := hf.lo; omega, ?_, hi⟩
      cases hany : a.any (fun x => x.name == t.name) with
      | true => rfl
      | false =>
        unfold bndO at hi
        rw [bndF_out _ _ _ hany, impB_0] at hi
        cases hi
  · have hn : ¬ Pos a := fun h => hc ((can_pos ha).2 h)
    simp only [Bool.not_eq_true] at hc
    rw [hc]
    exact ⟨fun _ h => absurd h hn, fun _ => rfl⟩
/-! ## the document's -/
def inC (c : Cs) (s : St) : Prop := (s = none → c.absent = true) ∧ (s = some none → c.plain = true) ∧ ∀ m, s = some (some m) → c.lo ≤ m ∧ m ≤ c.hi
theorem inC_0 {s : St} (h : Vst s) : inC c0 s := ⟨fun _ => rfl, fun _ => rfl, fun m hm => ⟨Nat.zero_le _, h m hm⟩⟩
theorem inC_meet {c : Cs} {t : Prt} (ht : Fit t) {s : St} : inC (meetC c t) s ↔ inC c s ∧ okSt t s := by
  obtain ⟨h1, h5, _, _⟩ := ht
  unfold meetC okSt
  by_cases e2 : t.form = 2
  · simp only [e2, if_true, show ¬ (2 = 1) by decide, if_false]
    unfold inC
    simp only
    constructor
    · rintro ⟨a, b, d⟩
      rcases s with _ | _ | m
      · exact ⟨⟨a, fun h => (by cases h), fun m h => by cases h⟩, rfl⟩
      · cases b rfl
      · have := d m rfl; omega
    · rintro ⟨⟨a, b, d⟩, rfl⟩
      exact ⟨a, fun h => (by cases h), fun m h => by cases h⟩
  · simp only [e2, if_false]
    by_cases e1 : t.form = 1
    · simp only [e1, if_true]
      unfold inC
      simp
      constructor
      · rintro ⟨a, b, d⟩
        exact ⟨⟨fun h => absurd h a, b, d⟩, a⟩
      · rintro ⟨⟨a, b, d⟩, e⟩
        exact ⟨e, b, d⟩
    · simp only [e1, if_false]
      have hr : ∀ m, ((if t.form = 3 ∨ t.form = 5 then max c.lo t.n else c.lo) ≤ m ∧ m ≤ (if t.form = 4 ∨ t.form = 5 then min c.hi t.n else c.hi)) ↔ ((c.lo ≤ m ∧ m ≤ c.hi) ∧ holdsN t m = true) := by
        intro m
        unfold holdsN
        have : t.form = 3 ∨ t.form = 4 ∨ t.form = 5 := by omega
        rcases this with e | e | e <;> simp [e] <;> omega
      unfold inC
      simp only
      constructor
      · rintro ⟨a, b, d⟩
        rcases s with _ | _ | m
        · cases a rfl
        · have := b rfl; simp at this
        · obtain ⟨d1, d2⟩ := (hr m).1 (d m rfl)
          exact ⟨⟨fun h => (by cases h), fun h => (by cases h), fun k hk => by cases hk; exact d1⟩, m, rfl, d2⟩
      · rintro ⟨⟨a, b, d⟩, m, rfl, e⟩
        exact ⟨fun h => (by cases h), fun h => (by cases h), (fun k hk => by cases hk; exact (hr m).2 ⟨d m rfl, e⟩)⟩
theorem permF_in (nm : List UInt8) {s : St} : ∀ (a : List Prt) (c : Cs), good a → (inC (permF nm c a) s ↔ inC c s ∧ semP a nm s)
  | [], b, _ => ⟨fun h => ⟨h, fun x hx => by cases hx⟩, fun h => h.1⟩
  | t :: r, c, hg => by
    have ih := fun b => permF_in nm (s := s) r b (fun x hx => hg x (List.mem_cons_of_mem _ hx))
    have ht := hg t (List.mem_cons_self ..)
    have h0 : t.form ≠ 0 := by have := ht.lo; omega
    unfold permF
    by_cases e : t.name = nm
    · rw [if_pos ⟨h0, e⟩, ih, inC_meet ht]
      constructor
      · rintro ⟨⟨h1, h2⟩, h3⟩
        exact ⟨h1, fun x hx hn => by
          rcases List.mem_cons.1 hx with rfl | hx
          · exact h2
          · exact h3 x hx hn⟩
      · rintro ⟨h1, h2⟩
        exact ⟨⟨h1, h2 t (List.mem_cons_self ..) e⟩, fun x hx => h2 x (List.mem_cons_of_mem _ hx)⟩
    · rw [if_neg (fun h => e h.2), ih]
      constructor
      · rintro ⟨h1, h3⟩
        exact ⟨h1, fun x hx hn => by
          rcases List.mem_cons.1 hx with rfl | hx
          · exact absurd hn e
          · exact h3 x hx hn⟩
      · rintro ⟨h1, h2⟩
        exact ⟨h1, fun x hx => h2 x (List.mem_cons_of_mem _ hx)⟩
theorem permC_in {a : List Prt} (h : good a) {nm : List UInt8} {s : St} (hv : Vst s) : inC (permC a nm) s ↔ semP a nm s := by
  unfold permC
  rw [permF_in nm a c0 h]
  exact ⟨fun h => h.2, fun h => ⟨inC_0 hv, h⟩⟩
theorem permF_hi (nm : List UInt8) : ∀ (a : List Prt) (c : Cs), c.hi ≤ MAXN → (permF nm c a).hi ≤ MAXN
  | [], _, h => h
  | t :: r, c, h => by
    unfold permF
    split
    · refine permF_hi nm r _ ?_
      unfold meetC
      split
      · exact Nat.zero_le _
      · show (if t.form = 4 ∨ t.form = 5 then min c.hi t.n else c.hi) ≤ MAXN
        split <;> omega
    · exact permF_hi nm r _ h
theorem permC_hi (a : List Prt) (nm : List UInt8) : (permC a nm).hi ≤ MAXN := permF_hi nm a c0 (Nat.le_refl _)
theorem possC_in {c : Cs} (hh : c.hi ≤ MAXN) : possC c = true ↔ ∃ s, Vst s ∧ inC c s := by
  unfold possC
  simp only [Bool.or_eq_true, decide_eq_true_eq]
  constructor
  · rintro (h | h | h)
    · exact ⟨none, fun m h => (by cases h), fun _ => h, fun h => (by cases h), fun m h => by cases h⟩
    · exact ⟨some none, fun m h => (by cases h), fun h => (by cases h), fun _ => h, fun m h => by cases h⟩
    · exact ⟨some (some c.lo), (fun m h => by cases h; omega), fun h => (by cases h), fun h => (by cases h), (fun m hm => by cases hm; exact ⟨Nat.le_refl _, h⟩)⟩
  · rintro ⟨s, hv, h1, h2, h3⟩
    rcases s with _ | _ | m
    · exact .inl (h1 rfl)
    · exact .inr (.inl (h2 rfl))
    · have := h3 m rfl; exact .inr (.inr (by omega))
theorem withC_in {a b : Cs} (hh : a.hi ≤ MAXN) : withC a b = true ↔ ∀ s, Vst s → inC a s → inC b s := by
  unfold withC
  simp only [Bool.and_eq_true, Bool.or_eq_true, decide_eq_true_eq, Bool.not_eq_true']
  constructor
  · rintro ⟨h1, h2, h3⟩ s hv ⟨g1, g2, g3⟩
    refine ⟨fun e => ?_, fun e => ?_, fun m e => ?_⟩
    · rcases h1 with h | h
      · rw [g1 e] at h; cases h
      · exact h
    · rcases h2 with h | h
      · rw [g2 e] at h; cases h
      · exact h
    · have := g3 m e
      omega
  · intro h
    refine ⟨?_, ?_, ?_⟩
    · cases ha : a.absent with
      | false => exact .inl rfl
      | true => exact .inr ((h none (fun m h => by cases h) ⟨fun _ => ha, fun h => (by cases h), fun m h => by cases h⟩).1 rfl)
    · cases ha : a.plain with
      | false => exact .inl rfl
      | true => exact .inr ((h (some none) (fun m h => by cases h) ⟨fun h => (by cases h), fun _ => ha, fun m h => by cases h⟩).2.1 rfl)
    · by_cases hl : a.lo ≤ a.hi
      · have n1 := (h (some (some a.lo)) (fun m h => by cases h; omega) ⟨fun h => (by cases h), fun h => (by cases h), (fun m hm => by cases hm; exact ⟨Nat.le_refl _, hl⟩)⟩).2.2 _ rfl
        have n2 := (h (some (some a.hi)) (fun m h => by cases h; omega) ⟨fun h => (by cases h), fun h => (by cases h), (fun m hm => by cases hm; exact ⟨hl, Nat.le_refl _⟩)⟩).2.2 _ rfl
        omega
      · omega
theorem canR_iff {a : List Prt} (ha : ∀ t ∈ a, t = bad ∨ Fit t) : canR a = true ↔ Pos a := by
  unfold canR
  rw [List.all_eq_true]
  simp only [Bool.and_eq_true, decide_eq_true_eq]
  constructor
  · intro h
    have hg : good a := fun x hx => by
      rcases ha x hx with rfl | hf
      · exact absurd rfl (h _ hx).1
      · exact hf
    refine ⟨hg, fun x hx => ?_⟩
    obtain ⟨s, hv, hs⟩ := (possC_in (permC_hi a x.name)).1 (h x hx).2
    exact ⟨s, hv, (permC_in hg hv).1 hs⟩
  · intro h x hx
    obtain ⟨s, hv, hs⟩ := h.can x hx
    exact ⟨by have := (h.good x hx).lo; omega, (possC_in (permC_hi a x.name)).2 ⟨s, hv, (permC_in h.good hv).2 hs⟩⟩
theorem impR_iff {a b : List Prt} (ha : ∀ t ∈ a, t = bad ∨ Fit t) (hb : ∀ t ∈ b, t = bad ∨ Fit t) : impR a b = true ↔ (Pos a → Sem a b) := by
  unfold impR
  by_cases hc : canR a = true
  · have hp := (canR_iff ha).1 hc
    rw [hc, Bool.not_true, Bool.false_or, List.all_eq_true]
    simp only [Bool.and_eq_true, decide_eq_true_eq]
    constructor
    · intro h _ t ht
      have hg : good b := fun x hx => by
        rcases hb x hx with rfl | hf
        · exact absurd rfl (h _ hx).1
        · exact hf
      refine ⟨hg t ht, fun s hv hs => ?_⟩
      exact (permC_in hg hv).1 ((withC_in (permC_hi a t.name)).1 (h t ht).2 s hv ((permC_in hp.good hv).2 hs)) t ht rfl
    · intro h t ht
      have h2 := h hp
      have hg : good b := fun x hx => (h2 x hx).1
      refine ⟨by have := (hg t ht).lo; omega, (withC_in (permC_hi a t.name)).2 fun s hv hs => (permC_in hg hv).2 fun x hx hn => ?_⟩
      exact (h2 x hx).2 s hv (by rw [hn]; exact (permC_in hp.good hv).1 hs)
  · have hn : ¬ Pos a := fun h => hc ((canR_iff ha).2 h)
    simp only [Bool.not_eq_true] at hc
    rw [hc]
    exact ⟨fun _ h => absurd h hn, fun _ => rfl⟩
theorem imp_eq {a b : List Prt} (ha : ∀ t ∈ a, t = bad ∨ Fit t) (hb : ∀ t ∈ b, t = bad ∨ Fit t) : impA a b = impR a b := by
  rw [Bool.eq_iff_iff, impA_iff ha hb, impR_iff ha hb]
/-! ## the order -/
theorem imp_part {a b : List Prt} (ha : ∀ t ∈ a, t = bad ∨ Fit t) (h : ∀ t ∈ b, t ∈ a) : impA a b = true :=
  (impA_iff ha fun t ht => ha t (h t ht)).2 fun hp t ht => ⟨hp.good t (h t ht), fun s _ hs => hs t (h t ht) rfl⟩
theorem imp_trans {a b c : List Prt} (ha : ∀ t ∈ a, t = bad ∨ Fit t) (hb : ∀ t ∈ b, t = bad ∨ Fit t) (hc : ∀ t ∈ c, t = bad ∨ Fit t) (h1 : impA a b = true) (h2 : impA b c = true) : impA a c = true := by
  refine (impA_iff ha hc).2 fun hp => ?_
  have s1 := (impA_iff ha hb).1 h1 hp
  have hpb : Pos b := by
    refine ⟨fun x hx => (s1 x hx).1, fun x hx => ?_⟩
    obtain ⟨s, hv, hs⟩ := hp.any x.name
    exact ⟨s, hv, fun y hy hn => (s1 y hy).2 s hv (by rw [hn]; exact hs)⟩
  have s2 := (impA_iff hb hc).1 h2 hpb
  exact fun t ht => ⟨(s2 t ht).1, fun s hv hs => (s2 t ht).2 s hv fun x hx hn => (s1 x hx).2 s hv (by rw [hn]; exact hs)⟩
/-! ## labels with different names -/
def stL : List (List UInt8) → List UInt8 → St
  | [], _ => none
  | s :: l, nm => if (labL s).form ≠ 0 ∧ (labL s).name = nm then (if (labL s).form = 5 then some (some (labL s).n) else some none) else stL l nm
theorem stL_cons (s : List UInt8) (l : List (List UInt8)) (nm : List UInt8) : stL (s :: l) nm = if (labL s).form ≠ 0 ∧ (labL s).name = nm then (if (labL s).form = 5 then some (some (labL s).n) else some none) else stL l nm := rfl
theorem stL_valid : ∀ (l : List (List UInt8)) (nm : List UInt8), Vst (stL l nm)
  | [], _ => fun m h => by cases h
  | s :: l, nm => by
    unfold stL
    split
    · rename_i h
      split
      · intro m hm
        cases hm
        rcases labL_fit s with e | e
        · rw [e] at h; exact absurd rfl h.1
        · exact e.1.n
      · intro m hm; cases hm
    · exact stL_valid l nm
theorem there_st : ∀ (l : List (List UInt8)) (nm : List UInt8), thereL l nm = (stL l nm).isSome
  | [], _ => rfl
  | s :: l, nm => by
    have ih := there_st l nm
    unfold thereL at ih ⊢
    rw [List.any_cons, ih, stL_cons]
    by_cases h : (labL s).form ≠ 0 ∧ (labL s).name = nm
    · rw [if_pos h]
      have : ((labL s).form != 0 && (labL s).name == nm) = true := by simp [h.1, h.2]
      rw [this, Bool.true_or]
      split <;> rfl
    · rw [if_neg h]
      have : ((labL s).form != 0 && (labL s).name == nm) = false := by
        by_cases h0 : (labL s).form = 0
        · simp [h0]
        · have : (labL s).name ≠ nm := fun e => h ⟨h0, e⟩
          simp [this]
      rw [this, Bool.false_or]
/-- labels whose names differ -/
def Dist (l : List (List UInt8)) : Prop := l.Pairwise fun a b => ¬ ((labL a).form ≠ 0 ∧ (labL b).form ≠ 0 ∧ (labL a).name = (labL b).name)
theorem stL_none : ∀ {l : List (List UInt8)} {nm : List UInt8}, (∀ s ∈ l, ¬ ((labL s).form ≠ 0 ∧ (labL s).name = nm)) → stL l nm = none
  | [], _, _ => rfl
  | s :: l, nm, h => by
    unfold stL
    rw [if_neg (h s (List.mem_cons_self ..))]
    exact stL_none fun x hx => h x (List.mem_cons_of_mem _ hx)
theorem met_st {t : Prt} (ht : 2 < t.form) : ∀ {l : List (List UInt8)}, Dist l → (metL l t = true ↔ ∃ m, stL l t.name = some (some m) ∧ holdsN t m = true)
  | [], _ => by simp [metL, stL]
  | s :: l, hd => by
    have hd1 := (List.pairwise_cons.1 hd).1
    have ih := met_st ht (List.pairwise_cons.1 hd).2
    unfold metL at ih ⊢
    rw [List.any_cons, Bool.or_eq_true, ih, stL_cons]
    unfold hitM
    by_cases h : (labL s).form ≠ 0 ∧ (labL s).name = t.name
    · rw [if_pos h]
      have hn : stL l t.name = none := stL_none fun x hx hc => hd1 x hx ⟨h.1, hc.1, h.2.trans hc.2.symm⟩
      rw [hn]
      by_cases h5 : (labL s).form = 5
      · simp [h5, h.2, ht]
      · simp [h5]
    · rw [if_neg h]
      have : ((labL s).form != 0 && (labL s).name == t.name) = false := by
        by_cases h0 : (labL s).form = 0
        · simp [h0]
        · have : (labL s).name ≠ t.name := fun e => h ⟨h0, e⟩
          simp [this]
      rw [this]
      simp
theorem sat_st {t : Prt} (ht : Fit t) {l : List (List UInt8)} (hd : Dist l) : satL l t = true ↔ okSt t (stL l t.name) := by
  obtain ⟨h1, h5, _, _⟩ := ht
  unfold satL okSt
  rw [if_neg (by omega)]
  by_cases e1 : t.form = 1
  · rw [if_pos e1, if_pos e1, there_st]
    cases stL l t.name <;> simp
  · rw [if_neg e1, if_neg e1]
    by_cases e2 : t.form = 2
    · rw [if_pos e2, if_pos e2, there_st]
      cases stL l t.name <;> simp
    · rw [if_neg e2, if_neg e2]
      exact met_st (by omega) hd
abbrev prts (l : List (List UInt8)) : List Prt := l.map readL
theorem prts_fit (l : List (List UInt8)) : ∀ t ∈ prts l, t = bad ∨ Fit t := fun t ht => by
  obtain ⟨s, _, rfl⟩ := List.mem_map.1 ht
  exact readL_fit s
theorem sat_bad (l : List (List UInt8)) : satL l bad = false := rfl
theorem sats_all {l needs : List (List UInt8)} : satsL l needs = true ↔ ∀ t ∈ prts needs, satL l t = true := by
  unfold satsL
  rw [List.all_eq_true]
  constructor
  · intro h t ht
    obtain ⟨s, hs, rfl⟩ := List.mem_map.1 ht
    exact h s hs
  · intro h s hs
    exact h _ (List.mem_map.2 ⟨s, hs, rfl⟩)
/-- labels that satisfy requirements satisfy what these imply -/
theorem sound {l a b : List (List UInt8)} (hd : Dist l) (h1 : satsL l a = true) (h2 : impA (prts a) (prts b) = true) : satsL l b = true := by
  rw [sats_all] at h1 ⊢
  have hg : good (prts a) := fun x hx => by
    rcases prts_fit a x hx with rfl | hf
    · have := h1 _ hx; rw [sat_bad] at this; cases this
    · exact hf
  have hs : ∀ nm, semP (prts a) nm (stL l nm) := fun nm x hx hn => by
    have := (sat_st (hg x hx) hd).1 (h1 x hx)
    rw [hn] at this
    exact this
  have hp : Pos (prts a) := ⟨hg, fun x _ => ⟨_, stL_valid l x.name, hs x.name⟩⟩
  intro t ht
  obtain ⟨hf, hi⟩ := (impA_iff (prts_fit a) (prts_fit b)).1 h2 hp t ht
  exact (sat_st hf hd).2 (hi _ (stL_valid l t.name) (hs t.name))
end Go.Proofs.YtppbblgdcckbdaaDoor
