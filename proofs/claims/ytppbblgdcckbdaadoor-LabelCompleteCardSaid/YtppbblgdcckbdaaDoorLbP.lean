/- Labels and requirements, as plain functions: how they are read. No program in sight. -/
import Derived.Test.YtppbblgdcckbdaaDoorCmpP
namespace Go.Proofs.YtppbblgdcckbdaaDoor
/-- the number that digits denote -/
def digF : List UInt8 → Nat → Option Nat
  | [], a => some a
  | c :: r, a => if isDg c.toNat then digF r (10 * a + (c.toNat - 48)) else none
def numL (l : List UInt8) : Option Nat :=
  if l = [] ∨ 16 < l.length ∨ (1 < l.length ∧ l.head? = some 48) then none
  else match digF l 0 with
    | none => none
    | some n => if n ≤ 9007199254740992 then some n else none
structure Prt where
  form : Nat
  name : List UInt8
  n : Nat
  deriving DecidableEq
def bad : Prt := ⟨0, [], 0⟩
def isCo (c : Nat) : Bool := c == 60 || c == 61 || c == 62
/-- what precedes the first comparison, and what follows -/
def splitC : List UInt8 → List UInt8 × List UInt8
  | [] => ([], [])
  | c :: r => if isCo c.toNat then ([], c :: r) else (c :: (splitC r).1, (splitC r).2)
def partL (form : Nat) (name : List UInt8) (r : List UInt8) : Prt := match numL r with
  | none => bad
  | some n => if nameS name then ⟨form, name, n⟩ else bad
/-- the document's reading -/
def readC (name rest : List UInt8) : Prt :=
  if rest = [] ∧ nameS name = true then ⟨1, name, 0⟩
  else if 2 < rest.length ∧ rest.take 2 = [62, 61] then partL 3 name (rest.drop 2)
  else if 2 < rest.length ∧ rest.take 2 = [60, 61] then partL 4 name (rest.drop 2)
  else if 1 < rest.length ∧ rest.head? = some 61 then partL 5 name (rest.drop 1)
  else bad
def readL (s : List UInt8) : Prt :=
  if s.head? = some 33 then (if nameS s.tail then ⟨2, s.tail, 0⟩ else bad)
  else readC (splitC s).1 (splitC s).2
/-- what stands before and behind the first p -/
def cutL (p : List UInt8) : List UInt8 → Option (List UInt8 × List UInt8)
  | [] => if p = [] then some ([], []) else none
  | c :: r => if p.isPrefixOf (c :: r) then some ([], (c :: r).drop p.length) else (cutL p r).map fun x => (c :: x.1, x.2)
/-- the program's reading -/
def comL (s : List UInt8) : List (List UInt8 × Nat) → Prt
  | [] => bad
  | (p, f) :: ps => match cutL p s with
    | none => comL s ps
    | some (a, b) => partL f a b
def parseL (s : List UInt8) : Prt :=
  if nameS s then ⟨1, s, 0⟩
  else if s.head? = some 33 ∧ nameS s.tail = true then ⟨2, s.tail, 0⟩
  else comL s [([62, 61], 3), ([60, 61], 4), ([61], 5)]

theorem digF_all : ∀ (l : List UInt8) (a n : Nat), digF l a = some n → ∀ c ∈ l, isDg c.toNat = true
  | [], _, _, _ => by simp
  | c :: r, a, n, h => by
    unfold digF at h
    by_cases hd : isDg c.toNat = true
    · rw [if_pos hd] at h
      intro d hd2
      rcases List.mem_cons.1 hd2 with rfl | h2
      · exact hd
      · exact digF_all r _ _ h d h2
    · rw [if_neg hd] at h; cases h
theorem numL_all {l : List UInt8} {n : Nat} (h : numL l = some n) : l ≠ [] ∧ n ≤ 9007199254740992 ∧ ∀ c ∈ l, isDg c.toNat = true := by
  unfold numL at h
  split at h
  · cases h
  · rename_i hc
    split at h
    · cases h
    · rename_i m hm
      split at h
      · cases h
        exact ⟨fun e => hc (.inl e), by assumption, digF_all _ _ _ hm⟩
      · cases h
theorem isDg_co {c : Nat} (h : isDg c = true) : isCo c = false := by
  unfold isDg at h
  unfold isCo
  simp at h
  simp
  omega
theorem partL_co {f : Nat} {a b : List UInt8} (h : ∃ c ∈ b, isCo c.toNat = true) : partL f a b = bad := by
  obtain ⟨c, hc, hco⟩ := h
  unfold partL
  split
  · rfl
  · rename_i n hn
    have := isDg_co ((numL_all hn).2.2 c hc)
    rw [this] at hco; cases hco
theorem partL_name {f : Nat} {a b : List UInt8} (h : nameS a = false) : partL f a b = bad := by
  unfold partL
  split
  · rfl
  · rw [h]; rfl
theorem allC_char : ∀ (l : List UInt8) (i : Nat), allC i l = true → ∀ c ∈ l, isCo c.toNat = false ∧ c.toNat ≠ 33
  | [], _, _ => by simp
  | c :: r, i, h => by
    unfold allC at h
    rw [Bool.and_eq_true] at h
    intro d hd
    rcases List.mem_cons.1 hd with rfl | h2
    · have h1 := h.1
      unfold nameC lowC at h1
      unfold isCo
      simp at h1
      simp
      omega
    · exact allC_char r _ h.2 d h2
theorem name_char {l : List UInt8} (h : nameS l = true) : ∀ c ∈ l, isCo c.toNat = false ∧ c.toNat ≠ 33 := by
  unfold nameS at h
  rw [Bool.and_eq_true] at h
  exact allC_char l 0 h.2
theorem name_co {l : List UInt8} {c : UInt8} (hc : c ∈ l) (h : isCo c.toNat = true) : nameS l = false := by
  cases hn : nameS l with
  | false => rfl
  | true => rw [(name_char hn c hc).1] at h; cases h
theorem name_bang {l : List UInt8} (h : l.head? = some 33) : nameS l = false := by
  cases hn : nameS l with
  | false => rfl
  | true =>
    have hm : (33 : UInt8) ∈ l := by
      cases l with
      | nil => cases h
      | cons c r => cases h; exact List.mem_cons_self ..
    exact absurd rfl (name_char hn _ hm).2
theorem splitC_app : ∀ s : List UInt8, s = (splitC s).1 ++ (splitC s).2 ∧ (∀ c ∈ (splitC s).1, isCo c.toNat = false) ∧ ((splitC s).2 = [] ∨ ∃ c t, (splitC s).2 = c :: t ∧ isCo c.toNat = true)
  | [] => ⟨rfl, by simp [splitC], .inl rfl⟩
  | c :: r => by
    obtain ⟨h1, h2, h3⟩ := splitC_app r
    unfold splitC
    by_cases hc : isCo c.toNat = true
    · rw [if_pos hc]
      exact ⟨rfl, by simp, .inr ⟨c, r, rfl, hc⟩⟩
    · rw [if_neg hc]
      refine ⟨by show c :: r = c :: ((splitC r).1 ++ (splitC r).2); rw [← h1], ?_, h3⟩
      intro d hd
      rcases List.mem_cons.1 hd with rfl | hd
      · simpa using hc
      · exact h2 d hd
theorem cutL_app {p : List UInt8} : ∀ {s b x : List UInt8}, cutL p s = some (b, x) → s = b ++ p ++ x
  | [], b, x, h => by
    unfold cutL at h
    split at h
    · cases h; simp_all
    · cases h
  | c :: r, b, x, h => by
    unfold cutL at h
    split at h
    · rename_i hp
      cases h
      obtain ⟨t, ht⟩ := List.isPrefixOf_iff_prefix.1 hp
      rw [← ht]
      simp
    · cases hr : cutL p r with
      | none => rw [hr] at h; cases h
      | some y =>
        rw [hr] at h
        cases h
        have := cutL_app (s := r) (b := y.1) (x := y.2) hr
        simpa using this
theorem cutL_first {q : UInt8} {p : List UInt8} : ∀ {a x : List UInt8}, (∀ c ∈ a, c ≠ q) → cutL (q :: p) (a ++ (q :: p) ++ x) = some (a, x)
  | [], x, _ => by
    show cutL (q :: p) (q :: (p ++ x)) = _
    unfold cutL
    rw [if_pos (by rw [List.isPrefixOf_iff_prefix]; exact ⟨x, rfl⟩)]
    simp
  | c :: a, x, h => by
    show cutL (q :: p) (c :: (a ++ (q :: p) ++ x)) = _
    unfold cutL
    rw [if_neg, cutL_first (fun d hd => h d (List.mem_cons_of_mem _ hd))]
    · rfl
    · intro hp
      simp [List.isPrefixOf] at hp
      exact h c (List.mem_cons_self ..) hp.1.symm
/-- a cut that is not at the first comparison lies behind it -/
theorem cutL_later {q : UInt8} {p a t b x : List UInt8} {c : UInt8} (ha : ∀ d ∈ a, d ≠ q) (hn : ¬ (q :: p) <+: (c :: t)) (h : cutL (q :: p) (a ++ c :: t) = some (b, x)) : c ∈ b ∧ q ∈ t := by
  have e := cutL_app h
  rw [List.append_assoc] at e
  rcases List.append_eq_append_iff.1 e with ⟨l, hl, hr⟩ | ⟨l, hl, hr⟩
  · cases l with
    | nil =>
      simp at hr
      exact absurd ⟨x, by rw [hr.1, hr.2]; rfl⟩ hn
    | cons d l =>
      simp at hr
      obtain ⟨rfl, hr⟩ := hr
      exact ⟨by rw [hl]; simp, by rw [hr]; simp⟩
  · cases l with
    | nil =>
      simp at hr
      exact absurd ⟨x, by rw [hr.1, ← hr.2]; rfl⟩ hn
    | cons d l =>
      simp at hr
      exact absurd rfl (ha q (by rw [hl, hr.1]; simp))
theorem cutL_no {q : UInt8} {p s : List UInt8} (h : ∀ d ∈ s, d ≠ q) : cutL (q :: p) s = none := by
  cases hc : cutL (q :: p) s with
  | none => rfl
  | some y =>
    have := cutL_app (b := y.1) (x := y.2) hc
    exact absurd rfl (h q (by rw [this]; simp))
/-- both readings are equal -/
theorem parse_read (s : List UInt8) : parseL s = readL s := by
  obtain ⟨h1, h2, h3⟩ := splitC_app s
  unfold parseL readL
  generalize (splitC s).1 = a at *
  generalize (splitC s).2 = r at *
  have hne : ∀ q : UInt8, isCo q.toNat = true → ∀ d ∈ a, d ≠ q := fun q hq d hd e => by rw [e] at hd; rw [h2 q hd] at hq; cases hq
  rcases h3 with rfl | ⟨c, t, rfl, hc⟩
  · rw [List.append_nil] at h1
    subst h1
    by_cases hb : s.head? = some 33
    · rw [name_bang hb, if_neg (by simp), if_pos hb]
      by_cases ht : nameS s.tail = true
      · rw [if_pos ⟨hb, ht⟩, if_pos ht]
      · rw [if_neg (by simp [ht]), if_neg ht]
        simp [comL, cutL_no (hne 62 rfl), cutL_no (hne 60 rfl), cutL_no (hne 61 rfl)]
    · rw [if_neg hb]
      unfold readC
      by_cases hn : nameS s = true
      · rw [if_pos hn, if_pos ⟨rfl, hn⟩]
      · rw [if_neg hn, if_neg (by simp [hb]), if_neg (by simp [hn]), if_neg (by simp), if_neg (by simp), if_neg (by simp)]
        simp [comL, cutL_no (hne 62 rfl), cutL_no (hne 60 rfl), cutL_no (hne 61 rfl)]
  · have hcs : c ∈ s := by rw [h1]; simp
    rw [name_co hcs hc, if_neg (by simp)]
    have later : ∀ (q : UInt8) (p : List UInt8) (f : Nat) (b x : List UInt8), isCo q.toNat = true → ¬ (q :: p) <+: (c :: t) → cutL (q :: p) s = some (b, x) → partL f b x = bad ∧ ∃ d ∈ t, isCo d.toNat = true := fun q p f b x hq hn hcut => by
      rw [h1] at hcut
      have := cutL_later (hne q hq) hn hcut
      exact ⟨partL_name (name_co this.1 hc), q, this.2, hq⟩
    have first : ∀ (q : UInt8) (p x : List UInt8), isCo q.toNat = true → c :: t = (q :: p) ++ x → cutL (q :: p) s = some (a, x) := fun q p x hq e => by
      rw [h1, e, ← List.append_assoc]
      exact cutL_first (hne q hq)
    by_cases hb : s.head? = some 33
    · rw [if_pos hb]
      have ha : a.head? = some 33 := by
        cases a with
        | nil => rw [h1] at hb; cases hb; cases hc
        | cons d a => rw [h1] at hb; exact hb
      have hab : nameS a = false := name_bang ha
      have htail : nameS s.tail = false := name_co (c := c) (by
        cases a with
        | nil => cases ha
        | cons d a => rw [h1]; simp) hc
      rw [htail, if_neg (by simp), if_neg (by simp)]
      have one : ∀ (q : UInt8) (p : List UInt8) (f : Nat) (b x : List UInt8), isCo q.toNat = true → cutL (q :: p) s = some (b, x) → partL f b x = bad := fun q p f b x hq hcut => by
        by_cases hp : (q :: p) <+: (c :: t)
        · obtain ⟨y, hy⟩ := hp
          rw [first q p y hq hy.symm] at hcut
          cases hcut
          exact partL_name hab
        · exact (later q p f b x hq hp hcut).1
      unfold comL
      split
      · unfold comL
        split
        · unfold comL
          split
          · rfl
          · exact one _ _ _ _ _ rfl (by assumption)
        · exact one _ _ _ _ _ rfl (by assumption)
      · exact one _ _ _ _ _ rfl (by assumption)
    · rw [if_neg (by simp [hb]), if_neg hb]
      unfold readC
      rw [if_neg (by simp)]
      have hcc : c = 60 ∨ c = 61 ∨ c = 62 := by
        unfold isCo at hc
        simp at hc
        rcases hc with (h | h) | h
        · exact .inl (UInt8.toNat_inj.1 h)
        · exact .inr (.inl (UInt8.toNat_inj.1 h))
        · exact .inr (.inr (UInt8.toNat_inj.1 h))
      have empty : ∀ (f : Nat) (b : List UInt8), partL f b [] = bad := fun f b => rfl
      rcases hcc with rfl | rfl | rfl
      · -- <
        rw [if_neg (by simp)]
        by_cases ht : t.head? = some 61
        · obtain ⟨t2, rfl⟩ : ∃ t2, t = 61 :: t2 := by
            cases t with
            | nil => cases ht
            | cons d t => cases ht; exact ⟨t, rfl⟩
          unfold comL
          have hR : (if 2 < ((60 : UInt8) :: 61 :: t2).length ∧ ((60 : UInt8) :: 61 :: t2).take 2 = [60, 61] then partL 4 a (((60 : UInt8) :: 61 :: t2).drop 2) else if 1 < ((60 : UInt8) :: 61 :: t2).length ∧ ((60 : UInt8) :: 61 :: t2).head? = some 61 then partL 5 a (((60 : UInt8) :: 61 :: t2).drop 1) else bad) = partL 4 a t2 := by
            cases t2 with
            | nil => simp [empty]
            | cons d t2 => simp
          rw [hR]
          split
          · unfold comL
            rw [first 60 [61] t2 rfl rfl]
          · rename_i b x hcut
            obtain ⟨g1, d, hd, hdc⟩ := later 62 [61] 3 _ _ rfl (by simp) hcut
            rw [g1]
            have : ∃ d ∈ t2, isCo d.toNat = true := by
              have h62 := (cutL_later (q := 62) (p := [61]) (a := a) (t := 61 :: t2) (b := b) (x := x) (c := 60) (hne 62 rfl) (by simp) (by rw [← h1]; exact hcut)).2
              refine ⟨62, ?_, rfl⟩
              simpa using h62
            exact (partL_co this).symm
        · rw [if_neg (by
            rintro ⟨_, h⟩
            cases t with
            | nil => simp at h
            | cons d t => simp at h; simp [h] at ht), if_neg (by simp)]
          have np : ¬ [(60 : UInt8), 61] <+: (60 :: t) := by
            rintro ⟨y, hy⟩
            simp at hy
            rw [← hy] at ht
            simp at ht
          unfold comL
          split
          · unfold comL
            split
            · unfold comL
              split
              · rfl
              · exact (later 61 [] 5 _ _ rfl (by simp) (by assumption)).1
            · exact (later 60 [61] 4 _ _ rfl np (by assumption)).1
          · exact (later 62 [61] 3 _ _ rfl (by simp) (by assumption)).1
      · -- =
        rw [if_neg (by simp), if_neg (by simp)]
        have hR : (if 1 < ((61 : UInt8) :: t).length ∧ ((61 : UInt8) :: t).head? = some 61 then partL 5 a (((61 : UInt8) :: t).drop 1) else bad) = partL 5 a t := by
          cases t with
          | nil => simp [empty]
          | cons d t => simp
        rw [hR]
        unfold comL
        split
        · unfold comL
          split
          · unfold comL
            rw [first 61 [] t rfl rfl]
          · obtain ⟨g1, g2⟩ := later 60 [61] 4 _ _ rfl (by simp) (by assumption)
            rw [g1]
            exact (partL_co g2).symm
        · obtain ⟨g1, g2⟩ := later 62 [61] 3 _ _ rfl (by simp) (by assumption)
          rw [g1]
          exact (partL_co g2).symm
      · -- >
        by_cases ht : t.head? = some 61
        · obtain ⟨t2, rfl⟩ : ∃ t2, t = 61 :: t2 := by
            cases t with
            | nil => cases ht
            | cons d t => cases ht; exact ⟨t, rfl⟩
          unfold comL
          rw [first 62 [61] t2 rfl rfl]
          dsimp only
          cases t2 with
          | nil => simp [empty]
          | cons d t2 => simp
        · have np : ¬ [(62 : UInt8), 61] <+: (62 :: t) := by
            rintro ⟨y, hy⟩
            simp at hy
            rw [← hy] at ht
            simp at ht
          rw [if_neg (by
            rintro ⟨_, h⟩
            cases t with
            | nil => simp at h
            | cons d t => simp at h; simp [h] at ht), if_neg (by simp), if_neg (by simp)]
          unfold comL
          split
          · unfold comL
            split
            · unfold comL
              split
              · rfl
              · exact (later 61 [] 5 _ _ rfl (by simp) (by assumption)).1
            · exact (later 60 [61] 4 _ _ rfl (by simp) (by assumption)).1
          · exact (later 62 [61] 3 _ _ rfl np (by assumption)).1
end Go.Proofs.YtppbblgdcckbdaaDoor
