/- Secrets as plain lists: Put, its order. No program in sight. -/
import Derived.Test.YtgloblokkejgmaaDoorCmpP
namespace Go.Proofs.YtgloblokkejgmaaDoor
structure Sec where
  name : ByteArray
  text : ByteArray
  level : Int
  refs : List ByteArray
  envs : List ByteArray
abbrev Sec.nm (s : Sec) : List UInt8 := s.name.data.toList
/-- the first place at which f holds, or the length -/
def posA {α : Type} (f : α → Bool) : List α → Nat
  | [] => 0
  | x :: l => if f x then 0 else posA f l + 1
theorem posA_le {α : Type} (f : α → Bool) : ∀ l : List α, posA f l ≤ l.length
  | [] => Nat.le_refl _
  | x :: l => by
    have := posA_le f l
    unfold posA
    split
    · exact Nat.zero_le _
    · simp; exact this
theorem posA_lt {α : Type} {f : α → Bool} : ∀ {l : List α}, posA f l < l.length ↔ ∃ x ∈ l, f x = true
  | [] => by simp [posA]
  | x :: l => by
    have ih := posA_lt (f := f) (l := l)
    unfold posA
    by_cases h : f x = true
    · rw [if_pos h]
      exact ⟨fun _ => ⟨x, List.mem_cons_self .., h⟩, fun _ => by simp⟩
    · rw [if_neg h]
      constructor
      · intro hp
        obtain ⟨y, hy, hf⟩ := ih.1 (by simpa using hp)
        exact ⟨y, List.mem_cons_of_mem _ hy, hf⟩
      · rintro ⟨y, hy, hf⟩
        rcases List.mem_cons.1 hy with rfl | hy
        · exact absurd hf h
        · have := ih.2 ⟨y, hy, hf⟩
          simp; exact this
theorem posA_at {α : Type} {f : α → Bool} : ∀ {l : List α} {x : α}, l[posA f l]? = some x → f x = true
  | [], _, h => by simp at h
  | y :: l, x, h => by
    unfold posA at h
    by_cases hy : f y = true
    · rw [if_pos hy] at h
      simp at h
      rw [← h]; exact hy
    · rw [if_neg hy] at h
      exact posA_at (by simpa using h)
/-- behind i elements at which f does not hold -/
theorem posA_drop {α : Type} {f : α → Bool} : ∀ {l : List α} {i : Nat}, i ≤ l.length → (∀ x ∈ l.take i, f x = false) → posA f l = i + posA f (l.drop i)
  | l, 0, _, _ => by simp
  | [], i + 1, h, _ => by simp at h
  | y :: l, i + 1, h, hf => by
    have ih := posA_drop (f := f) (l := l) (i := i) (by simpa using h) (fun x hx => hf x (by simp [hx]))
    show (if f y = true then 0 else posA f l + 1) = _
    rw [if_neg (by rw [hf y (by simp)]; simp), ih, List.drop_succ_cons]
    omega
def sameN (nm : List UInt8) (x : Sec) : Bool := x.nm == nm
def aftN (nm : List UInt8) (x : Sec) : Bool := decide (0 < cmpN x.nm nm)
/-- a secret added or replaced, whatever the number of secrets -/
def putL (l : List Sec) (s : Sec) : List Sec :=
  if posA (sameN s.nm) l < l.length then l.set (posA (sameN s.nm) l) s
  else l.take (posA (aftN s.nm) l) ++ s :: l.drop (posA (aftN s.nm) l)
def Asc (l : List Sec) : Prop := l.Pairwise fun a b => cmpN a.nm b.nm < 0
def insS (s : Sec) : List Sec → List Sec
  | [] => [s]
  | x :: l => if x.nm = s.nm then s :: l else if 0 < cmpN x.nm s.nm then s :: x :: l else x :: insS s l
theorem put_ins {s : Sec} : ∀ {l : List Sec}, Asc l → putL l s = insS s l
  | [], _ => rfl
  | x :: l, h => by
    have h1 := (List.pairwise_cons.1 h).1
    have ih := put_ins (s := s) (List.pairwise_cons.1 h).2
    unfold insS
    by_cases he : x.nm = s.nm
    · rw [if_pos he]
      unfold putL posA
      rw [if_pos (show sameN s.nm x = true by unfold sameN; simp [he]), if_pos (by simp)]
      rfl
    · rw [if_neg he]
      have hs : sameN s.nm x = false := by unfold sameN; simpa using he
      by_cases hex : posA (sameN s.nm) l < l.length
      · obtain ⟨y, hy, hyn⟩ := posA_lt.1 hex
        have hye : y.nm = s.nm := by unfold sameN at hyn; simpa using hyn
        have hlt : cmpN x.nm s.nm < 0 := by rw [← hye]; exact h1 y hy
        rw [if_neg (by omega), ← ih]
        have e : posA (sameN s.nm) (x :: l) = posA (sameN s.nm) l + 1 := by
          show (if sameN s.nm x = true then 0 else _) = _
          rw [if_neg (by rw [hs]; simp)]
        unfold putL
        rw [e, if_pos (by simp; exact hex), if_pos hex]
        rfl
      · have e : posA (sameN s.nm) (x :: l) = posA (sameN s.nm) l + 1 := by
          show (if sameN s.nm x = true then 0 else _) = _
          rw [if_neg (by rw [hs]; simp)]
        unfold putL at ih ⊢
        rw [e, if_neg (by simp; omega)]
        rw [if_neg hex] at ih
        by_cases ha : 0 < cmpN x.nm s.nm
        · have e2 : posA (aftN s.nm) (x :: l) = 0 := by
            show (if aftN s.nm x = true then 0 else _) = _
            rw [if_pos (by unfold aftN; simpa using ha)]
          rw [if_pos ha, e2]
          rfl
        · have e2 : posA (aftN s.nm) (x :: l) = posA (aftN s.nm) l + 1 := by
            show (if aftN s.nm x = true then 0 else _) = _
            rw [if_neg (by unfold aftN; simpa using ha)]
          rw [if_neg ha, e2, ← ih]
          rfl
theorem ins_mem {s : Sec} : ∀ {l : List Sec} {x : Sec}, Asc l → (x ∈ insS s l ↔ x = s ∨ (x ∈ l ∧ x.nm ≠ s.nm))
  | [], x, _ => by simp [insS]
  | y :: l, x, h => by
    obtain ⟨h1, h2⟩ := List.pairwise_cons.1 h
    have ih := ins_mem (s := s) (x := x) h2
    have hno : ∀ z ∈ l, 0 ≤ cmpN y.nm s.nm → z.nm ≠ s.nm := fun z hz h0 e => by
      have := h1 z hz
      rw [e] at this
      omega
    unfold insS
    by_cases he : y.nm = s.nm
    · rw [if_pos he, List.mem_cons, List.mem_cons]
      constructor
      · rintro (e | e)
        · exact .inl e
        · exact .inr ⟨.inr e, hno x e (by rw [he, cmpN_zero.2 rfl]; exact Int.le_refl _)⟩
      · rintro (e | ⟨e | e, hn⟩)
        · exact .inl e
        · rw [e] at hn; exact absurd he hn
        · exact .inr e
    · rw [if_neg he]
      by_cases ha : 0 < cmpN y.nm s.nm
      · rw [if_pos ha, List.mem_cons, List.mem_cons]
        constructor
        · rintro (e | e | e)
          · exact .inl e
          · exact .inr ⟨.inl e, by rw [e]; exact he⟩
          · exact .inr ⟨.inr e, hno x e (by omega)⟩
        · rintro (e | ⟨e, _⟩)
          · exact .inl e
          · exact .inr e
      · rw [if_neg ha, List.mem_cons, List.mem_cons, ih]
        constructor
        · rintro (e | e | ⟨e, hn⟩)
          · exact .inr ⟨.inl e, by rw [e]; exact he⟩
          · exact .inl e
          · exact .inr ⟨.inr e, hn⟩
        · rintro (e | ⟨e | e, hn⟩)
          · exact .inr (.inl e)
          · exact .inl e
          · exact .inr (.inr ⟨e, hn⟩)
theorem ins_asc {s : Sec} : ∀ {l : List Sec}, Asc l → Asc (insS s l)
  | [], _ => List.pairwise_singleton _ _
  | y :: l, h => by
    obtain ⟨h1, h2⟩ := List.pairwise_cons.1 h
    unfold insS
    by_cases he : y.nm = s.nm
    · rw [if_pos he]
      exact List.pairwise_cons.2 ⟨fun z hz => by rw [← he]; exact h1 z hz, h2⟩
    · rw [if_neg he]
      by_cases ha : 0 < cmpN y.nm s.nm
      · rw [if_pos ha]
        have hsy : cmpN s.nm y.nm < 0 := by rw [cmpN_swap]; omega
        refine List.pairwise_cons.2 ⟨fun z hz => ?_, h⟩
        rcases List.mem_cons.1 hz with rfl | hz
        · exact hsy
        · exact cmpN_trans hsy (h1 z hz)
      · rw [if_neg ha]
        have hys : cmpN y.nm s.nm < 0 := by
          have : cmpN y.nm s.nm ≠ 0 := fun e => he (cmpN_zero.1 e)
          omega
        refine List.pairwise_cons.2 ⟨fun z hz => ?_, ins_asc h2⟩
        rcases (ins_mem h2).1 hz with rfl | ⟨hz, _⟩
        · exact hys
        · exact h1 z hz
/-- lists in order with the same elements are equal -/
theorem asc_ext : ∀ {l m : List Sec}, Asc l → Asc m → (∀ x, x ∈ l ↔ x ∈ m) → l = m
  | [], [], _, _, _ => rfl
  | [], y :: m, _, _, h => absurd ((h y).2 (List.mem_cons_self ..)) (by simp)
  | x :: l, [], _, _, h => absurd ((h x).1 (List.mem_cons_self ..)) (by simp)
  | x :: l, y :: m, hl, hm, h => by
    obtain ⟨l1, l2⟩ := List.pairwise_cons.1 hl
    obtain ⟨m1, m2⟩ := List.pairwise_cons.1 hm
    have hirr : ∀ a : Sec, ¬ cmpN a.nm a.nm < 0 := fun a e => by rw [cmpN_zero.2 rfl] at e; omega
    have hxy : x = y := by
      rcases List.mem_cons.1 ((h x).1 (List.mem_cons_self ..)) with e | e
      · exact e
      · rcases List.mem_cons.1 ((h y).2 (List.mem_cons_self ..)) with e2 | e2
        · exact e2.symm
        · exact absurd (cmpN_trans (m1 x e) (l1 y e2)) (hirr y)
    subst hxy
    rw [asc_ext l2 m2 fun z => ?_]
    constructor
    · intro hz
      rcases List.mem_cons.1 ((h z).1 (List.mem_cons_of_mem _ hz)) with e | e
      · rw [e] at hz; exact absurd (l1 x hz) (hirr x)
      · exact e
    · intro hz
      rcases List.mem_cons.1 ((h z).2 (List.mem_cons_of_mem _ hz)) with e | e
      · rw [e] at hz; exact absurd (m1 x hz) (hirr x)
      · exact e
theorem put_asc {l : List Sec} (h : Asc l) (s : Sec) : Asc (putL l s) := by rw [put_ins h]; exact ins_asc h
theorem put_comm {l : List Sec} (h : Asc l) {s t : Sec} (hn : s.nm ≠ t.nm) : putL (putL l s) t = putL (putL l t) s := by
  rw [put_ins (put_asc h s), put_ins (put_asc h t), put_ins h, put_ins h]
  refine asc_ext (ins_asc (ins_asc h)) (ins_asc (ins_asc h)) fun x => ?_
  rw [ins_mem (ins_asc h), ins_mem (ins_asc h), ins_mem h, ins_mem h]
  constructor
  · rintro (rfl | ⟨rfl | ⟨h1, h2⟩, h3⟩)
    · exact .inr ⟨.inl rfl, fun e => hn e.symm⟩
    · exact .inl rfl
    · exact .inr ⟨.inr ⟨h1, h3⟩, h2⟩
  · rintro (rfl | ⟨rfl | ⟨h1, h2⟩, h3⟩)
    · exact .inr ⟨.inl rfl, hn⟩
    · exact .inl rfl
    · exact .inr ⟨.inr ⟨h1, h3⟩, h2⟩
theorem put_len {l : List Sec} {s : Sec} : (putL l s).length ≤ l.length + 1 := by
  unfold putL
  split
  · rw [List.length_set]; omega
  · simp [List.length_take, List.length_drop]; omega
/-- in order, as the document tests it -/
def ascB : List Sec → Bool
  | [] => true
  | [_] => true
  | x :: y :: l => decide (cmpN x.nm y.nm < 0) && ascB (y :: l)
theorem ascB_iff : ∀ {l : List Sec}, ascB l = true ↔ Asc l
  | [] => ⟨fun _ => List.Pairwise.nil, fun _ => rfl⟩
  | [x] => ⟨fun _ => List.pairwise_singleton _ _, fun _ => rfl⟩
  | x :: y :: l => by
    have ih := ascB_iff (l := y :: l)
    unfold ascB
    rw [Bool.and_eq_true, ih, decide_eq_true_eq]
    constructor
    · rintro ⟨h1, h2⟩
      refine List.pairwise_cons.2 ⟨fun z hz => ?_, h2⟩
      rcases List.mem_cons.1 hz with rfl | hz
      · exact h1
      · exact cmpN_trans h1 ((List.pairwise_cons.1 h2).1 z hz)
    · intro h
      obtain ⟨h1, h2⟩ := List.pairwise_cons.1 h
      exact ⟨h1 y (List.mem_cons_self ..), h2⟩
/-! ## what is right, and who sees it -/
def textL (t : List UInt8) : Bool := t.all fun c => decide (33 ≤ c.toNat) && (decide (c.toNat ≤ 126) && decide (c.toNat ≠ 42))
def patP (p : List UInt8) : List UInt8 := if p.head? = some 33 then p.tail else p
/-- the first error of patterns; vg: a pattern's -/
def patE (vg : List UInt8 → Int) : List ByteArray → Int
  | [] => 0
  | p :: ps => if vg (patP p.data.toList) ≠ 0 then vg (patP p.data.toList) else patE vg ps
def validE (nameS : List UInt8 → Bool) (vg : List UInt8 → Int) (s : Sec) : Int :=
  if nameS s.nm = false then 1
  else if s.text.size < 4 ∨ 256 < s.text.size then 2
  else if textL s.text.data.toList = false then 1
  else if s.level < 0 ∨ 2 < s.level then 2
  else if 1024 < s.refs.length ∨ 1024 < s.envs.length then 3
  else if patE vg s.refs ≠ 0 then patE vg s.refs
  else patE vg s.envs
/-- the result of Put: v: the secret's error -/
def putE (v : Int) (l : List Sec) (s : Sec) : Int := if v ≠ 0 then v else if posA (sameN s.nm) l < l.length then 0 else if 64 ≤ l.length then 15 else 0
def putR (v : Int) (l : List Sec) (s : Sec) : List Sec := if putE v l s ≠ 0 then l else putL l s
theorem putE_ok {l : List Sec} {s : Sec} (h : l.length < 64) : putE 0 l s = 0 := by
  unfold putE
  rw [if_neg (by simp)]
  split
  · rfl
  · rw [if_neg (by omega)]
theorem put_twice {l : List Sec} {s t : Sec} (h : Asc l) (hl : l.length ≤ 60) (hn : s.nm ≠ t.nm) : putE 0 (putR 0 l s) t = 0 ∧ putE 0 (putR 0 l t) s = 0 ∧ putR 0 (putR 0 l s) t = putR 0 (putR 0 l t) s := by
  have e1 : putR 0 l s = putL l s := by unfold putR; rw [putE_ok (by omega), if_neg (by simp)]
  have e2 : putR 0 l t = putL l t := by unfold putR; rw [putE_ok (by omega), if_neg (by simp)]
  have g1 : putE 0 (putL l s) t = 0 := putE_ok (by have := put_len (l := l) (s := s); omega)
  have g2 : putE 0 (putL l t) s = 0 := putE_ok (by have := put_len (l := l) (s := t); omega)
  rw [e1, e2]
  refine ⟨g1, g2, ?_⟩
  unfold putR
  rw [g1, g2, if_neg (by simp), if_neg (by simp)]
  exact put_comm h hn
structure Org where
  prj : ByteArray
  ref : ByteArray
  fork : Bool
/-- may a job see a secret; any: does a list of patterns match -/
def mayS (any : List ByteArray → ByteArray → Bool) (s : Sec) (o : Org) (trust : Int) (env : ByteArray) : Bool :=
  (decide (s.level ≤ trust) && (!o.fork || decide (s.level ≤ 0))) && (any s.refs o.ref && (decide (s.envs = []) || (decide (env.size ≠ 0) && any s.envs env)))
def visL (any : List ByteArray → ByteArray → Bool) (names : List ByteArray) (o : Org) (trust : Int) (env : ByteArray) (l : List Sec) : List Sec :=
  l.filter fun x => (names.any fun n => n.data.toList == x.nm) && mayS any x o trust env
def missL (v : List Sec) (names : List ByteArray) : List ByteArray := names.filter fun n => !v.any (fun x => x.nm == n.data.toList)
theorem vis_ok {any : List ByteArray → ByteArray → Bool} {names : List ByteArray} {o : Org} {trust : Int} {env : ByteArray} {l : List Sec} {x : Sec} (h : x ∈ visL any names o trust env l) : x.level ≤ trust ∧ (o.fork = true → x.level ≤ 0) ∧ (names.any fun n => n.data.toList == x.nm) = true := by
  unfold visL at h
  rw [List.mem_filter, Bool.and_eq_true] at h
  obtain ⟨_, h1, h2⟩ := h
  unfold mayS at h2
  simp only [Bool.and_eq_true, Bool.or_eq_true, decide_eq_true_eq, Bool.not_eq_true'] at h2
  exact ⟨h2.1.1, fun hf => h2.1.2.elim (fun h => by rw [hf] at h; cases h) id, h1⟩
theorem vis_len {any : List ByteArray → ByteArray → Bool} {names : List ByteArray} {o : Org} {trust : Int} {env : ByteArray} {l : List Sec} : (visL any names o trust env l).length ≤ l.length := List.length_filter_le _ _
theorem miss_len {v : List Sec} {names : List ByteArray} : (missL v names).length ≤ names.length := List.length_filter_le _ _
end Go.Proofs.YtgloblokkejgmaaDoor
