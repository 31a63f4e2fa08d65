/- Types as plain data: the lattice. No program in sight. Types as plain data: their texts. No program in sight. Types as plain data: trees, and which are valid. No program in sight. Values as plain data: which are valid, and their types. No program in sight. Types as plain data: how the document reads a text. No program in sight. Values as plain data: the nodes of a value, each before its own elements; the first error. No program in sight. Types as plain data: the texts as the library cuts them; what the program's Parse and the document's say. No program in sight. -/
import Derived.WalkKit
import Derived.Test.YtgcpffbaejodiaaDoorCmpP
import Derived.Lib.Strings
namespace Go.Proofs.YtgcpffbaejodiaaDoor
/-- a valid type: a kind without an element type, or a list (5) or a map (6) of a type -/
inductive VT where
  | base (k : Nat)
  | of (k : Nat) (e : VT)
  deriving DecidableEq
namespace VT
def kind : VT → Nat
  | base k => k
  | of k _ => k
/-- the kinds are the right ones -/
def Ok : VT → Prop
  | base k => k ≤ 7 ∧ k ≠ 5 ∧ k ≠ 6
  | of k e => (k = 5 ∨ k = 6) ∧ e.Ok
def depth : VT → Nat
  | base _ => 1
  | of _ e => e.depth + 1
def sub : VT → VT → Bool
  | base a, base b => a == 7 || (b == 0 || a == b)
  | base a, of _ _ => a == 7
  | of _ _, base b => b == 0
  | of k e, of j f => k == j && sub e f
def join : VT → VT → VT
  | base a, b => if a = 7 then b else match b with
    | base c => if c = 7 then base a else if a = c then base a else base 0
    | of _ _ => base 0
  | of k e, b => match b with
    | base c => if c = 7 then of k e else base 0
    | of j f => if k = j then of k (join e f) else base 0
def meet : VT → VT → VT
  | base a, b => if a = 0 then b else match b with
    | base c => if c = 0 then base a else if a = c then base a else base 7
    | of _ _ => base 7
  | of k e, b => match b with
    | base c => if c = 0 then of k e else base 7
    | of j f => if k = j then of k (meet e f) else base 7
theorem join_ok : ∀ {a b : VT}, a.Ok → b.Ok → (join a b).Ok
  | base a, b, ha, hb => by
    unfold join
    split
    · exact hb
    · cases b with
      | base c => dsimp only; split <;> (try split) <;> first | exact ha | exact ⟨by omega, by omega, by omega⟩
      | of j f => exact ⟨by omega, by omega, by omega⟩
  | of k e, base c, ha, hb => by
    unfold join
    dsimp only
    split
    · exact ha
    · exact ⟨by omega, by omega, by omega⟩
  | of k e, of j f, ha, hb => by
    unfold join
    dsimp only
    split
    · exact ⟨ha.1, join_ok ha.2 hb.2⟩
    · exact ⟨by omega, by omega, by omega⟩
theorem meet_ok : ∀ {a b : VT}, a.Ok → b.Ok → (meet a b).Ok
  | base a, b, ha, hb => by
    unfold meet
    split
    · exact hb
    · cases b with
      | base c => dsimp only; split <;> (try split) <;> first | exact ha | exact ⟨by omega, by omega, by omega⟩
      | of j f => exact ⟨by omega, by omega, by omega⟩
  | of k e, base c, ha, hb => by
    unfold meet
    dsimp only
    split
    · exact ha
    · exact ⟨by omega, by omega, by omega⟩
  | of k e, of j f, ha, hb => by
    unfold meet
    dsimp only
    split
    · exact ⟨ha.1, meet_ok ha.2 hb.2⟩
    · exact ⟨by omega, by omega, by omega⟩
theorem depth_pos : ∀ a : VT, 1 ≤ a.depth
  | base _ => Nat.le_refl _
  | of _ _ => by unfold depth; omega
theorem join_depth : ∀ (a b : VT), (join a b).depth ≤ max a.depth b.depth
  | base a, b => by
    have := depth_pos b
    unfold join
    split
    · exact Nat.le_max_right ..
    · cases b with
      | base c => dsimp only; split <;> (try split) <;> simp [depth]
      | of j f => (simp [depth] <;> omega)
  | of k e, base c => by
    unfold join
    dsimp only
    split
    · exact Nat.le_max_left ..
    · (simp [depth] <;> omega)
  | of k e, of j f => by
    have ih := join_depth e f
    unfold join
    dsimp only
    split
    · simp only [depth]; omega
    · (simp [depth] <;> omega)
theorem meet_depth : ∀ (a b : VT), (meet a b).depth ≤ max a.depth b.depth
  | base a, b => by
    have := depth_pos b
    unfold meet
    split
    · exact Nat.le_max_right ..
    · cases b with
      | base c => dsimp only; split <;> (try split) <;> simp [depth]
      | of j f => (simp [depth] <;> omega)
  | of k e, base c => by
    unfold meet
    dsimp only
    split
    · exact Nat.le_max_left ..
    · (simp [depth] <;> omega)
  | of k e, of j f => by
    have ih := meet_depth e f
    unfold meet
    dsimp only
    split
    · simp only [depth]; omega
    · (simp [depth] <;> omega)
theorem join_comm : ∀ {a b : VT}, a.Ok → b.Ok → join a b = join b a
  | base a, base c, _, _ => by
    unfold join
    dsimp only
    by_cases h1 : a = 7 <;> by_cases h2 : c = 7 <;> by_cases h3 : a = c <;> simp_all
    intro h; exact absurd h.symm h3
  | base a, of j f, _, _ => by unfold join; dsimp only
  | of k e, base c, _, _ => by unfold join; dsimp only
  | of k e, of j f, ha, hb => by
    unfold join
    dsimp only
    by_cases h : k = j
    · subst h; rw [if_pos rfl, if_pos rfl, join_comm ha.2 hb.2]
    · rw [if_neg h, if_neg (fun e => h e.symm)]
theorem meet_comm : ∀ {a b : VT}, a.Ok → b.Ok → meet a b = meet b a
  | base a, base c, _, _ => by
    unfold meet
    dsimp only
    by_cases h1 : a = 0 <;> by_cases h2 : c = 0 <;> by_cases h3 : a = c <;> simp_all
    intro h; exact absurd h.symm h3
  | base a, of j f, _, _ => by unfold meet; dsimp only
  | of k e, base c, _, _ => by unfold meet; dsimp only
  | of k e, of j f, ha, hb => by
    unfold meet
    dsimp only
    by_cases h : k = j
    · subst h; rw [if_pos rfl, if_pos rfl, meet_comm ha.2 hb.2]
    · rw [if_neg h, if_neg (fun e => h e.symm)]
theorem join_never (a : VT) : join (base 7) a = a := by unfold join; rw [if_pos rfl]
theorem meet_any (a : VT) : meet (base 0) a = a := by unfold meet; rw [if_pos rfl]
theorem join_self : ∀ a : VT, join a a = a
  | base a => by unfold join; dsimp only; split <;> simp
  | of k e => by unfold join; dsimp only; rw [if_pos rfl, join_self e]
theorem meet_self : ∀ a : VT, meet a a = a
  | base a => by unfold meet; dsimp only; split <;> simp
  | of k e => by unfold meet; dsimp only; rw [if_pos rfl, meet_self e]
/-- any takes all in -/
theorem join_any : ∀ (a : VT), join (base 0) a = base 0
  | base c => by unfold join; rw [if_neg (by decide)]; dsimp only; split <;> (try split) <;> rfl
  | of j f => by unfold join; rw [if_neg (by decide)]
theorem meet_never : ∀ (a : VT), meet (base 7) a = base 7
  | base c => by unfold meet; rw [if_neg (by decide)]; dsimp only; split <;> (try split) <;> rfl
  | of j f => by unfold meet; rw [if_neg (by decide)]
theorem sub_join : ∀ {a b : VT}, a.Ok → b.Ok → (sub a b = true ↔ join a b = b)
  | base a, base c, _, _ => by
    unfold sub join
    dsimp only
    by_cases h1 : a = 7 <;> by_cases h2 : c = 7 <;> by_cases h3 : a = c <;> by_cases h4 : c = 0 <;> simp_all <;> omega
  | base a, of j f, _, _ => by
    unfold sub join
    by_cases h1 : a = 7 <;> simp [h1]
  | of k e, base c, _, _ => by
    unfold sub join
    by_cases h2 : c = 7 <;> by_cases h4 : c = 0 <;> simp_all
    exact fun h => h4 h.symm
  | of k e, of j f, ha, hb => by
    have ih := sub_join ha.2 hb.2
    unfold sub join
    dsimp only
    by_cases h : k = j
    · subst h
      rw [if_pos rfl]
      simp [ih]
    · rw [if_neg h]
      simp [h]
theorem sub_meet : ∀ {a b : VT}, a.Ok → b.Ok → (sub a b = true ↔ meet a b = a)
  | base a, base c, _, _ => by
    unfold sub meet
    dsimp only
    by_cases h1 : a = 7 <;> by_cases h2 : c = 0 <;> by_cases h3 : a = c <;> by_cases h4 : a = 0 <;> simp_all <;> omega
  | base a, of j f, _, _ => by
    unfold sub meet
    by_cases h4 : a = 0
    · simp [h4]
    · by_cases h1 : a = 7
      · simp [h1]
      · simp [h1, h4]
        exact fun h => h1 h.symm
  | of k e, base c, _, _ => by
    unfold sub meet
    by_cases h4 : c = 0 <;> simp [h4]
  | of k e, of j f, ha, hb => by
    have ih := sub_meet ha.2 hb.2
    unfold sub meet
    dsimp only
    by_cases h : k = j
    · subst h
      rw [if_pos rfl]
      simp [ih]
    · rw [if_neg h]
      simp [h]
theorem join_base (a : Nat) (b : VT) : join (base a) b = if a = 7 then b else match b with
    | base c => if c = 7 then base a else if a = c then base a else base 0
    | of _ _ => base 0 := rfl
theorem join_of_base (k : Nat) (e : VT) (c : Nat) : join (of k e) (base c) = if c = 7 then of k e else base 0 := rfl
theorem join_of (k : Nat) (e : VT) (j : Nat) (f : VT) : join (of k e) (of j f) = if k = j then of k (join e f) else base 0 := rfl
theorem meet_base (a : Nat) (b : VT) : meet (base a) b = if a = 0 then b else match b with
    | base c => if c = 0 then base a else if a = c then base a else base 7
    | of _ _ => base 7 := rfl
theorem meet_of_base (k : Nat) (e : VT) (c : Nat) : meet (of k e) (base c) = if c = 0 then of k e else base 7 := rfl
theorem meet_of (k : Nat) (e : VT) (j : Nat) (f : VT) : meet (of k e) (of j f) = if k = j then of k (meet e f) else base 7 := rfl
theorem join_assoc : ∀ (a b c : VT), join (join a b) c = join a (join b c)
  | base a, b, c => by
    by_cases h : a = 7
    · subst h; rw [join_never, join_never]
    · cases b with
      | base b =>
        by_cases hb : b = 7
        · subst hb
          rw [join_never, join_base a, if_neg h]
          rfl
        · cases c with
          | base c =>
            simp only [join_base, h, hb, if_false]
            by_cases hc : c = 7 <;> by_cases h1 : a = b <;> by_cases h2 : b = c <;> by_cases h3 : a = c <;> simp_all [join_base]
          | of j f =>
            simp only [join_base, h, hb, if_false]
            by_cases h1 : a = b <;> simp_all [join_base]
      | of k e =>
        cases c with
        | base c =>
          simp only [join_base, join_of_base, h, if_false]
          by_cases hc : c = 7 <;> simp_all
        | of j f =>
          simp only [join_base, join_of, h, if_false]
          by_cases hk : k = j <;> simp_all
  | of k e, base b, c => by
    by_cases hb : b = 7
    · subst hb; rw [join_never, join_of_base, if_pos rfl]
    · rw [join_of_base, if_neg hb, join_any]
      cases c with
      | base c =>
        simp only [join_base, hb, if_false]
        by_cases hc : c = 7
        · subst hc; simp [join_of_base, hb]
        · by_cases h1 : b = c
          · subst h1; simp [hb, join_of_base]
          · simp [hc, h1, join_of_base]
      | of j f =>
        simp only [join_base, hb, if_false, join_of_base]
        simp
  | of k e, of j f, c => by
    cases c with
    | base c =>
      simp only [join_of, join_of_base]
      by_cases hk : k = j <;> by_cases hc : c = 7 <;> simp_all [join_of, join_of_base, join_base]
    | of i g =>
      have ih := join_assoc e f g
      simp only [join_of]
      by_cases hk : k = j <;> by_cases hj : j = i <;> simp_all [join_of, join_of_base, join_any]
theorem meet_assoc : ∀ (a b c : VT), meet (meet a b) c = meet a (meet b c)
  | base a, b, c => by
    by_cases h : a = 0
    · subst h; rw [meet_any, meet_any]
    · cases b with
      | base b =>
        by_cases hb : b = 0
        · subst hb
          rw [meet_any, meet_base a, if_neg h]
          rfl
        · cases c with
          | base c =>
            simp only [meet_base, h, hb, if_false]
            by_cases hc : c = 0 <;> by_cases h1 : a = b <;> by_cases h2 : b = c <;> by_cases h3 : a = c <;> simp_all [meet_base]
          | of j f =>
            simp only [meet_base, h, hb, if_false]
            by_cases h1 : a = b <;> simp_all [meet_base]
      | of k e =>
        cases c with
        | base c =>
          simp only [meet_base, meet_of_base, h, if_false]
          by_cases hc : c = 0 <;> simp_all
        | of j f =>
          simp only [meet_base, meet_of, h, if_false]
          by_cases hk : k = j <;> simp_all
  | of k e, base b, c => by
    by_cases hb : b = 0
    · subst hb; rw [meet_any, meet_of_base, if_pos rfl]
    · rw [meet_of_base, if_neg hb, meet_never]
      cases c with
      | base c =>
        simp only [meet_base, hb, if_false]
        by_cases hc : c = 0
        · subst hc; simp [meet_of_base, hb]
        · by_cases h1 : b = c
          · subst h1; simp [hb, meet_of_base]
          · simp [hc, h1, meet_of_base]
      | of j f =>
        simp only [meet_base, hb, if_false, meet_of_base]
        simp
  | of k e, of j f, c => by
    cases c with
    | base c =>
      simp only [meet_of, meet_of_base]
      by_cases hk : k = j <;> by_cases hc : c = 0 <;> simp_all [meet_of, meet_of_base, meet_base]
    | of i g =>
      have ih := meet_assoc e f g
      simp only [meet_of]
      by_cases hk : k = j <;> by_cases hj : j = i <;> simp_all [meet_of, meet_of_base, meet_never]
theorem absorb_join : ∀ (a b : VT), join a (meet a b) = a
  | base a, b => by
    by_cases h : a = 0
    · subst h; rw [meet_any, join_any]
    · cases b with
      | base c =>
        rw [meet_base, if_neg h]
        dsimp only
        split
        · exact join_self _
        · split
          · exact join_self _
          · rw [join_base]
            split
            · rename_i h7; rw [h7]
            · rfl
      | of j f =>
        rw [meet_base, if_neg h, join_base]
        split
        · rename_i h7; rw [h7]
        · rfl
  | of k e, base c => by
    rw [meet_of_base]
    split
    · exact join_self _
    · rfl
  | of k e, of j f => by
    rw [meet_of]
    split
    · rw [join_of, if_pos rfl, absorb_join e f]
    · rfl
theorem absorb_meet : ∀ (a b : VT), meet a (join a b) = a
  | base a, b => by
    by_cases h : a = 7
    · subst h; rw [join_never, meet_never]
    · cases b with
      | base c =>
        rw [join_base, if_neg h]
        dsimp only
        split
        · exact meet_self _
        · split
          · exact meet_self _
          · rw [meet_base]
            split
            · rename_i h7; rw [h7]
            · rfl
      | of j f =>
        rw [join_base, if_neg h, meet_base]
        split
        · rename_i h7; rw [h7]
        · rfl
  | of k e, base c => by
    rw [join_of_base]
    split
    · exact meet_self _
    · rfl
  | of k e, of j f => by
    rw [join_of]
    split
    · rw [meet_of, if_pos rfl, absorb_meet e f]
    · rfl
theorem sub_join_left {a b : VT} (ha : a.Ok) (hb : b.Ok) : sub a (join a b) = true := (sub_join ha (join_ok ha hb)).2 (by rw [← join_assoc, join_self])
theorem sub_meet_left {a b : VT} (ha : a.Ok) (hb : b.Ok) : sub (meet a b) a = true := (sub_meet (meet_ok ha hb) ha).2 (by rw [meet_comm (meet_ok ha hb) ha, ← meet_assoc, meet_self])
theorem sub_trans {a b c : VT} (ha : a.Ok) (hb : b.Ok) (hc : c.Ok) (h1 : sub a b = true) (h2 : sub b c = true) : sub a c = true := by
  rw [sub_join ha hb] at h1
  rw [sub_join hb hc] at h2
  rw [sub_join ha hc, ← h2, ← join_assoc, h1]
theorem sub_anti {a b : VT} (ha : a.Ok) (hb : b.Ok) (h1 : sub a b = true) (h2 : sub b a = true) : a = b := by
  rw [sub_join ha hb] at h1
  rw [sub_join hb ha] at h2
  rw [← h2, join_comm hb ha, h1]
end VT
end Go.Proofs.YtgcpffbaejodiaaDoor
namespace Go.Proofs.YtgcpffbaejodiaaDoor
namespace VT
def nameK : Nat → List UInt8
  | 0 => [97, 110, 121]
  | 1 => [110, 117, 108, 108]
  | 2 => [98, 111, 111, 108]
  | 3 => [105, 110, 116]
  | 4 => [115, 116, 114, 105, 110, 103]
  | 5 => [108, 105, 115, 116]
  | 6 => [109, 97, 112]
  | 7 => [110, 101, 118, 101, 114]
  | _ => []
def text : VT → List UInt8
  | base k => nameK k
  | of k e => nameK k ++ 40 :: (text e ++ [41])
/-- what stands between name( and ) -/
def openK (k : Nat) (s : List UInt8) : Option (List UInt8) :=
  if (nameK k ++ [40]).isPrefixOf s = true ∧ (s.drop ((nameK k).length + 1)).getLast? = some 41 then some (s.drop ((nameK k).length + 1)).dropLast else none
def opened (s : List UInt8) : Option (Nat × List UInt8) := match openK 5 s with
  | some e => some (5, e)
  | none => match openK 6 s with
    | some e => some (6, e)
    | none => none
def baseK (s : List UInt8) : Option Nat := [0, 1, 2, 3, 4, 7].find? fun k => nameK k == s
def parseF : Nat → List UInt8 → Option VT
  | 0, _ => none
  | f + 1, s => match opened s with
    | some (k, e) => (parseF f e).map (of k)
    | none => (baseK s).map base
def parse (s : List UInt8) : Option VT := parseF (s.length + 1) s
theorem openK_eq {k : Nat} {s e : List UInt8} (h : openK k s = some e) : s = nameK k ++ 40 :: (e ++ [41]) := by
  unfold openK at h
  split at h
  · rename_i hc
    obtain ⟨h1, h2⟩ := hc
    cases h
    obtain ⟨t, ht⟩ := List.isPrefixOf_iff_prefix.1 h1
    subst ht
    have hd : ((nameK k ++ [40]) ++ t).drop ((nameK k).length + 1) = t := by
      rw [List.drop_append_of_le_length (by simp)]
      simp
    rw [hd] at h2 ⊢
    have h3 : t ≠ [] := by intro e; rw [e] at h2; cases h2
    have h4 : t.getLast h3 = 41 := by
      rw [List.getLast?_eq_some_getLast h3] at h2
      exact Option.some.inj h2
    have h5 := List.dropLast_concat_getLast h3
    rw [h4] at h5
    rw [h5]
    simp
  · cases h
theorem openK_mk (k : Nat) (e : List UInt8) : openK k (nameK k ++ 40 :: (e ++ [41])) = some e := by
  have hd : (nameK k ++ 40 :: (e ++ [41])).drop ((nameK k).length + 1) = e ++ [41] := by
    rw [List.drop_append]
    simp
  unfold openK
  rw [hd, if_pos]
  · simp
  · refine ⟨?_, by simp⟩
    rw [List.isPrefixOf_iff_prefix]
    exact ⟨e ++ [41], by simp⟩
theorem openK_short {k : Nat} {s e : List UInt8} (h : openK k s = some e) : e.length < s.length := by
  rw [openK_eq h]
  simp
  omega
theorem opened_eq {s e : List UInt8} {k : Nat} (h : opened s = some (k, e)) : (k = 5 ∨ k = 6) ∧ s = nameK k ++ 40 :: (e ++ [41]) := by
  unfold opened at h
  split at h
  · rename_i h5
    cases h
    exact ⟨.inl rfl, openK_eq h5⟩
  · split at h
    · rename_i h6
      cases h
      exact ⟨.inr rfl, openK_eq h6⟩
    · cases h
theorem openK_head {k : Nat} {c : UInt8} {s : List UInt8} (hk : (nameK k).head? ≠ some c) (h0 : nameK k ≠ []) : openK k (c :: s) = none := by
  cases h : openK k (c :: s) with
  | none => rfl
  | some e =>
    have := openK_eq h
    cases hn : nameK k with
    | nil => exact absurd hn h0
    | cons d r =>
      rw [hn] at this hk
      injection this with h1 _
      rw [h1] at hk
      exact absurd rfl hk
theorem opened_mk {k : Nat} (hk : k = 5 ∨ k = 6) (e : List UInt8) : opened (nameK k ++ 40 :: (e ++ [41])) = some (k, e) := by
  unfold opened
  rcases hk with rfl | rfl
  · rw [openK_mk]
  · have : openK 5 (nameK 6 ++ 40 :: (e ++ [41])) = none := openK_head (by decide) (by decide)
    rw [this, openK_mk]
theorem opened_base {k : Nat} (h : k ≤ 7) (h5 : k ≠ 5) (h6 : k ≠ 6) : opened (nameK k) = none := by
  have : k = 0 ∨ k = 1 ∨ k = 2 ∨ k = 3 ∨ k = 4 ∨ k = 7 := by omega
  rcases this with rfl | rfl | rfl | rfl | rfl | rfl <;> decide
theorem baseK_mk {k : Nat} (h : k ≤ 7) (h5 : k ≠ 5) (h6 : k ≠ 6) : baseK (nameK k) = some k := by
  have : k = 0 ∨ k = 1 ∨ k = 2 ∨ k = 3 ∨ k = 4 ∨ k = 7 := by omega
  rcases this with rfl | rfl | rfl | rfl | rfl | rfl <;> decide
theorem baseK_eq {s : List UInt8} {k : Nat} (h : baseK s = some k) : nameK k = s ∧ (base k).Ok := by
  unfold baseK at h
  have h1 := List.find?_some h
  have h2 := List.mem_of_find?_eq_some h
  simp at h1 h2
  refine ⟨h1, ?_⟩
  rcases h2 with rfl | rfl | rfl | rfl | rfl | rfl <;> exact ⟨by decide, by decide, by decide⟩
theorem opened_short {s e : List UInt8} {k : Nat} (h : opened s = some (k, e)) : e.length < s.length := by
  rw [(opened_eq h).2]
  simp
  omega
theorem parseF_fuel : ∀ (f g : Nat) (s : List UInt8), s.length < f → s.length < g → parseF f s = parseF g s
  | 0, _, _, h, _ => absurd h (Nat.not_lt_zero _)
  | _ + 1, 0, _, _, h => absurd h (Nat.not_lt_zero _)
  | f + 1, g + 1, s, h1, h2 => by
    unfold parseF
    cases ho : opened s with
    | none => rfl
    | some x =>
      have := opened_short (k := x.1) (e := x.2) ho
      dsimp only
      rw [parseF_fuel f g x.2 (by omega) (by omega)]
theorem parse_open {s e : List UInt8} {k : Nat} (h : opened s = some (k, e)) : parse s = (parse e).map (of k) := by
  have := opened_short h
  unfold parse
  show (match opened s with
    | some (k, e) => (parseF s.length e).map (of k)
    | none => (baseK s).map base) = _
  rw [h]
  dsimp only
  rw [parseF_fuel s.length (e.length + 1) e (by omega) (by omega)]
theorem parse_base {s : List UInt8} (h : opened s = none) : parse s = (baseK s).map base := by
  unfold parse
  show (match opened s with
    | some (k, e) => (parseF s.length e).map (of k)
    | none => (baseK s).map base) = _
  rw [h]
theorem parse_text : ∀ {v : VT}, v.Ok → parse (text v) = some v
  | base k, h => by
    show parse (nameK k) = _
    rw [parse_base (opened_base h.1 h.2.1 h.2.2), baseK_mk h.1 h.2.1 h.2.2]
    rfl
  | of k e, h => by
    show parse (nameK k ++ 40 :: (text e ++ [41])) = _
    rw [parse_open (opened_mk h.1 (text e)), parse_text h.2]
    rfl
theorem text_parseF : ∀ (f : Nat) {s : List UInt8} {v : VT}, parseF f s = some v → text v = s ∧ v.Ok
  | 0, _, _, h => by cases h
  | f + 1, s, v, h => by
    unfold parseF at h
    cases ho : opened s with
    | none =>
      rw [ho] at h
      dsimp only at h
      cases hb : baseK s with
      | none => rw [hb] at h; cases h
      | some k =>
        rw [hb] at h
        cases h
        exact baseK_eq hb
    | some x =>
      rw [ho] at h
      dsimp only at h
      obtain ⟨hk, hs⟩ := opened_eq (k := x.1) (e := x.2) ho
      cases hp : parseF f x.2 with
      | none => rw [hp] at h; cases h
      | some u =>
        rw [hp] at h
        cases h
        obtain ⟨h1, h2⟩ := text_parseF f hp
        exact ⟨by show nameK x.1 ++ 40 :: (text u ++ [41]) = s; rw [h1, hs], hk, h2⟩
theorem text_parse {s : List UInt8} {v : VT} (h : parse s = some v) : text v = s ∧ v.Ok := text_parseF _ h
end VT
end Go.Proofs.YtgcpffbaejodiaaDoor
namespace Go.Proofs.YtgcpffbaejodiaaDoor
/-- a type as it is given -/
inductive Ty where
  | mk (kind : Int) (elem : List Ty)
namespace Ty
def kind : Ty → Int
  | mk k _ => k
def elem : Ty → List Ty
  | mk _ e => e
end Ty
def holdsK (k : Int) : Bool := k == 5 || k == 6
/-- the error of a type with so many levels left -/
def chkT : Nat → Ty → Int
  | 0, _ => 13
  | f + 1, t => if t.kind < 0 ∨ 7 < t.kind then 1
    else if holdsK t.kind then (match t.elem with
      | [x] => chkT f x
      | _ => 1)
    else if t.elem = [] then 0 else 1
def validT (t : Ty) : Int := chkT 16 t
def ofV : VT → Ty
  | .base k => .mk k []
  | .of k e => .mk k [ofV e]
theorem chkT_succ (f : Nat) (t : Ty) : chkT (f + 1) t = if t.kind < 0 ∨ 7 < t.kind then 1
    else if holdsK t.kind then (match t.elem with
      | [x] => chkT f x
      | _ => 1)
    else if t.elem = [] then 0 else 1 := rfl
theorem chkT_mk (f : Nat) (k : Int) (es : List Ty) : chkT (f + 1) (.mk k es) = if k < 0 ∨ 7 < k then 1
    else if holdsK k then (match es with
      | [x] => chkT f x
      | _ => 1)
    else if es = [] then 0 else 1 := rfl
theorem chkT_ok : ∀ (f : Nat) (t : Ty), chkT f t = 0 → ∃ v : VT, v.Ok ∧ v.depth ≤ f ∧ t = ofV v
  | 0, _, h => by cases h
  | f + 1, .mk k es, h => by
    rw [chkT_mk] at h
    by_cases hk : k < 0 ∨ 7 < k
    · rw [if_pos hk] at h; cases h
    · rw [if_neg hk] at h
      by_cases hh : holdsK k = true
      · rw [if_pos hh] at h
        match es, h with
        | [x], h =>
          obtain ⟨v, h1, h2, rfl⟩ := chkT_ok f x h
          refine ⟨.of k.toNat v, ⟨?_, h1⟩, by show v.depth + 1 ≤ f + 1; omega, ?_⟩
          · unfold holdsK at hh
            simp at hh
            omega
          · show Ty.mk k [ofV v] = Ty.mk (k.toNat : Int) [ofV v]
            rw [Int.toNat_of_nonneg (by omega)]
        | [], h => cases h
        | _ :: _ :: _, h => cases h
      · rw [if_neg hh] at h
        by_cases he : es = []
        · subst he
          unfold holdsK at hh
          simp at hh
          refine ⟨.base k.toNat, ⟨by omega, by omega, by omega⟩, by show 1 ≤ f + 1; omega, ?_⟩
          show Ty.mk k [] = Ty.mk (k.toNat : Int) []
          rw [Int.toNat_of_nonneg (by omega)]
        · rw [if_neg he] at h; cases h
theorem chkT_of : ∀ (f : Nat) {v : VT}, v.Ok → chkT f (ofV v) = if v.depth ≤ f then 0 else 13
  | 0, v, _ => by
    have := VT.depth_pos v
    rw [if_neg (by omega)]
    rfl
  | f + 1, .base k, h => by
    obtain ⟨h1, h2, h3⟩ := h
    rw [chkT_succ]
    have hh : holdsK (k : Int) = false := by unfold holdsK; simp; omega
    show (if (k : Int) < 0 ∨ 7 < (k : Int) then (1 : Int) else if holdsK (k : Int) then _ else if ([] : List Ty) = [] then 0 else 1) = _
    rw [if_neg (by omega), hh, if_neg (by simp), if_pos rfl, if_pos (by unfold VT.depth; omega)]
  | f + 1, .of k e, h => by
    obtain ⟨h1, h2⟩ := h
    rw [chkT_succ]
    have hh : holdsK (k : Int) = true := by unfold holdsK; simp; omega
    show (if (k : Int) < 0 ∨ 7 < (k : Int) then (1 : Int) else if holdsK (k : Int) then chkT f (ofV e) else _) = _
    rw [if_neg (by omega), hh, if_pos rfl, chkT_of f h2]
    show (if e.depth ≤ f then (0 : Int) else 13) = if e.depth + 1 ≤ f + 1 then 0 else 13
    by_cases hd : e.depth ≤ f
    · rw [if_pos hd, if_pos (by omega)]
    · rw [if_neg hd, if_neg (by omega)]
theorem valid_of {v : VT} (h : v.Ok) : validT (ofV v) = if v.depth ≤ 16 then 0 else 13 := chkT_of 16 h
theorem valid_ok {t : Ty} (h : validT t = 0) : ∃ v : VT, v.Ok ∧ v.depth ≤ 16 ∧ t = ofV v := chkT_ok 16 t h
end Go.Proofs.YtgcpffbaejodiaaDoor
namespace Go.Proofs.YtgcpffbaejodiaaDoor
/-- a value as it is given -/
inductive Vl where
  | mk (kind : Int) (bool : Bool) (int : Int) (str : ByteArray) (list : List Vl) (keys : List ByteArray)
namespace Vl
def kind : Vl → Int
  | mk k _ _ _ _ _ => k
def bool : Vl → Bool
  | mk _ b _ _ _ _ => b
def int : Vl → Int
  | mk _ _ i _ _ _ => i
def str : Vl → ByteArray
  | mk _ _ _ s _ _ => s
def list : Vl → List Vl
  | mk _ _ _ _ l _ => l
def keys : Vl → List ByteArray
  | mk _ _ _ _ _ k => k
end Vl
/-- fields that the kind does not use are zero or empty -/
def unusedV (v : Vl) : Bool := (v.kind == 1 || !v.bool) && ((v.kind == 2 || v.int == 0) && ((v.kind == 3 || v.str.size == 0) && ((v.kind == 4 || v.kind == 5 || v.list.length == 0) && (v.kind == 5 || v.keys.length == 0))))
/-- keys are keys, and ascend -/
def ascK : Option ByteArray → List ByteArray → Bool
  | _, [] => true
  | p, k :: r => decide (1 ≤ k.size) && (decide (k.size ≤ 64) && ((match p with
    | none => true
    | some q => decide (cmpN q.data.toList k.data.toList < 0)) && ascK (some k) r))
def keyedV (v : Vl) : Bool := decide (v.keys.length = v.list.length) && ascK none v.keys
/-- the error of a value without its elements; f levels are left, this one included -/
def ownV (f : Nat) (v : Vl) : Int :=
  if f = 0 then 13
  else if v.kind < 0 ∨ 5 < v.kind ∨ unusedV v = false then 1
  else if v.int < -9007199254740992 ∨ 9007199254740992 < v.int then 2
  else if 4096 < v.str.size ∨ 1024 < v.list.length ∨ 1024 < v.keys.length then 3
  else if v.kind = 5 ∧ keyedV v = false then 1
  else if (v.kind = 4 ∨ v.kind = 5) ∧ v.list.length = 0 ∧ f = 1 then 13
  else 0
def firstE : List Int → Int
  | [] => 0
  | e :: r => if e ≠ 0 then e else firstE r
/-- the error of a value -/
def chkV : Nat → Vl → Int
  | 0, _ => 13
  | f + 1, v => if ownV (f + 1) v ≠ 0 then ownV (f + 1) v else firstE (v.list.map (chkV f))
def validV (v : Vl) : Int := chkV 16 v
/-- the type of a valid value -/
def findV : Nat → Vl → VT
  | 0, _ => .base 7
  | f + 1, v => if v.kind = 0 then .base 1 else if v.kind = 1 then .base 2 else if v.kind = 2 then .base 3 else if v.kind = 3 then .base 4
    else .of (if v.kind = 4 then 5 else 6) ((v.list.map (findV f)).foldl VT.join (.base 7))
theorem firstE_zero : ∀ {l : List Int}, firstE l = 0 → ∀ e ∈ l, e = 0
  | [], _, _, h => by cases h
  | e :: r, h, x, hx => by
    unfold firstE at h
    split at h
    · rename_i hn; exact absurd h hn
    · rename_i hn
      rcases List.mem_cons.1 hx with rfl | hx
      · simpa using hn
      · exact firstE_zero h x hx
theorem fold_ok {l : List VT} (h : ∀ v ∈ l, v.Ok) : ∀ {a : VT}, a.Ok → (l.foldl VT.join a).Ok := by
  induction l with
  | nil => intro a ha; exact ha
  | cons x l ih =>
    intro a ha
    exact ih (fun v hv => h v (List.mem_cons_of_mem _ hv)) (VT.join_ok ha (h x (List.mem_cons_self ..)))
theorem fold_depth {l : List VT} {d : Nat} (h : ∀ v ∈ l, v.depth ≤ d) : ∀ {a : VT}, a.depth ≤ d → (l.foldl VT.join a).depth ≤ d := by
  induction l with
  | nil => intro a ha; exact ha
  | cons x l ih =>
    intro a ha
    refine ih (fun v hv => h v (List.mem_cons_of_mem _ hv)) ?_
    have := VT.join_depth a x
    have := h x (List.mem_cons_self ..)
    omega
theorem never_ok : (VT.base 7).Ok := ⟨by decide, by decide, by decide⟩
theorem findV_ok : ∀ (f : Nat) (v : Vl), (findV f v).Ok
  | 0, _ => never_ok
  | f + 1, v => by
    unfold findV
    split
    · exact ⟨by decide, by decide, by decide⟩
    · split
      · exact ⟨by decide, by decide, by decide⟩
      · split
        · exact ⟨by decide, by decide, by decide⟩
        · split
          · exact ⟨by decide, by decide, by decide⟩
          · refine ⟨by split <;> simp, fold_ok (fun x hx => ?_) never_ok⟩
            obtain ⟨y, _, rfl⟩ := List.mem_map.1 hx
            exact findV_ok f y
/-- the type of a valid value is not nested deeper than the value -/
theorem findV_depth : ∀ (f : Nat) (v : Vl), chkV f v = 0 → (findV f v).depth ≤ f
  | 0, _, h => by cases h
  | f + 1, v, h => by
    unfold chkV at h
    by_cases ho : ownV (f + 1) v ≠ 0
    · rw [if_pos ho] at h; exact absurd h ho
    · rw [if_neg ho] at h
      have hz := firstE_zero h
      have h1 : (VT.base 7).depth = 1 := rfl
      unfold findV
      split
      · show 1 ≤ f + 1; omega
      · split
        · show 1 ≤ f + 1; omega
        · split
          · show 1 ≤ f + 1; omega
          · split
            · show 1 ≤ f + 1; omega
            · show ((v.list.map (findV f)).foldl VT.join (.base 7)).depth + 1 ≤ f + 1
              have hf : 1 ≤ f := by
                rcases Nat.eq_zero_or_pos f with rfl | hp
                · exfalso
                  simp only [ne_eq, Decidable.not_not] at ho
                  unfold ownV at ho
                  by_cases hk : v.kind < 0 ∨ 5 < v.kind ∨ unusedV v = false
                  · rw [if_neg (by omega), if_pos hk] at ho; cases ho
                  · rw [if_neg (by omega), if_neg hk] at ho
                    cases hl : v.list with
                    | nil =>
                      rw [hl] at ho
                      repeat (split at ho <;> first | (cases ho; done) | skip)
                      rename_i n1 n2 n3 n4 _ _ _ hne
                      exact hne ⟨by omega, rfl, rfl⟩
                    | cons x l =>
                      rw [hl] at hz
                      have := hz (chkV 0 x) (by simp)
                      cases this
                · exact hp
              have := fold_depth (l := v.list.map (findV f)) (d := f) (fun t ht => by
                obtain ⟨y, hy, rfl⟩ := List.mem_map.1 ht
                exact findV_depth f y (hz _ (List.mem_map.2 ⟨y, hy, rfl⟩))) (a := .base 7) (by rw [h1]; exact hf)
              omega
end Go.Proofs.YtgcpffbaejodiaaDoor
namespace Go.Proofs.YtgcpffbaejodiaaDoor
namespace VT
/-- what the document reads at a kind -/
def stepK (k : Nat) (s : List UInt8) : Option VT :=
  if k = 5 ∨ k = 6 then (openK k s).bind (fun e => (parse e).map (of k)) else if s = nameK k then some (base k) else none
def readF : List Nat → List UInt8 → Option VT
  | [], _ => none
  | k :: ks, s => match stepK k s with
    | some v => some v
    | none => readF ks s
theorem openK_no {k j : Nat} (h : opened (nameK k) = none) (hj : j = 5 ∨ j = 6) : openK j (nameK k) = none := by
  unfold opened at h
  cases h5 : openK 5 (nameK k) with
  | some e => rw [h5] at h; cases h
  | none =>
    rw [h5] at h
    cases h6 : openK 6 (nameK k) with
    | some e => rw [h6] at h; cases h
    | none => rcases hj with rfl | rfl
              · exact h5
              · exact h6
theorem parse_nil : parse [] = none := by decide
theorem read_parse (s : List UInt8) : readF [0, 1, 2, 3, 4, 5, 6, 7] s = parse s := by
  cases ho : opened s with
  | some x =>
    obtain ⟨k, e⟩ := x
    rw [parse_open ho]
    obtain ⟨hk, hs⟩ := opened_eq ho
    have hb : ∀ j, j ≤ 7 → j ≠ 5 → j ≠ 6 → stepK j s = none := by
      intro j h7 h5 h6
      unfold stepK
      rw [if_neg (by omega), if_neg]
      intro he
      rw [he, opened_base h7 h5 h6] at ho
      cases ho
    have h5 : openK 5 s = (if k = 5 then some e else none) := by
      rcases hk with rfl | rfl
      · rw [if_pos rfl, hs]; exact openK_mk 5 e
      · rw [if_neg (by decide), hs]
        exact openK_head (c := 109) (by decide) (by decide)
    have h6 : openK 6 s = (if k = 6 then some e else none) := by
      rcases hk with rfl | rfl
      · rw [if_neg (by decide), hs]
        exact openK_head (c := 108) (by decide) (by decide)
      · rw [if_pos rfl, hs]; exact openK_mk 6 e
    simp only [readF, hb 0 (by omega) (by omega) (by omega), hb 1 (by omega) (by omega) (by omega), hb 2 (by omega) (by omega) (by omega), hb 3 (by omega) (by omega) (by omega), hb 4 (by omega) (by omega) (by omega), hb 7 (by omega) (by omega) (by omega)]
    have s5 : stepK 5 s = (openK 5 s).bind (fun e => (parse e).map (of 5)) := rfl
    have s6 : stepK 6 s = (openK 6 s).bind (fun e => (parse e).map (of 6)) := rfl
    rw [s5, s6, h5, h6]
    rcases hk with rfl | rfl
    · rw [if_pos rfl, if_neg (by decide)]
      show (match (parse e).map (of 5) with
        | some v => some v
        | none => none) = _
      cases (parse e).map (of 5) <;> rfl
    · rw [if_neg (by decide), if_pos rfl]
      show (match (parse e).map (of 6) with
        | some v => some v
        | none => none) = _
      cases (parse e).map (of 6) <;> rfl
  | none =>
    rw [parse_base ho]
    have h5 : openK 5 s = none := by
      unfold opened at ho
      cases h5 : openK 5 s with
      | some e => rw [h5] at ho; cases ho
      | none => rfl
    have h6 : openK 6 s = none := by
      unfold opened at ho
      rw [h5] at ho
      cases h6 : openK 6 s with
      | some e => rw [h6] at ho; cases ho
      | none => rfl
    have s5 : stepK 5 s = none := by show (openK 5 s).bind _ = none; rw [h5]; rfl
    have s6 : stepK 6 s = none := by show (openK 6 s).bind _ = none; rw [h6]; rfl
    have sb : ∀ j, j ≠ 5 → j ≠ 6 → stepK j s = if (nameK j == s) = true then some (base j) else none := by
      intro j j5 j6
      unfold stepK
      rw [if_neg (by omega)]
      by_cases h : s = nameK j
      · rw [if_pos h, if_pos (by simp [h])]
      · rw [if_neg h, if_neg (by intro e; exact h (by simpa using (beq_iff_eq.1 e).symm))]
    simp only [readF, s5, s6, sb 0 (by omega) (by omega), sb 1 (by omega) (by omega), sb 2 (by omega) (by omega), sb 3 (by omega) (by omega), sb 4 (by omega) (by omega), sb 7 (by omega) (by omega)]
    unfold baseK
    simp only [List.find?]
    cases nameK 0 == s
    · cases nameK 1 == s
      · cases nameK 2 == s
        · cases nameK 3 == s
          · cases nameK 4 == s
            · cases nameK 7 == s <;> rfl
            · rfl
          · rfl
        · rfl
      · rfl
    · rfl
/-- the document's test for a list or a map -/
def docC (k : Nat) (s : List UInt8) : Prop := (nameK k).length + 2 < s.length ∧ s.take (nameK k).length = nameK k ∧ s[(nameK k).length]? = some 40 ∧ s[s.length - 1]? = some 41
theorem docC_open {k : Nat} {s : List UInt8} (h : docC k s) : openK k s = some ((s.take (s.length - 1)).drop ((nameK k).length + 1)) := by
  obtain ⟨h1, h2, h3, h4⟩ := h
  have hs : s = nameK k ++ 40 :: (((s.take (s.length - 1)).drop ((nameK k).length + 1)) ++ [41]) := by
    have e1 : s = s.take (s.length - 1) ++ [41] := by
      have hl := (List.getElem?_eq_some_iff.1 h4).2
      rw [List.getElem?_eq_some_iff] at h4
      obtain ⟨hlt, he⟩ := h4
      conv => lhs; rw [← List.take_append_drop (s.length - 1) s, List.drop_eq_getElem_cons hlt, he, List.drop_of_length_le (by omega)]
    have e2 : s.take (s.length - 1) = nameK k ++ 40 :: ((s.take (s.length - 1)).drop ((nameK k).length + 1)) := by
      have hlt : (nameK k).length < (s.take (s.length - 1)).length := by rw [List.length_take]; omega
      have ht : (s.take (s.length - 1)).take (nameK k).length = nameK k := by rw [List.take_take, Nat.min_eq_left (by omega)]; exact h2
      have hg : (s.take (s.length - 1))[(nameK k).length]'hlt = 40 := by
        have := List.getElem?_take_of_lt (l := s) (show (nameK k).length < s.length - 1 by omega)
        rw [h3] at this
        exact (List.getElem?_eq_some_iff.1 this).2
      conv => lhs; rw [← List.take_append_drop (nameK k).length (s.take (s.length - 1)), List.drop_eq_getElem_cons hlt, hg, ht]
    conv => lhs; rw [e1, e2]
    simp
  generalize (s.take (s.length - 1)).drop ((nameK k).length + 1) = e at hs ⊢
  rw [hs]
  exact openK_mk k e
theorem docC_not {k : Nat} {s : List UInt8} (hk : k = 5 ∨ k = 6) (h : ¬ docC k s) : stepK k s = none := by
  unfold stepK
  rw [if_pos hk]
  cases ho : openK k s with
  | none => rfl
  | some e =>
    have hs := openK_eq ho
    cases e with
    | nil => show (parse []).map (of k) = none; rw [parse_nil]; rfl
    | cons c e =>
      refine absurd ⟨?_, ?_, ?_, ?_⟩ h
      · rw [hs]; simp <;> omega
      · rw [hs]; simp
      · rw [hs]; simp
      · rw [hs]
        have : (nameK k ++ 40 :: (c :: e ++ [41])) = (nameK k ++ 40 :: (c :: e)) ++ [41] := by simp
        rw [this]
        simp
end VT
end Go.Proofs.YtgcpffbaejodiaaDoor
namespace Go.Proofs.YtgcpffbaejodiaaDoor
/-- a value is not nested deeper than g -/
def DeepV : Nat → Vl → Prop
  | 0, _ => False
  | g + 1, v => ∀ x ∈ v.list, DeepV g x
/-- the next level, in the machine's numbers -/
def nextL (l : Int) : Int := IntKind.i64.wrap (l + 1)
/-- the nodes with their levels -/
def nodesF : Nat → Int → Vl → List (Int × Vl)
  | 0, _, _ => []
  | g + 1, l, v => (l, v) :: (v.list.map (nodesF g (nextL l))).flatten
def nodeE (x : Int × Vl) : Int := ownV (17 - x.1).toNat x.2
theorem firstE_append (a b : List Int) : firstE (a ++ b) = if firstE a ≠ 0 then firstE a else firstE b := by
  induction a with
  | nil => rfl
  | cons x a ih =>
    show (if x ≠ 0 then x else firstE (a ++ b)) = if (if x ≠ 0 then x else firstE a) ≠ 0 then (if x ≠ 0 then x else firstE a) else firstE b
    by_cases hx : x ≠ 0
    · rw [if_pos hx, if_pos hx, if_pos hx]
    · rw [if_neg hx, if_neg hx, ih]
theorem firstE_flat (l : List (List Int)) : firstE l.flatten = firstE (l.map firstE) := by
  induction l with
  | nil => rfl
  | cons a l ih =>
    rw [List.flatten_cons, firstE_append, List.map_cons, ih]
    rfl
theorem ownV_zero (v : Vl) : ownV 0 v = 13 := by unfold ownV; rw [if_pos rfl]
theorem nodes_chk : ∀ (g : Nat) (l : Int) (v : Vl), DeepV g v → 1 ≤ l → l ≤ 17 → firstE ((nodesF g l v).map nodeE) = chkV (17 - l).toNat v
  | 0, _, _, h, _, _ => h.elim
  | g + 1, l, v, h, h1, h2 => by
    show (if nodeE (l, v) ≠ 0 then nodeE (l, v) else firstE (((v.list.map (nodesF g (nextL l))).flatten).map nodeE)) = _
    have hn : nodeE (l, v) = ownV (17 - l).toNat v := rfl
    rw [hn]
    by_cases h17 : l = 17
    · subst h17
      rw [show (17 - 17 : Int).toNat = 0 from rfl, ownV_zero, if_pos (by decide)]
      rfl
    · have hnx : nextL l = l + 1 := IntWalk.i64_in _ (by omega)
      obtain ⟨f, hf⟩ : ∃ f, (17 - l).toNat = f + 1 := ⟨(17 - l).toNat - 1, by omega⟩
      have hf2 : (17 - (l + 1)).toNat = f := by omega
      rw [hf]
      unfold chkV
      by_cases ho : ownV (f + 1) v ≠ 0
      · rw [if_pos ho, if_pos ho]
      · rw [if_neg ho, if_neg ho, List.map_flatten, firstE_flat, List.map_map, List.map_map, hnx]
        congr 1
        refine List.map_congr_left fun x hx => ?_
        show firstE ((nodesF g (l + 1) x).map nodeE) = _
        rw [nodes_chk g (l + 1) x (h x hx) (by omega) (by omega), hf2]
theorem nodes_valid {g : Nat} {v : Vl} (h : DeepV g v) : firstE ((nodesF g 1 v).map nodeE) = validV v := nodes_chk g 1 v h (by decide) (by decide)
theorem firstE_pre {a b : List Int} (h : ∀ x ∈ a, x = 0) : firstE (a ++ b) = firstE b := by
  induction a with
  | nil => rfl
  | cons x a ih =>
    have hx := h x (List.mem_cons_self ..)
    subst hx
    show (if (0 : Int) ≠ 0 then 0 else firstE (a ++ b)) = _
    rw [if_neg (by decide)]
    exact ih fun y hy => h y (List.mem_cons_of_mem _ hy)
theorem firstE_all {a : List Int} (h : ∀ x ∈ a, x = 0) : firstE a = 0 := by
  have := firstE_pre (b := []) h
  rw [List.append_nil] at this
  exact this
theorem firstE_hit {a b : List Int} {e : Int} (h : ∀ x ∈ a, x = 0) (he : e ≠ 0) : firstE (a ++ e :: b) = e := by
  rw [firstE_pre h]
  show (if e ≠ 0 then e else firstE b) = e
  rw [if_pos he]
end Go.Proofs.YtgcpffbaejodiaaDoor
namespace Go.Proofs.YtgcpffbaejodiaaDoor
theorem suffix_last (t : List UInt8) (c : UInt8) : Lib.hasSuffix t [c] = true ↔ t.getLast? = some c := by
  unfold Lib.hasSuffix
  rw [List.isSuffixOf_iff_suffix]
  constructor
  · rintro ⟨r, rfl⟩
    simp
  · intro h
    obtain ⟨r, hr⟩ := List.getLast?_eq_some_iff.1 h
    exact ⟨r, hr.symm⟩
namespace VT
theorem openK_lib (k : Nat) (s : List UInt8) : openK k s = if Lib.hasPrefix s (nameK k ++ [40]) = true then (if Lib.hasSuffix (Lib.trimPrefix s (nameK k ++ [40])) [41] = true then some (Lib.trimSuffix (Lib.trimPrefix s (nameK k ++ [40])) [41]) else none) else none := by
  by_cases hp : Lib.hasPrefix s (nameK k ++ [40]) = true
  · have hd : Lib.trimPrefix s (nameK k ++ [40]) = s.drop ((nameK k).length + 1) := by
      unfold Lib.trimPrefix
      rw [if_pos hp, List.length_append]
      rfl
    rw [if_pos hp, hd]
    unfold openK
    by_cases hs : (s.drop ((nameK k).length + 1)).getLast? = some 41
    · have hs2 := (suffix_last _ 41).2 hs
      rw [if_pos ⟨hp, hs⟩, if_pos hs2]
      unfold Lib.trimSuffix
      rw [if_pos hs2, List.dropLast_eq_take]
      rfl
    · rw [if_neg (fun h => hs h.2), if_neg (fun h => hs ((suffix_last _ 41).1 h))]
  · rw [if_neg hp]
    unfold openK
    rw [if_neg (fun h => hp h.1)]
theorem opened_five {s e : List UInt8} (h : openK 5 s = some e) : opened s = some (5, e) := by unfold opened; rw [h]
theorem opened_six {s e : List UInt8} (h5 : openK 5 s = none) (h : openK 6 s = some e) : opened s = some (6, e) := by unfold opened; rw [h5, h]
theorem opened_none {s : List UInt8} (h5 : openK 5 s = none) (h6 : openK 6 s = none) : opened s = none := by unfold opened; rw [h5, h6]
theorem baseK_none {s : List UInt8} (h : ∀ j, j ≤ 7 → j ≠ 5 → j ≠ 6 → nameK j ≠ s) : baseK s = none := by
  cases hb : baseK s with
  | none => rfl
  | some k =>
    obtain ⟨h1, h2⟩ := baseK_eq hb
    exact absurd h1 (h k h2.1 h2.2.1 h2.2.2)
/-- the types around a type, the outermost first -/
def wrapK (ks : List Nat) (v : VT) : VT := ks.foldr of v
theorem wrapK_snoc (ks : List Nat) (k : Nat) (v : VT) : wrapK (ks ++ [k]) v = wrapK ks (of k v) := by unfold wrapK; rw [List.foldr_append]; rfl
theorem wrapK_depth : ∀ (ks : List Nat) (v : VT), (wrapK ks v).depth = ks.length + v.depth
  | [], v => by show v.depth = 0 + v.depth; omega
  | k :: ks, v => by
    show (wrapK ks v).depth + 1 = (ks.length + 1) + v.depth
    rw [wrapK_depth ks v]; omega
theorem wrapK_ok : ∀ {ks : List Nat} {v : VT}, (∀ k ∈ ks, k = 5 ∨ k = 6) → v.Ok → (wrapK ks v).Ok
  | [], _, _, h => h
  | _ :: _, _, hk, h => ⟨hk _ (List.mem_cons_self ..), wrapK_ok (fun k h => hk k (List.mem_cons_of_mem _ h)) h⟩
theorem parse_wrap {s e : List UInt8} {ks : List Nat} {k : Nat} {o : Option VT} (h : o = (parse s).map (wrapK ks)) (ho : opened s = some (k, e)) : o = (parse e).map (wrapK (ks ++ [k])) := by
  rw [h, parse_open ho]
  cases parse e with
  | none => rfl
  | some v => show some (wrapK ks (of k v)) = some (wrapK (ks ++ [k]) v); rw [wrapK_snoc]
theorem parse_ok {s : List UInt8} {v : VT} (h : parse s = some v) : v.Ok := (text_parse h).2
end VT
/-- the type that a text is -/
def parseV (s : List UInt8) : VT := if 4096 < s.length then .base 0 else match VT.parse s with
  | some v => if v.depth ≤ 16 then v else .base 0
  | none => .base 0
/-- .. and the error -/
def parseE (s : List UInt8) : Int := if 4096 < s.length then 3 else match VT.parse s with
  | some v => if v.depth ≤ 16 then 0 else 13
  | none => 5
theorem any_ok : (VT.base 0).Ok := ⟨by decide, by decide, by decide⟩
theorem parseV_ok (s : List UInt8) : (parseV s).Ok := by
  unfold parseV
  split
  · exact any_ok
  · split
    · rename_i v hv
      split
      · exact VT.parse_ok hv
      · exact any_ok
    · exact any_ok
theorem parseV_depth (s : List UInt8) : (parseV s).depth ≤ 16 := by
  unfold parseV
  split
  · decide
  · split
    · split
      · assumption
      · decide
    · decide
end Go.Proofs.YtgcpffbaejodiaaDoor
