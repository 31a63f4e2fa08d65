/- The law that counts the votes: the plain part. -/
import Derived.Test.YtionchkblgpklaaDoorGtL
import Derived.Test.YtionchkblgpklaaDoorGtP
namespace Go.Proofs.YtionchkblgpklaaDoor
open Go.RowKit
structure Vo where
  who : ByteArray
  no : Bool
  at_ : Int
abbrev vcells (v : Vo) : List Value := [.string v.who, .bool v.no, .int .i64 v.at_]
theorem flat3_at : ∀ {l : List Vo} {i : Nat} {x : Vo} {j : Nat} {u : Value}, l[i]? = some x → (vcells x)[j]? = some u → (l.flatMap vcells)[i * 3 + j]? = some u
  | [], _, _, _, _, h, _ => by simp at h
  | y :: l, 0, x, j, u, h, hu => by
    simp only [List.getElem?_cons_zero, Option.some.injEq] at h
    subst h
    rw [List.flatMap_cons, Nat.zero_mul, Nat.zero_add, List.getElem?_append_left (List.getElem?_eq_some_iff.1 hu).1]
    exact hu
  | y :: l, i + 1, x, j, u, h, hu => by
    rw [List.getElem?_cons_succ] at h
    rw [List.flatMap_cons, List.getElem?_append_right (by simp; omega), show (i + 1) * 3 + j - (vcells y).length = i * 3 + j by simp; omega]
    exact flat3_at h hu
/-- may somebody vote -/
theorem check_zero {s : Gs} {now : Int} {yes : List ByteArray} {st : Int} {who : ByteArray} {t : Int} (hn : 0 ≤ now ∧ now ≤ 1125899906842624) (he : 1 ≤ s.exp ∧ s.exp ≤ 1125899906842624) :
    checkG ⟨s, now, yes, st⟩ who t = 0 ↔ st = 0 ∧ t < now + s.exp ∧ hasL s.who who = true := by
  have hs : satI (now + s.exp) = now + s.exp := by unfold satI; rw [if_neg (by omega), if_neg (by omega)]
  unfold checkG passG
  dsimp only
  rw [hs]
  by_cases h1 : st = 0
  · rw [if_neg (by simp [h1])]
    by_cases h2 : now + s.exp ≤ t
    · rw [if_pos (decide_eq_true h2)]
      constructor
      · intro h; omega
      · intro h; omega
    · rw [if_neg (by simp; omega)]
      cases h3 : hasL s.who who with
      | true => simp [h1]; omega
      | false => simp
  · rw [if_pos h1]
    constructor
    · intro h; omega
    · intro h; exact absurd h.1 h1
/-- what is known between two votes -/
structure CIn (s : Gs) (yes ys : List ByteArray) (st : Int) : Prop where
  len : yes.length = ys.length
  asc : ascL yes = true
  has : ∀ x, hasL yes x = hasL ys x
  sub : ∀ x ∈ yes, x ∈ s.who
  lt : st = 0 → (ys.length : Int) < s.app
theorem CIn.put {s : Gs} {yes ys : List ByteArray} {x : ByteArray} (h : CIn s yes ys 0) (hx : hasL yes x = false) (hw : hasL s.who x = true) :
    CIn s (putL yes x) (ys ++ [x]) (if s.app ≤ (yes.length : Int) + 1 then 1 else 0) where
  len := by rw [putL_len, h.len]; simp
  asc := asc_put h.asc (fun hm => by rw [hasL_mem.2 hm] at hx; cases hx)
  has := fun z => by
    rw [hasL_put, h.has, Bool.eq_iff_iff, Bool.or_eq_true, decide_eq_true_eq, hasL_mem, hasL_mem, List.mem_append, List.mem_singleton]
    exact ⟨fun h => h.elim .inr .inl, fun h => h.elim .inr .inl⟩
  sub := fun z hz => by
    rcases putL_mem.1 hz with rfl | hz
    · exact hasL_mem.1 hw
    · exact h.sub z hz
  lt := fun hs => by
    have h1 := h.len
    have h2 := h.lt rfl
    by_cases ha : s.app ≤ (yes.length : Int) + 1
    · rw [if_pos ha] at hs; omega
    · simp; omega
theorem CIn.state {s : Gs} {yes ys : List ByteArray} {st st' : Int} (h : CIn s yes ys st) (h0 : st' ≠ 0) : CIn s yes ys st' where
  len := h.len
  asc := h.asc
  has := h.has
  sub := h.sub
  lt := fun e => absurd e h0
theorem app_no {g : Gt} {who : ByteArray} {t : Int} (h : checkG g who t ≠ 0) : appG g who t = g ∧ appE g who t = checkG g who t := by
  have he : appE g who t = checkG g who t := by unfold appE; rw [if_pos h]
  exact ⟨by unfold appG; rw [he, if_pos h], he⟩
theorem app_has {g : Gt} {who : ByteArray} {t : Int} (h : checkG g who t = 0) (hh : hasL g.yes who = true) : appG g who t = g ∧ appE g who t = 7 := by
  have he : appE g who t = 7 := by unfold appE; rw [if_neg (Decidable.not_not.2 h), if_pos hh]
  exact ⟨by unfold appG; rw [he, if_pos (by simp)], he⟩
theorem app_yes {g : Gt} {who : ByteArray} {t : Int} (h : checkG g who t = 0) (hh : hasL g.yes who = false) : appG g who t = { g with yes := putL g.yes who, state := if g.s.app ≤ (g.yes.length : Int) + 1 then 1 else g.state } ∧ appE g who t = 0 := by
  have he : appE g who t = 0 := by unfold appE; rw [if_neg (Decidable.not_not.2 h), if_neg (by simp [hh])]
  exact ⟨by unfold appG; rw [he, if_neg (by simp)], he⟩
theorem owns_raise {w : World} {B B' n sz : Nat} {e : TypeId} {v : Value} {xs : List Value} (h : w.ownsRow B e sz v n xs) (hb : ∀ g, v.ownBlock = some g → B' ≤ g) : w.ownsRow B' e sz v n xs := by
  refine ⟨h.1, ?_⟩
  rcases h.2 with h2 | ⟨g, cap, cur, rfl, h4, h5, h6⟩
  · exact .inl h2
  · exact .inr ⟨g, cap, cur, rfl, hb g rfl, h5, h6⟩
theorem owns_form {w : World} {B n sz : Nat} {e : TypeId} {v : Value} {xs : List Value} (h : w.ownsRow B e sz v n xs) : ∃ A c, v = .slice A n c := by
  rcases h.2 with ⟨rfl, rfl⟩ | ⟨g, cap, cur, rfl, _⟩
  · exact ⟨none, 0, rfl⟩
  · exact ⟨_, _, rfl⟩
/-- the row lies in another block -/
theorem owns_ne {w : World} {B n sz : Nat} {e : TypeId} {v : Value} {xs : List Value} (h : w.ownsRow B e sz v n xs) {p : Addr} (hp : some p.block ≠ v.ownBlock) (u : Value) : (w.setCell p u).ownsRow B e sz v n xs := by
  refine ⟨h.1, ?_⟩
  rcases h.2 with h2 | ⟨g, cap, cur, rfl, h4, h5, h6⟩
  · exact .inl h2
  · exact .inr ⟨g, cap, cur, rfl, h4, by rw [heap_setCell_far (fun e => hp (by rw [e]; rfl))]; exact h5, h6⟩
theorem owns_six {w w' : World} {B n sz b : Nat} {e : TypeId} {v : Value} {xs : List Value} {x0 x1 x2 x3 x4 x5 : Value} (h : w.ownsRow B e sz v n xs) (hp : some b ≠ v.ownBlock) (hw : ((((((w.setCell ⟨b, 0, none⟩ x0).setCell ⟨b, 1, none⟩ x1).setCell ⟨b, 2, none⟩ x2).setCell ⟨b, 3, none⟩ x3).setCell ⟨b, 4, none⟩ x4).setCell ⟨b, 5, none⟩ x5) = w') : w'.ownsRow B e sz v n xs := by
  subst hw
  exact owns_ne (p := ⟨b, 5, none⟩) (owns_ne (p := ⟨b, 4, none⟩) (owns_ne (p := ⟨b, 3, none⟩) (owns_ne (p := ⟨b, 2, none⟩) (owns_ne (p := ⟨b, 1, none⟩) (owns_ne (p := ⟨b, 0, none⟩) h hp _) hp _) hp _) hp _) hp _) hp _
end Go.Proofs.YtionchkblgpklaaDoor
