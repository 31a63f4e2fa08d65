/- Approvals as plain functions: two of them in either order; the approvers ascend. -/
import Derived.Test.YtionchkblgpklaaDoorGtB
namespace Go.Proofs.YtionchkblgpklaaDoor
open Go.RowKit
theorem putL_nil (s : ByteArray) : putL [] s = [s] := rfl
theorem putL_cons (a : ByteArray) (l : List ByteArray) (s : ByteArray) : putL (a :: l) s = if after s a = true then s :: a :: l else a :: putL l s := by
  unfold putL
  rw [posP]
  by_cases h : after s a = true
  · rw [if_pos h, if_pos h]; rfl
  · rw [if_neg h, if_neg h]
    unfold insAt
    rw [List.take_succ_cons, List.drop_succ_cons]
    rfl
theorem after_iff {s a : ByteArray} : after s a = true ↔ cmpN s.data.toList a.data.toList < 0 := by
  unfold after
  rw [decide_eq_true_eq, cmpN_swap s.data.toList a.data.toList]
  omega
theorem bytes_ext {a b : ByteArray} (h : a.data.toList = b.data.toList) : a = b := by
  cases a; cases b
  simp only [Array.toList_inj] at h
  rw [h]
theorem after_or {x y : ByteArray} (h : x ≠ y) : (after x y = true ∧ ¬ after y x = true) ∨ (¬ after x y = true ∧ after y x = true) := by
  rw [after_iff, after_iff, cmpN_swap x.data.toList y.data.toList]
  have h0 : cmpN x.data.toList y.data.toList ≠ 0 := fun e => h (bytes_ext (cmpN_zero.1 e))
  omega
theorem after_trans {x y a : ByteArray} (h : after x y = true) (h' : after y a = true) : after x a = true := by
  rw [after_iff] at *
  exact cmpN_trans h h'
/-- two that are put in either order -/
theorem putL_comm {x y : ByteArray} (h : x ≠ y) : ∀ l : List ByteArray, putL (putL l x) y = putL (putL l y) x
  | [] => by
    rw [putL_nil, putL_nil, putL_cons, putL_cons, putL_nil, putL_nil]
    rcases after_or h with ⟨h1, h2⟩ | ⟨h1, h2⟩
    · rw [if_neg h2, if_pos h1]
    · rw [if_pos h2, if_neg h1]
  | a :: l => by
    have ih := putL_comm h l
    rw [putL_cons a l x, putL_cons a l y]
    by_cases hx : after x a = true
    · rw [if_pos hx, putL_cons x (a :: l) y]
      by_cases hy : after y a = true
      · rw [if_pos hy, putL_cons y (a :: l) x]
        rcases after_or h with ⟨h1, h2⟩ | ⟨h1, h2⟩
        · rw [if_neg h2, if_pos h1, putL_cons, if_pos hy]
        · rw [if_pos h2, if_neg h1, putL_cons, if_pos hx]
      · rw [if_neg hy, if_neg (fun h3 => hy (after_trans h3 hx)), putL_cons, if_neg hy, putL_cons a _ x, if_pos hx]
    · rw [if_neg hx, putL_cons a _ y]
      by_cases hy : after y a = true
      · rw [if_pos hy, if_pos hy, putL_cons y (a :: l) x, if_neg (fun h3 => hx (after_trans h3 hy)), putL_cons, if_neg hx]
      · rw [if_neg hy, if_neg hy, putL_cons a _ x, if_neg hx, ih]
theorem putL_mem {l : List ByteArray} {s x : ByteArray} : x ∈ putL l s ↔ x = s ∨ x ∈ l := by
  induction l with
  | nil => rw [putL_nil]; simp
  | cons a l ih =>
    rw [putL_cons]
    by_cases h : after s a = true
    · rw [if_pos h, List.mem_cons]
    · rw [if_neg h, List.mem_cons, ih, List.mem_cons]
      constructor
      · rintro (h1 | h1 | h1)
        · exact .inr (.inl h1)
        · exact .inl h1
        · exact .inr (.inr h1)
      · rintro (h1 | h1 | h1)
        · exact .inr (.inl h1)
        · exact .inl h1
        · exact .inr (.inr h1)
theorem hasL_put {l : List ByteArray} {s x : ByteArray} : hasL (putL l s) x = (decide (x = s) || hasL l x) := by
  rw [Bool.eq_iff_iff, hasL_mem, putL_mem, Bool.or_eq_true, decide_eq_true_eq, hasL_mem]
theorem ascL_cons {a b : ByteArray} {l : List ByteArray} : ascL (a :: b :: l) = true ↔ after a b = true ∧ ascL (b :: l) = true := by
  rw [ascL, Bool.and_eq_true_iff, decide_eq_true_eq, after_iff]
/-- names that ascend still do with one more -/
theorem asc_put {s : ByteArray} : ∀ {l : List ByteArray}, ascL l = true → s ∉ l → ascL (putL l s) = true
  | [], _, _ => rfl
  | [a], _, hs => by
    have hne : s ≠ a := fun e => hs (by rw [e]; exact List.mem_singleton.2 rfl)
    rw [putL_cons, putL_nil]
    rcases after_or hne with ⟨h1, _⟩ | ⟨h1, h2⟩
    · rw [if_pos h1, ascL_cons]; exact ⟨h1, rfl⟩
    · rw [if_neg h1, ascL_cons]; exact ⟨h2, rfl⟩
  | a :: b :: l, h, hs => by
    obtain ⟨h1, h2⟩ := ascL_cons.1 h
    have hne : s ≠ a := fun e => hs (by rw [e]; exact List.mem_cons_self)
    have ih := asc_put h2 (fun hm => hs (List.mem_cons_of_mem _ hm))
    rw [putL_cons]
    rcases after_or hne with ⟨q1, _⟩ | ⟨q1, q2⟩
    · rw [if_pos q1, ascL_cons]; exact ⟨q1, h⟩
    · rw [if_neg q1]
      rw [putL_cons] at ih ⊢
      by_cases hb : after s b = true
      · rw [if_pos hb] at ih ⊢
        rw [ascL_cons]; exact ⟨q2, ih⟩
      · rw [if_neg hb] at ih ⊢
        rw [ascL_cons]; exact ⟨h1, ih⟩
/-- two approvals in either order -/
theorem app_comm {g : Gt} {x y : ByteArray} {now : Int} (hap : (g.yes.length : Int) + 2 ≤ g.s.app) (h0 : appE g x now = 0) (h1 : appE (appG g x now) y now = 0) (h2 : appE g y now = 0) :
    appG (appG g x now) y now = appG (appG g y now) x now ∧ ((appG (appG g x now) y now).state == 1) = (g.s.app == (g.yes.length : Int) + 2) := by
  have e : ∀ {g : Gt} {x : ByteArray}, appE g x now = 0 → checkG g x now = 0 ∧ hasL g.yes x = false := fun {g x} h => by
    unfold appE at h
    by_cases hc : checkG g x now = 0
    · rw [if_neg (Decidable.not_not.2 hc)] at h
      refine ⟨hc, ?_⟩
      cases hh : hasL g.yes x with
      | false => rfl
      | true => rw [if_pos hh] at h; omega
    · rw [if_pos hc] at h; exact absurd h hc
  have st : ∀ {g : Gt} {x : ByteArray}, checkG g x now = 0 → g.state = 0 := fun {g x} h => by
    unfold checkG at h
    by_cases hs : g.state = 0
    · exact hs
    · rw [if_pos hs] at h; omega
  have g0 : g.state = 0 := st (e h0).1
  have ax : ∀ z, appE g z now = 0 → appG g z now = { g with yes := putL g.yes z } := fun z h => by
    unfold appG
    rw [if_neg (Decidable.not_not.2 h), if_neg (by omega)]
  have hxy : x ≠ y := by
    intro he
    rw [ax x h0] at h1
    have := (e h1).2
    dsimp only at this
    rw [hasL_put, ← he] at this
    simp at this
  rw [ax x h0] at h1
  rw [ax x h0, ax y h2]
  have h3 : appE { g with yes := putL g.yes y } x now = 0 := by
    have c1 : checkG { g with yes := putL g.yes y } x now = checkG g x now := rfl
    unfold appE
    rw [c1, (e h0).1, if_neg (by simp), if_neg]
    dsimp only
    rw [hasL_put, (e h0).2]
    simp [hxy]
  unfold appG
  rw [if_neg (Decidable.not_not.2 h1), if_neg (Decidable.not_not.2 h3)]
  dsimp only
  rw [putL_comm hxy, putL_len, putL_len]
  refine ⟨rfl, ?_⟩
  by_cases hq : g.s.app = (g.yes.length : Int) + 2
  · rw [if_pos (by rw [hq]; simp; omega)]
    simp [hq]
  · rw [if_neg (by simp; omega), g0]
    have : (g.s.app == (g.yes.length : Int) + 2) = false := by simpa using hq
    rw [this]; rfl
end Go.Proofs.YtionchkblgpklaaDoor
