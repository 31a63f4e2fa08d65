/- The law on keeping: plain facts and its walk. -/
import Derived.Test.YtclinbpkcmcokaaDoorArtExp
import Derived.Test.YtclinbpkcmcokaaDoorLaw1
namespace Go.Proofs.YtclinbpkcmcokaaDoor
open Go.RowKit
/-- no two artifacts have one run and one name -/
def Uniq (l : List Art) : Prop := ∀ (i j : Nat) (x y : Art), l[i]? = some x → l[j]? = some y → hit x.run (key x) y = true → i = j
theorem hit_self (a : Art) : hit a.run (key a) a = true := by unfold hit; simp
theorem hit_comm (a b : Art) (h : hit a.run (key a) b = true) : hit b.run (key b) a = true := by
  unfold hit at h ⊢
  simp only [Bool.and_eq_true, beq_iff_eq] at h ⊢
  exact ⟨h.1.symm, h.2.symm⟩
theorem uniq_snoc {l : List Art} {a b : Art} (h : Uniq l) (hno : ∀ x ∈ l, hit a.run (key a) x = false) (h1 : b.run = a.run) (h2 : key b = key a) : Uniq (l ++ [b]) := by
  have hno2 : ∀ x ∈ l, hit b.run (key b) x = false := by rw [h1, h2]; exact hno
  intro i j x y hi hj hxy
  rw [List.getElem?_append] at hi hj
  split at hi
  · split at hj
    · exact h i j x y hi hj hxy
    · have hy : y = b := by
        have := List.mem_of_getElem? hj
        simpa using this
      subst hy
      have := hno2 x (List.mem_of_getElem? hi)
      rw [hit_comm _ _ hxy] at this
      cases this
  · have hx : x = b := by
      have := List.mem_of_getElem? hi
      simpa using this
    subst hx
    split at hj
    · have := hno2 y (List.mem_of_getElem? hj)
      rw [hxy] at this
      cases this
    · have e1 : i - l.length < 1 := by simpa using (List.getElem?_eq_some_iff.1 hi).1
      have e2 : j - l.length < 1 := by simpa using (List.getElem?_eq_some_iff.1 hj).1
      omega
theorem err_no {l : List Art} {a : Art} (h : errA l a = 0) : ∀ x ∈ l, hit a.run (key a) x = false := by
  unfold errA at h
  split at h
  · cases h
  split at h
  · cases h
  split at h
  · cases h
  split at h
  · cases h
  · rename_i hf
    unfold fnd at hf
    cases hx : l.findIdx? (hit a.run (key a)) with
    | none => exact List.findIdx?_eq_none_iff.1 hx
    | some k => rw [hx] at hf; exact absurd (Int.natCast_nonneg k) hf
theorem getA_find (l : List Art) (run s : ByteArray) (now : Int) : getA l run s now = match l.find? (hit run s) with
  | none => (zeroA, 8)
  | some a => if a.expires ≤ now then (zeroA, 20) else (a, 0) := by
  unfold getA
  cases h : l.findIdx? (hit run s) with
  | none =>
    have : l.find? (hit run s) = none := List.find?_eq_none.2 fun x hx => by rw [List.findIdx?_eq_none_iff.1 h x hx]; decide
    rw [this]
  | some i =>
    obtain ⟨hlt, hp, hno⟩ := List.findIdx?_eq_some_iff_getElem.1 h
    have h1 : l[i]? = some l[i] := List.getElem?_eq_getElem hlt
    have h2 : l.find? (hit run s) = some l[i] := by
      rw [List.find?_eq_some_iff_getElem]
      exact ⟨hp, i, hlt, rfl, fun j hj => by simpa using hno j hj⟩
    rw [h2]
    dsimp only
    rw [h1]
theorem find_one {l : List Art} {q : Art → Bool} {a : Art} (hu : ∀ x ∈ l, q x = true → x = a) (ha : a ∈ l) (hq : q a = true) : l.find? q = some a := by
  cases h : l.find? q with
  | none => exact absurd hq (List.find?_eq_none.1 h a ha)
  | some x => rw [hu x (List.mem_of_find?_eq_some h) (List.find?_some h)]
theorem uniq_eq {l : List Art} (h : Uniq l) {i : Nat} {a x : Art} (ha : l[i]? = some a) (hx : x ∈ l) (hq : hit a.run (key a) x = true) : x = a := by
  obtain ⟨j, hj, rfl⟩ := List.getElem_of_mem hx
  have := h i j a _ ha (List.getElem?_eq_getElem hj) hq
  subst this
  rw [List.getElem?_eq_getElem hj] at ha
  cases ha; rfl
theorem get_all {l : List Art} (h : Uniq l) {i : Nat} {a : Art} (ha : l[i]? = some a) (now : Int) : getA l a.run (key a) now = if a.expires ≤ now then (zeroA, 20) else (a, 0) := by
  rw [getA_find, find_one (a := a) (fun x hx hq => uniq_eq h ha hx hq) (List.mem_of_getElem? ha) (hit_self a)]
theorem get_rest {l : List Art} (h : Uniq l) {i : Nat} {a : Art} (ha : l[i]? = some a) (now : Int) : getA (l.filter (alive now)) a.run (key a) now = if a.expires ≤ now then (zeroA, 8) else (a, 0) := by
  rw [getA_find]
  by_cases hx : a.expires ≤ now
  · have : (l.filter (alive now)).find? (hit a.run (key a)) = none := by
      rw [List.find?_eq_none]
      intro x hx2 hq
      obtain ⟨hm, hal⟩ := List.mem_filter.1 hx2
      have := uniq_eq h ha hm hq
      subst this
      unfold alive at hal
      simp only [decide_eq_true_eq] at hal
      omega
    rw [this, if_pos hx]
  · have : (l.filter (alive now)).find? (hit a.run (key a)) = some a := by
      refine find_one (fun x hx2 hq => uniq_eq h ha (List.mem_filter.1 hx2).1 hq) (List.mem_filter.2 ⟨List.mem_of_getElem? ha, ?_⟩) (hit_self a)
      unfold alive
      simp only [decide_eq_true_eq]
      omega
    rw [this, if_neg hx]
    dsimp only
    rw [if_neg hx]
theorem Own.beside {W0 wa w' : World} {e : TypeId} {size n : Nat} {v u u' : Value} {xs : List Value} (H : Own W0 wa e size v n xs) (hg : Grew wa w' u u') (hne : v.ownBlock = none ∨ v.ownBlock ≠ u.ownBlock) (hB : Below W0.heap.size W0 w') : Own W0 w' e size v n xs :=
  ⟨H.1.kept hg.by_ hne, hB⟩
end Go.Proofs.YtclinbpkcmcokaaDoor
