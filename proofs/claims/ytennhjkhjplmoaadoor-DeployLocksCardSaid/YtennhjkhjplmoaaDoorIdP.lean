/- Identifiers and paths, as plain functions: no program. -/
import Derived.WalkKit
import Derived.Lib.Split
import Derived.Lib.SplitLaws
import Derived.Lib.IndexBytes
namespace Go.Proofs.YtennhjkhjplmoaaDoor
/-- a letter or a digit -/
def lowC (c : Nat) : Bool := (decide (97 ≤ c) && decide (c ≤ 122)) || (decide (48 ≤ c) && decide (c ≤ 57))
def nameC (i c : Nat) : Bool := lowC c || (decide (0 < i) && (c == 95 || c == 45 || c == 46))
def allC : Nat → List UInt8 → Bool
  | _, [] => true
  | i, c :: r => nameC i c.toNat && allC (i + 1) r
/-- is it an identifier -/
def nameS (l : List UInt8) : Bool := decide (0 < l.length) && decide (l.length ≤ 64) && allC 0 l
theorem allC_at {l : List UInt8} {i : Nat} {c : UInt8} (h : l[i]? = some c) : allC i (l.drop i) = (nameC i c.toNat && allC (i + 1) (l.drop (i + 1))) := by
  obtain ⟨hk, he⟩ := List.getElem?_eq_some_iff.1 h
  rw [List.drop_eq_getElem_cons hk, he]; rfl
theorem allC_end {l : List UInt8} {i : Nat} (h : l.length ≤ i) : allC i (l.drop i) = true := by
  rw [List.drop_of_length_le h]; rfl
/-- what stands between the slashes; what is pending stands ahead of the first -/
def spA : List UInt8 → List UInt8 → List (List UInt8)
  | p, [] => [p]
  | p, c :: r => if c.toNat = 47 then p :: spA [] r else spA (p ++ [c]) r
theorem spA_split : ∀ (l p : List UInt8), ∃ x t, Lib.splitK [47] 0 (l.count 47) l = x :: t ∧ spA p l = (p ++ x) :: t
  | [], p => ⟨[], [], rfl, by simp [spA]⟩
  | b :: l, p => by
    by_cases hb : b = 47
    · subst hb
      obtain ⟨x, t, h1, h2⟩ := spA_split l []
      refine ⟨[], x :: t, ?_, ?_⟩
      · rw [List.count_cons_self]
        unfold Lib.splitK
        rw [Lib.index_one]
        have e : Lib.indexByte (47 :: l) 47 = 0 := by unfold Lib.indexByte; rfl
        rw [e, if_neg (by decide)]
        simp [h1]
      · unfold spA
        rw [if_pos (by rfl), h2]
        simp
    · have hb' : b.toNat ≠ 47 := fun h => hb (UInt8.toNat_inj.1 h)
      obtain ⟨x, t, h1, h2⟩ := spA_split l (p ++ [b])
      refine ⟨b :: x, t, ?_, ?_⟩
      · rw [List.count_cons_of_ne (by simpa using hb)]
        generalize l.count 47 = k at h1
        cases k with
        | zero =>
          simp only [Lib.splitK] at h1 ⊢
          injection h1 with e1 e2
          rw [e1, ← e2]
        | succ k =>
          unfold Lib.splitK at h1 ⊢
          rw [Lib.index_one] at h1 ⊢
          have hge := Lib.indexByte_ge l 47
          have e : Lib.indexByte (b :: l) 47 = if Lib.indexByte l 47 = -1 then -1 else Lib.indexByte l 47 + 1 := by
            rw [Lib.indexByte]
            simp only [beq_iff_eq]
            rw [if_neg hb]
          by_cases h0 : Lib.indexByte l 47 = -1
          · rw [e, if_pos h0, if_pos (by decide)]
            rw [h0, if_pos (by decide)] at h1
            injection h1 with e1 e2
            rw [e1, ← e2]
          · rw [e, if_neg h0, if_neg (by simp only [beq_iff_eq]; omega)]
            rw [if_neg (by simp only [beq_iff_eq]; omega)] at h1
            obtain ⟨i, hi⟩ := Int.eq_ofNat_of_zero_le (show 0 ≤ Lib.indexByte l 47 by omega)
            rw [hi] at h1 ⊢
            injection h1 with e1 e2
            have e3 : ((i : Int) + 1).toNat = i + 1 := by omega
            have e4 : ((i : Int)).toNat = i := by omega
            rw [e3]
            rw [e4] at e1 e2
            simp only [Nat.add_zero, List.take_succ_cons, List.length_cons, List.length_nil, Nat.zero_add] at e1 e2 ⊢
            rw [e1, List.drop_succ_cons, e2]
      · unfold spA
        rw [if_neg hb', h2]
        simp
def pieces (l : List UInt8) : List (List UInt8) := spA [] l
theorem split_pieces (s : ByteArray) : (Lib.splitB ⟨#[47]⟩ 0 (Lib.countB s ⟨#[47]⟩) s).map (·.data.toList) = pieces s.data.toList := by
  rw [Lib.splitB_data]
  have hc : Lib.countB s ⟨#[47]⟩ = s.data.toList.count 47 := Lib.count_one 47 s.data.toList
  rw [hc]
  obtain ⟨x, t, h1, h2⟩ := spA_split s.data.toList []
  show Lib.splitK [47] 0 _ _ = spA [] _
  rw [h1, h2]
  simp
/-- the number of the error of a path -/
def pathE (l : List UInt8) : Nat := if 512 < l.length then 3 else if (pieces l).all nameS then 0 else 1
end Go.Proofs.YtennhjkhjplmoaaDoor
