/- Decoded fields are no larger than their bytes. Plain. -/
import Derived.Test.YtjipnomokggcfaaDec
namespace Go.Proofs.Ytjipnomokggcfaa
def fvs (v : FV) : Nat := v.2.2.1.size + v.2.2.2.size + 1
theorem takeS_size {l : List UInt8} (h : (takeS l).2.2 = 0) : (takeS l).1.length + 1 ≤ (takeS l).2.1 := by
  unfold takeS at h ⊢
  split at h
  · contradiction
  · rename_i h1
    have h1 : (takeU l).2.2 = 0 := by omega
    have := takeU_len h1
    split at h
    · simp at h
    · rename_i h2
      rw [if_neg (by omega), if_neg h2]
      simp only [List.length_take, List.length_drop]
      omega
theorem one_small {sub : List UInt8 → Nat ⊕ (Flds × List UInt8)} {c : UInt8} {r r' : List UInt8} {v : FV} (hs : ∀ f r', sub r = .inr (f, r') → f.size + r'.length ≤ r.length) (h : one sub c r = .inr (v, r')) : fvs v + r'.length ≤ r.length + 1 := by
  unfold one at h
  split at h
  · split at h
    · simp at h
    · rename_i h1
      have h1 : (takeU r).2.2 = 0 := by unfold takeI at h1; dsimp only at h1; omega
      have := takeU_len h1
      simp only [Sum.inr.injEq, Prod.mk.injEq] at h
      obtain ⟨rfl, rfl⟩ := h
      have hd : (List.drop (takeI r).2.1 r).length = r.length - (takeU r).2.1 := by rw [List.length_drop]; rfl
      rw [hd]
      simp only [fvs, Flds.size]
      have : ByteArray.empty.size = 0 := rfl
      omega
  · split at h
    · split at h
      · simp at h
      · rename_i h1
        have h1 : (takeS r).2.2 = 0 := by omega
        have h2 := takeS_len h1
        have h3 := takeS_size h1
        simp only [Sum.inr.injEq, Prod.mk.injEq] at h
        obtain ⟨rfl, rfl⟩ := h
        rw [List.length_drop]
        simp only [fvs, Flds.size]
        have : (ByteArray.mk (takeS r).1.toArray).size = (takeS r).1.length := by simp [ByteArray.size]
        omega
    · split at h
      · simp at h
      · rename_i f r2 h1
        simp only [Sum.inr.injEq, Prod.mk.injEq] at h
        obtain ⟨rfl, rfl⟩ := h
        have := hs _ _ h1
        simp only [fvs]
        have : ByteArray.empty.size = 0 := rfl
        omega
theorem many_small {o : UInt8 → List UInt8 → Nat ⊕ (FV × List UInt8)} {deep : Bool} : ∀ (n : Nat) (l r : List UInt8) (f : Flds), (∀ c r v r', r.length < l.length → o c r = .inr (v, r') → fvs v + r'.length ≤ r.length + 1) → many o deep n l = .inr (f, r) → f.size + r.length ≤ l.length + 1
  | 0, l, r, f, _, h => by
    simp only [many, Sum.inr.injEq, Prod.mk.injEq] at h
    obtain ⟨rfl, rfl⟩ := h
    simp [Flds.size]; omega
  | n + 1, l, r, f, ho, h => by
    unfold many at h
    split at h
    · simp at h
    · rename_i x r1 hst
      have h1 : fvs x + r1.length ≤ l.length := by
        unfold step at hst
        split at hst
        · simp at hst
        · cases l with
          | nil => simp at hst
          | cons c l' =>
            dsimp only at hst
            split at hst
            · simp at hst
            · exact ho c l' x r1 (by simp) hst
      have hx : 1 ≤ fvs x := by unfold fvs; omega
      split at h
      · simp at h
      · rename_i f1 r2 hm
        have h2 := many_small (o := o) (deep := deep) n r1 r2 f1 (fun c r v r' hr => ho c r v r' (by omega)) hm
        simp only [Sum.inr.injEq, Prod.mk.injEq] at h
        obtain ⟨rfl, rfl⟩ := h
        simp only [Flds.size]
        unfold fvs at h1
        omega
theorem rd_small : ∀ (F d : Nat) (l r : List UInt8) (f : Flds), rd F d l = .inr (f, r) → f.size + r.length ≤ l.length
  | 0, _, _, _, _, h => by simp [rd] at h
  | F + 1, d, l, r, f, h => by
    unfold rd at h
    split at h
    · simp at h
    · rename_i he
      have hk := takeU_len (l := l) (by omega)
      have := many_small _ _ _ _ (fun c r v r' _ h => one_small (fun f r' h => rd_small F (d + 1) r r' f h) h) h
      rw [List.length_drop] at this
      omega
theorem fieldsS_small {l : List UInt8} {f : Flds} (h : fieldsS l = .inr f) : f.size ≤ l.length := by
  unfold fieldsS at h
  split at h
  · simp at h
  · rename_i g r hr
    split at h
    · simp at h
    · simp only [Sum.inr.injEq] at h
      subst h
      have := rd_small _ _ _ _ _ hr
      omega
end Go.Proofs.Ytjipnomokggcfaa
