/- Cache: the law Isolates: what stays true of a cache, what Restore gives. No program in sight. -/
import Derived.Test.YtpdlapdnjmoaoaaDoorCaZ
import Derived.Test.YtpdlapdnjmoaoaaDoorCaY
import Derived.Test.YtpdlapdnjmoaoaaDoorCaBR
namespace Go.Proofs.YtpdlapdnjmoaoaaDoor
theorem hit_iff {s : Scp} {k : ByteArray} {x : Ent} : hitE s k x = true ↔ x.sc = s ∧ x.key = k := by
  constructor
  · intro h
    unfold hitE sameP at h
    simp only [Bool.and_eq_true, beq_iff_eq] at h
    obtain ⟨⟨h1, h2, h3⟩, h4⟩ := h
    refine ⟨?_, toList_inj h4⟩
    have e1 := toList_inj h1
    have e3 := toList_inj h3
    cases hs : x.sc
    cases s
    rw [hs] at e1 h2 e3
    dsimp only at e1 h2 e3
    rw [e1, h2, e3]
  · rintro ⟨rfl, rfl⟩
    simp [hitE, sameP]
theorem hit_no {s : Scp} {k : ByteArray} {x : Ent} : hitE s k x = false ↔ ¬ (x.sc = s ∧ x.key = k) := by
  rw [← hit_iff]
  simp
/-- a may stand before b -/
def Bef (a b : Ent) : Prop := ¬ (a.sc = b.sc ∧ a.key = b.key) ∧ a.created ≤ b.created
structure Good (l : List Ent) : Prop where
  right : ∀ x ∈ l, rightS x = true
  bef : l.Pairwise Bef
theorem allGood_at {l : List Ent} (h : allGood l = true) {i : Nat} {x : Ent} (hx : l[i]? = some x) : goodAt l i x = true := by
  unfold allGood at h
  rw [List.all_eq_true] at h
  have := h i (List.mem_range.2 (List.getElem?_eq_some_iff.1 hx).1)
  rw [hx] at this
  exact this
theorem goodAt_iff {l : List Ent} {i : Nat} {x : Ent} : goodAt l i x = true ↔ rightS x = true ∧ (∀ j y, j < i → l[j]? = some y → ¬ (y.sc = x.sc ∧ y.key = x.key)) ∧ prevOk l i x = true := by
  unfold goodAt
  rw [Bool.and_eq_true, Bool.and_eq_true, Bool.not_eq_true', List.any_eq_false]
  constructor
  · rintro ⟨⟨h1, h2⟩, h3⟩
    refine ⟨h1, fun j y hj hy => ?_, h3⟩
    have hm : y ∈ l.take i := List.mem_of_getElem? (i := j) (by rw [List.getElem?_take_of_lt hj]; exact hy)
    exact hit_no.1 (by simpa using h2 y hm)
  · rintro ⟨h1, h2, h3⟩
    refine ⟨⟨h1, fun y hy => ?_⟩, h3⟩
    obtain ⟨j, hj⟩ := List.getElem?_of_mem hy
    have hlt : j < i := by
      have := (List.getElem?_eq_some_iff.1 hj).1
      rw [List.length_take] at this
      omega
    rw [List.getElem?_take_of_lt hlt] at hj
    have := hit_no.2 (h2 j y hlt hj)
    rw [this]
    simp
theorem good_mono {l : List Ent} (h : allGood l = true) : ∀ (d i : Nat) (x y : Ent), l[i]? = some x → l[i + d]? = some y → x.created ≤ y.created
  | 0, i, x, y, hx, hy => by
    rw [Nat.add_zero, hx] at hy
    cases hy
    exact Int.le_refl _
  | d + 1, i, x, y, hx, hy => by
    have hlt := (List.getElem?_eq_some_iff.1 hy).1
    have hz : l[i + d]? = some (l[i + d]'(by omega)) := List.getElem?_eq_getElem (by omega)
    have h1 := good_mono h d i x _ hx hz
    have h2 := (goodAt_iff.1 (allGood_at h hy)).2.2
    unfold prevOk at h2
    rw [show i + (d + 1) = (i + d) + 1 from rfl] at h2
    dsimp only at h2
    rw [hz] at h2
    have := of_decide_eq_true h2
    omega
theorem good_of {l : List Ent} (h : allGood l = true) : Good l := by
  constructor
  · intro x hx
    obtain ⟨i, hi⟩ := List.getElem?_of_mem hx
    exact (goodAt_iff.1 (allGood_at h hi)).1
  · rw [List.pairwise_iff_getElem]
    intro i j hi hj hij
    have h1 : l[i]? = some l[i] := List.getElem?_eq_getElem hi
    have h2 : l[j]? = some l[j] := List.getElem?_eq_getElem hj
    exact ⟨(goodAt_iff.1 (allGood_at h h2)).2.1 i _ hij h1, good_mono h (j - i) i _ _ h1 (by rw [show i + (j - i) = j from by omega]; exact h2)⟩
theorem good_all {l : List Ent} (h : Good l) : allGood l = true := by
  have hp := h.bef
  rw [List.pairwise_iff_getElem] at hp
  refine allGood_of fun i x hi hx => ?_
  obtain ⟨hi', rfl⟩ := List.getElem?_eq_some_iff.1 hx
  refine goodAt_iff.2 ⟨h.right _ (List.getElem_mem _), fun j y hj hy => ?_, ?_⟩
  · obtain ⟨hj', rfl⟩ := List.getElem?_eq_some_iff.1 hy
    exact (hp j i hj' hi' hj).1
  · unfold prevOk
    cases i with
    | zero => rfl
    | succ j =>
      dsimp only
      rw [List.getElem?_eq_getElem (by omega : j < l.length)]
      exact decide_eq_true (hp j (j + 1) (by omega) hi' (by omega)).2
structure VInv (z : Int) (l : List Ent) : Prop where
  zr : inR z 0 1099511627776 = true
  len : l.length ≤ 1024
  good : Good l
  used : usedS l ≤ z
theorem valid_iff {z : Int} {l : List Ent} : validS z l = true ↔ VInv z l := by
  unfold validS
  simp only [Bool.and_eq_true, decide_eq_true_eq]
  constructor
  · rintro ⟨⟨⟨h1, h2⟩, h3⟩, h4⟩
    exact ⟨h1, h2, good_of h3, h4⟩
  · rintro ⟨h1, h2, h3, h4⟩
    exact ⟨⟨⟨h1, h2⟩, good_all h3⟩, h4⟩
theorem posE_hit (f : Ent → Bool) : ∀ (l : List Ent) (i : Nat) (x : Ent), l[i]? = some x → f x = true → (∀ j y, j < i → l[j]? = some y → f y = false) → posE f l = i
  | [], i, x, h, _, _ => by simp at h
  | y :: l, 0, x, h, hf, _ => by
    simp at h
    subst h
    unfold posE
    rw [if_pos hf]
  | y :: l, i + 1, x, h, hf, hb => by
    unfold posE
    rw [hb 0 y (by omega) rfl, posE_hit f l i x (by simpa using h) hf fun j z hj hz => hb (j + 1) z (by omega) (by simpa using hz)]
    simp
theorem posE_out (f : Ent → Bool) : ∀ (l : List Ent), posE f l = l.length → ∀ x ∈ l, f x = false
  | [], _, x, hx => by simp at hx
  | y :: l, h, x, hx => by
    unfold posE at h
    split at h
    · simp at h
    · rename_i hf
      have hl : posE f l = l.length := by simpa using h
      rcases List.mem_cons.1 hx with rfl | hx
      · simpa using hf
      · exact posE_out f l hl x hx
theorem find_at {l : List Ent} (h : Good l) {i : Nat} {x : Ent} (hx : l[i]? = some x) : findI x.sc x.key l = (i : Int) := by
  have hp := h.bef
  rw [List.pairwise_iff_getElem] at hp
  obtain ⟨hi', rfl⟩ := List.getElem?_eq_some_iff.1 hx
  have e : posE (hitE l[i].sc l[i].key) l = i := posE_hit _ l i _ hx (hit_iff.2 ⟨rfl, rfl⟩) fun j y hj hy => by
    obtain ⟨hj', rfl⟩ := List.getElem?_eq_some_iff.1 hy
    exact hit_no.2 (hp j i hj' hi' hj).1
  unfold findI
  rw [e, if_pos hi']
theorem find_out {s : Scp} {k : ByteArray} {l : List Ent} (h : ¬ 0 ≤ findI s k l) : ∀ x ∈ l, ¬ (x.sc = s ∧ x.key = k) := by
  have h2 : posE (hitE s k) l = l.length := by
    unfold findI at h
    split at h
    · omega
    · have := posE_le (hitE s k) l
      omega
  exact fun x hx => hit_no.1 (posE_out _ l h2 x hx)
theorem find_mem {l : List Ent} (h : Good l) {x : Ent} (hx : x ∈ l) : 0 ≤ findI x.sc x.key l := by
  obtain ⟨i, hi⟩ := List.getElem?_of_mem hx
  rw [find_at h hi]
  omega
theorem usedF_sizes : ∀ (l m : List Ent) (n : Int), l.map Ent.size = m.map Ent.size → usedF l n = usedF m n
  | [], [], _, _ => rfl
  | [], y :: m, _, h => by simp at h
  | x :: l, [], _, h => by simp at h
  | x :: l, y :: m, n, h => by
    simp at h
    unfold usedF
    rw [h.1]
    exact usedF_sizes l m _ h.2
theorem usedF_snoc : ∀ (l : List Ent) (x : Ent) (n : Int), usedF (l ++ [x]) n = satI (usedF l n + x.size)
  | [], _, _ => rfl
  | y :: l, x, n => by
    rw [List.cons_append, usedF, usedF]
    exact usedF_snoc l x _
theorem right_sizes {x : Ent} (h : rightS x = true) : 0 ≤ x.size ∧ x.size ≤ 1099511627776 := by
  unfold rightS inR at h
  simp only [Bool.and_eq_true, decide_eq_true_eq] at h
  exact h.1.1.2
theorem VInv.sizes {z : Int} {l : List Ent} (h : VInv z l) : SizeOk l := ⟨h.len, fun x hx => right_sizes (h.good.right x hx)⟩
/-- Touch keeps a cache valid -/
theorem valid_set {z : Int} {l : List Ent} (h : VInv z l) {m : Nat} {now : Int} (hn : inR now 0 1125899906842624 = true) : VInv z (setU l m now) := by
  unfold setU
  cases hx : l[m]? with
  | none => exact h
  | some x =>
    dsimp only
    have hm := (List.getElem?_eq_some_iff.1 hx).1
    have key : ∀ (i : Nat) (y' : Ent), (l.set m (usedAt x now))[i]? = some y' → ∃ y : Ent, l[i]? = some y ∧ y'.sc = y.sc ∧ y'.key = y.key ∧ y'.created = y.created ∧ rightS y' = true := by
      intro i y' hy
      by_cases e : m = i
      · subst e
        rw [List.getElem?_set_self hm] at hy
        cases hy
        refine ⟨x, hx, rfl, rfl, rfl, ?_⟩
        have hr := h.good.right x (List.mem_of_getElem? hx)
        unfold rightS namedS inR at hr ⊢
        unfold inR at hn
        simp only [Bool.and_eq_true] at hr hn ⊢
        have h1 := of_decide_eq_true hr.2.1
        have h2 := of_decide_eq_true hr.2.2
        have h3 := of_decide_eq_true hn.2
        refine ⟨⟨hr.1.1, hr.1.2⟩, decide_eq_true ?_, decide_eq_true ?_⟩
        · show x.created ≤ max x.used now
          omega
        · show max x.used now ≤ _
          omega
      · rw [List.getElem?_set_ne e] at hy
        exact ⟨y', hy, rfl, rfl, rfl, h.good.right _ (List.mem_of_getElem? hy)⟩
    refine ⟨h.zr, by rw [List.length_set]; exact h.len, ⟨?_, ?_⟩, ?_⟩
    · intro y' hy'
      obtain ⟨i, hi⟩ := List.getElem?_of_mem hy'
      obtain ⟨_, _, _, _, _, hr⟩ := key i y' hi
      exact hr
    · have hp := h.good.bef
      rw [List.pairwise_iff_getElem] at hp ⊢
      intro i j hi hj hij
      obtain ⟨y, hy, e1, e2, e3, _⟩ := key i _ (List.getElem?_eq_getElem hi)
      obtain ⟨v, hv, f1, f2, f3, _⟩ := key j _ (List.getElem?_eq_getElem hj)
      obtain ⟨hi', rfl⟩ := List.getElem?_eq_some_iff.1 hy
      obtain ⟨hj', rfl⟩ := List.getElem?_eq_some_iff.1 hv
      have := hp i j hi' hj' hij
      unfold Bef at this ⊢
      rw [e1, e2, e3, f1, f2, f3]
      exact this
    · have e : usedS (l.set m (usedAt x now)) = usedS l := by
        refine usedF_sizes _ _ _ ?_
        rw [List.map_set]
        refine List.ext_getElem? fun i => ?_
        by_cases e : m = i
        · subst e
          rw [List.getElem?_set_self (by rw [List.length_map]; exact hm), List.getElem?_map, hx]
          rfl
        · rw [List.getElem?_set_ne e]
      rw [e]
      exact h.used
theorem valid_touch {z : Int} {l : List Ent} (h : VInv z l) (s : Scp) (k : ByteArray) (now : Int) : VInv z (touchL z l s k now) := by
  unfold touchL
  split
  · rename_i ht
    unfold tOk at ht
    simp only [Bool.and_eq_true] at ht
    exact valid_set h ht.2.2
  · exact h
theorem roomF_sub : ∀ (k : Nat) (z s : Int) (l : List Ent), (roomF k z s l).Sublist l
  | 0, _, _, l => List.Sublist.refl l
  | k + 1, z, s, l => by
    unfold roomF
    split
    · exact (roomF_sub k z s _).trans (List.eraseIdx_sublist _ _)
    · exact List.Sublist.refl l
theorem oldF_lt2 (x : Ent) : ∀ (l : List Ent) (k i n : Nat), k < n → i + l.length ≤ n → oldF x k i l < n
  | [], _, _, _, h, _ => h
  | y :: l, k, i, n, h, h2 => by
    simp at h2
    unfold oldF
    split
    · exact oldF_lt2 y l i (i + 1) n (by omega) (by omega)
    · exact oldF_lt2 x l k (i + 1) n h (by omega)
theorem roomF_free : ∀ (k : Nat) (z s : Int) (l : List Ent), s ≤ z → l.length < k → fullS z s (roomF k z s l) = false
  | 0, _, _, _, _, h => absurd h (Nat.not_lt_zero _)
  | k + 1, z, s, l, hz, h => by
    unfold roomF
    split
    · rename_i hf
      have hne : l ≠ [] := by
        intro e
        subst e
        rw [full_nil hz] at hf
        cases hf
      refine roomF_free k z s _ hz ?_
      cases l with
      | nil => exact absurd rfl hne
      | cons x l =>
        have : oldS (x :: l) < (x :: l).length := oldF_lt2 x l 0 1 _ (by simp) (by simp; omega)
        rw [List.length_eraseIdx_of_lt this]
        omega
    · rename_i hf
      simpa using hf
theorem last_le {l : List Ent} (h : Good l) {now : Int} (hl : lastOk l now = true) : ∀ x ∈ l, x.created ≤ now := by
  intro x hx
  unfold lastOk at hl
  cases hg : l.getLast? with
  | none => rw [List.getLast?_eq_none_iff] at hg; subst hg; simp at hx
  | some y =>
    rw [hg] at hl
    have hy : y.created ≤ now := by simpa using hl
    obtain ⟨l2, rfl⟩ := List.getLast?_eq_some_iff.1 hg
    rcases List.mem_append.1 hx with hx | hx
    · have := (List.pairwise_append.1 h.bef).2.2 x hx y (by simp)
      have := this.2
      omega
    · rw [List.mem_singleton.1 hx]
      exact hy
structure SaveOk (z : Int) (l : List Ent) (x : Ent) (now : Int) : Prop where
  named : namedS x = true
  size : inR x.size 0 1099511627776 = true
  nowR : inR now 0 1125899906842624 = true
  last : lastOk l now = true
  new : ¬ 0 ≤ findI x.sc x.key l
  fits : x.size ≤ z
theorem saveE_ok {z : Int} {l : List Ent} {x : Ent} {now : Int} (h : saveE z l x now = 0) : SaveOk z l x now := by
  unfold saveE at h
  split at h
  · omega
  · rename_i h1
    split at h
    · omega
    · rename_i h2
      split at h
      · omega
      · rename_i h3
        split at h
        · omega
        · rename_i h4
          split at h
          · omega
          · rename_i h5
            simp only [Bool.or_eq_true, Bool.not_eq_true', not_or, Bool.not_eq_false] at h1 h2 h3
            exact ⟨h1.2, h2.1, h2.2, h3, h4, by omega⟩
theorem valid_save {z : Int} {l : List Ent} (h : VInv z l) (x : Ent) (now : Int) : VInv z (saveL z l x now) := by
  unfold saveL
  split
  · rename_i he
    obtain ⟨hn, hs, ht, hl, hf, hz⟩ := saveE_ok he
    have hsub : (roomS z x.size l).Sublist l := roomF_sub _ _ _ _
    have hfr : fullS z x.size (roomS z x.size l) = false := roomF_free _ _ _ _ hz (Nat.lt_succ_self _)
    unfold fullS at hfr
    simp only [Bool.or_eq_false_iff, decide_eq_false_iff_not] at hfr
    have hS : SizeOk (roomS z x.size l) := ⟨Nat.le_trans hsub.length_le h.len, fun y hy => h.sizes.size y (hsub.mem hy)⟩
    have hub := used_bound hS
    have hsz : 0 ≤ x.size ∧ x.size ≤ 1099511627776 := by
      unfold inR at hs
      simpa using hs
    have hzz : 0 ≤ z ∧ z ≤ 1099511627776 := by
      have := h.zr
      unfold inR at this
      simpa using this
    refine ⟨h.zr, ?_, ⟨?_, ?_⟩, ?_⟩
    · rw [List.length_append]
      simp
      omega
    · intro y hy
      rcases List.mem_append.1 hy with hy | hy
      · exact h.good.right y (hsub.mem hy)
      · rw [List.mem_singleton.1 hy]
        have e : namedS (stamp x now) = namedS x := rfl
        unfold rightS
        rw [e, hn, show (stamp x now).size = x.size from rfl, hs, show (stamp x now).created = now from rfl, ht, show (stamp x now).used = now from rfl]
        unfold inR at ht ⊢
        simp only [Bool.and_eq_true, decide_eq_true_eq] at ht ⊢
        exact ⟨⟨⟨trivial, trivial⟩, trivial⟩, Int.le_refl _, ht.2⟩
    · rw [List.pairwise_append]
      refine ⟨h.good.bef.sublist hsub, List.pairwise_singleton _ _, fun a ha b hb => ?_⟩
      rw [List.mem_singleton.1 hb]
      exact ⟨find_out hf a (hsub.mem ha), last_le h.good hl a (hsub.mem ha)⟩
    · unfold usedS
      rw [usedF_snoc]
      show satI (usedS (roomS z x.size l) + x.size) ≤ z
      unfold satI
      rw [if_neg (by omega), if_neg (by omega)]
      omega
  · exact h
/-- what one call may do to a cache -/
def StepOk (l : List Ent) (x : Ent) (touch : Bool) (next : List Ent) : Prop := ∀ (k : Nat) (y : Ent), next[k]? = some y →
  (findI y.sc y.key l = -1 ∧ touch = false ∧ k + 1 = next.length ∧ y.sc = x.sc ∧ y.dig = x.dig) ∨ (∃ (m : Nat) (v : Ent), findI y.sc y.key l = (m : Int) ∧ l[m]? = some v ∧ y.dig = v.dig ∧ y.created = v.created ∧ v.used ≤ y.used)
theorem step_same {l : List Ent} (h : Good l) (x : Ent) (t : Bool) : StepOk l x t l := fun k y hy => .inr ⟨k, y, find_at h hy, hy, rfl, rfl, Int.le_refl _⟩
theorem step_touch {z : Int} {l : List Ent} (h : Good l) (x : Ent) (k : ByteArray) (s : Scp) (now : Int) (t : Bool) : StepOk l x t (touchL z l s k now) := by
  unfold touchL
  split
  · unfold setU
    generalize (findI s k l).toNat = m
    cases hx : l[m]? with
    | none => exact step_same h x t
    | some v =>
      dsimp only
      intro i y hy
      by_cases e : m = i
      · subst e
        rw [List.getElem?_set_self (List.getElem?_eq_some_iff.1 hx).1] at hy
        cases hy
        exact .inr ⟨m, v, find_at (x := v) h hx, hx, rfl, rfl, Int.le_max_left _ _⟩
      · rw [List.getElem?_set_ne e] at hy
        exact .inr ⟨i, y, find_at h hy, hy, rfl, rfl, Int.le_refl _⟩
  · exact step_same h x t
theorem find_neg {s : Scp} {k : ByteArray} {l : List Ent} (h : ¬ 0 ≤ findI s k l) : findI s k l = -1 := by
  unfold findI at h ⊢
  split at h
  · omega
  · rename_i hl
    rw [if_neg hl]
theorem step_save {z : Int} {l : List Ent} (h : Good l) (x : Ent) (now : Int) : StepOk l x false (saveL z l x now) := by
  unfold saveL
  split
  · rename_i he
    have hs := saveE_ok he
    have hsub : (roomS z x.size l).Sublist l := roomF_sub _ _ _ _
    intro k y hy
    by_cases hk : k < (roomS z x.size l).length
    · rw [List.getElem?_append_left hk] at hy
      obtain ⟨i, hi⟩ := List.getElem?_of_mem (hsub.mem (List.mem_of_getElem? hy))
      exact .inr ⟨i, y, find_at h hi, hi, rfl, rfl, Int.le_refl _⟩
    · rw [List.getElem?_append_right (by omega)] at hy
      have hk2 := (List.getElem?_eq_some_iff.1 hy).1
      simp at hk2
      rw [show k - (roomS z x.size l).length = 0 from by omega] at hy
      simp at hy
      subst hy
      refine .inl ⟨find_neg hs.new, rfl, ?_, rfl, rfl⟩
      rw [List.length_append]
      simp
      omega
  · exact step_same h x false
/- Restore -/
theorem bestF_cs (f : Ent → Bool) (g : Ent → Ent → Int) (y x : Ent) (l : List Ent) : bestF f g (some y) (x :: l) = if f x = true ∧ 0 ≤ g x y then bestF f g (some x) l else bestF f g (some y) l := by
  rw [bestF_cons]
  dsimp only
  by_cases h1 : f x = true <;> by_cases h2 : 0 ≤ g x y <;> simp [h1, h2]
theorem bestF_cn (f : Ent → Bool) (g : Ent → Ent → Int) (x : Ent) (l : List Ent) : bestF f g none (x :: l) = if f x = true then bestF f g (some x) l else bestF f g none l := by
  rw [bestF_cons]
  dsimp only
  by_cases h1 : f x = true <;> simp [h1]
theorem bestF_kept (f : Ent → Bool) (g : Ent → Ent → Int) : ∀ (l : List Ent) (y : Ent), (bestF f g (some y) l).isSome = true
  | [], y => by rw [bestF_nil]; rfl
  | x :: l, y => by
    rw [bestF_cs]
    split
    · exact bestF_kept f g l x
    · exact bestF_kept f g l y
theorem bestF_none {f : Ent → Bool} {g : Ent → Ent → Int} : ∀ {l : List Ent}, bestF f g none l = none → ∀ x ∈ l, f x = false
  | [], _, x, hx => by simp at hx
  | y :: l, h, x, hx => by
    rw [bestF_cn] at h
    cases hf : f y with
    | true =>
      rw [hf, if_pos rfl] at h
      have := bestF_kept f g l y
      rw [h] at this
      cases this
    | false =>
      rw [hf, if_neg (by simp)] at h
      rcases List.mem_cons.1 hx with rfl | hx
      · exact hf
      · exact bestF_none h x hx
theorem bestF_best {f : Ent → Bool} {g : Ent → Ent → Int} {le : Ent → Ent → Prop} (hr : ∀ x, le x x) (ht : ∀ x y z, le x y → le y z → le x z) (h1 : ∀ x y, 0 ≤ g x y → le x y) (h2 : ∀ x y, ¬ 0 ≤ g x y → le y x) :
    ∀ {l : List Ent} {o : Option Ent} {y : Ent}, bestF f g o l = some y → ((o = some y ∨ (y ∈ l ∧ f y = true)) ∧ (∀ x ∈ l, f x = true → le y x) ∧ ∀ v, o = some v → le y v)
  | [], o, y, h => by
    rw [bestF_nil] at h
    subst h
    exact ⟨.inl rfl, by simp, fun v hv => by cases hv; exact hr _⟩
  | x :: l, none, y, h => by
    rw [bestF_cn] at h
    split at h
    · rename_i hc
      obtain ⟨ha, hb, hd⟩ := bestF_best hr ht h1 h2 h
      refine ⟨.inr ?_, fun v hv hfv => ?_, fun v hv => by cases hv⟩
      · rcases ha with ha | ha
        · cases ha
          exact ⟨List.mem_cons_self .., hc⟩
        · exact ⟨List.mem_cons_of_mem _ ha.1, ha.2⟩
      · rcases List.mem_cons.1 hv with rfl | hv
        · exact hd _ rfl
        · exact hb v hv hfv
    · rename_i hc
      obtain ⟨ha, hb, hd⟩ := bestF_best hr ht h1 h2 h
      refine ⟨ha.imp_right fun e => ⟨List.mem_cons_of_mem _ e.1, e.2⟩, fun v hv hfv => ?_, hd⟩
      rcases List.mem_cons.1 hv with rfl | hv
      · exact absurd hfv hc
      · exact hb v hv hfv
  | x :: l, some u, y, h => by
    rw [bestF_cs] at h
    split at h
    · rename_i hc
      obtain ⟨ha, hb, hd⟩ := bestF_best hr ht h1 h2 h
      have hyx := hd x rfl
      refine ⟨.inr ?_, fun v hv hfv => ?_, fun v hv => ?_⟩
      · rcases ha with ha | ha
        · cases ha
          exact ⟨List.mem_cons_self .., hc.1⟩
        · exact ⟨List.mem_cons_of_mem _ ha.1, ha.2⟩
      · rcases List.mem_cons.1 hv with rfl | hv
        · exact hyx
        · exact hb v hv hfv
      · cases hv
        exact ht _ _ _ hyx (h1 _ _ hc.2)
    · rename_i hc
      obtain ⟨ha, hb, hd⟩ := bestF_best hr ht h1 h2 h
      refine ⟨ha.imp_right fun e => ⟨List.mem_cons_of_mem _ e.1, e.2⟩, fun v hv hfv => ?_, hd⟩
      rcases List.mem_cons.1 hv with rfl | hv
      · exact ht _ _ _ (hd u rfl) (h2 _ _ fun hg => hc ⟨hfv, hg⟩)
      · exact hb v hv hfv
theorem orI_sign (a b : Int) (ha : a = -1 ∨ a = 0 ∨ a = 1) : 0 ≤ orI a b ↔ a = 1 ∨ (a = 0 ∧ 0 ≤ b) := by
  unfold orI
  rcases ha with rfl | rfl | rfl <;> simp
theorem cmp_cases (a b : Int) : (Lib.compareInt a b = -1 ∧ a < b) ∨ (Lib.compareInt a b = 0 ∧ a = b) ∨ (Lib.compareInt a b = 1 ∧ b < a) := by
  unfold Lib.compareInt
  by_cases h : a < b
  · simp [h]
  · by_cases h2 : a = b
    · subst h2; simp
    · simp [h, h2]; omega
theorem key_sign (x y : Ent) : 0 ≤ gKey x y ↔ x.sc.trust < y.sc.trust ∨ (x.sc.trust = y.sc.trust ∧ y.created ≤ x.created) := by
  unfold gKey lowerI laterI
  have h1 := cmp_cases y.sc.trust x.sc.trust
  have h2 := cmp_cases x.created y.created
  rw [orI_sign _ _ (by omega)]
  omega
theorem pre_sign (x y : Ent) : 0 ≤ gPre x y ↔ y.created < x.created ∨ (x.created = y.created ∧ x.sc.trust ≤ y.sc.trust) := by
  unfold gPre lowerI laterI
  have h1 := cmp_cases y.sc.trust x.sc.trust
  have h2 := cmp_cases x.created y.created
  rw [orI_sign _ _ (by omega)]
  omega
theorem key_best {k : ByteArray} {l : List Ent} {y : Ent} (h : bestF (keyP k) gKey none l = some y) : y ∈ l ∧ keyP k y = true ∧ ∀ x ∈ l, keyP k x = true → y.sc.trust ≤ x.sc.trust := by
  obtain ⟨ha, hb, _⟩ := bestF_best (le := fun y x => y.sc.trust ≤ x.sc.trust) (fun _ => Int.le_refl _) (fun _ _ _ => Int.le_trans) (fun x y h => by have := (key_sign x y).1 h; omega) (fun x y h => by have := mt (key_sign x y).2 h; omega) h
  rcases ha with ha | ha
  · cases ha
  · exact ⟨ha.1, ha.2, hb⟩
theorem pre_best {q : ByteArray} {l : List Ent} {y : Ent} (h : bestF (preP q) gPre none l = some y) : y ∈ l ∧ preP q y = true ∧ ∀ x ∈ l, preP q x = true → x.created ≤ y.created := by
  obtain ⟨ha, hb, _⟩ := bestF_best (le := fun y x => x.created ≤ y.created) (fun _ => Int.le_refl _) (fun _ _ _ h1 h2 => Int.le_trans h2 h1) (fun x y h => by have := (pre_sign x y).1 h; omega) (fun x y h => by have := mt (pre_sign x y).2 h; omega) h
  rcases ha with ha | ha
  · cases ha
  · exact ⟨ha.1, ha.2, hb⟩
/-- whether some entry has the key, or begins with one of the prefixes -/
def possS (l : List Ent) (k : ByteArray) (ps : List ByteArray) : Bool := l.any fun x => keyP k x || ps.any fun q => preP q x
def bestP (l : List Ent) (y : Ent) (k : ByteArray) : List ByteArray → Bool
  | [] => true
  | q :: ps => if keyP k y then true else if preP q y then l.all (fun x => !(preP q x && decide (y.created < x.created))) else if possS l k [q] then false else bestP l y k ps
def bestK (l : List Ent) (y : Ent) (k : ByteArray) : Bool := l.all fun x => !(keyP k x && (!keyP k y || decide (x.sc.trust < y.sc.trust)))
def bestLaw (l : List Ent) (y : Ent) (k : ByteArray) (ps : List ByteArray) : Bool := bestK l y k && bestP l y k ps
theorem poss_no {l : List Ent} {k : ByteArray} {ps : List ByteArray} (h1 : ∀ x ∈ l, keyP k x = false) (h2 : ∀ q ∈ ps, ∀ x ∈ l, preP q x = false) : possS l k ps = false := by
  unfold possS
  rw [List.any_eq_false]
  intro x hx
  rw [h1 x hx, Bool.false_or, Bool.not_eq_true, List.any_eq_false]
  intro q hq
  rw [h2 q hq x hx]
  simp
theorem pfx_none {l : List Ent} : ∀ {ps : List ByteArray}, pfxF l ps = none → ∀ q ∈ ps, ∀ x ∈ l, preP q x = false
  | [], _, q, hq => by simp at hq
  | p :: ps, h, q, hq => by
    unfold pfxF at h
    cases hb : bestF (preP p) gPre none l with
    | some x => rw [hb] at h; cases h
    | none =>
      rw [hb] at h
      rcases List.mem_cons.1 hq with rfl | hq
      · exact bestF_none hb
      · exact pfx_none h q hq
theorem restore_none {l : List Ent} {k : ByteArray} {ps : List ByteArray} (h : restoreS l k ps = none) : possS l k ps = false := by
  unfold restoreS at h
  cases hb : bestF (keyP k) gKey none l with
  | some x => rw [hb] at h; cases h
  | none =>
    rw [hb] at h
    exact poss_no (bestF_none hb) (pfx_none h)
theorem pfx_best {l : List Ent} {k : ByteArray} {y : Ent} (hk : ∀ x ∈ l, keyP k x = false) : ∀ {ps : List ByteArray}, pfxF l ps = some y → y ∈ l ∧ bestP l y k ps = true
  | [], h => by cases h
  | p :: ps, h => by
    unfold pfxF at h
    cases hb : bestF (preP p) gPre none l with
    | some x =>
      rw [hb] at h
      cases h
      obtain ⟨h1, h2, h3⟩ := pre_best hb
      refine ⟨h1, ?_⟩
      unfold bestP
      rw [hk y h1, h2, if_neg (by simp), if_pos rfl, List.all_eq_true]
      intro x hx
      cases hp : preP p x with
      | false => rfl
      | true =>
        have := h3 x hx hp
        rw [decide_eq_false (by omega)]
        rfl
    | none =>
      rw [hb] at h
      obtain ⟨h1, h2⟩ := pfx_best hk h
      refine ⟨h1, ?_⟩
      unfold bestP
      rw [hk y h1, bestF_none hb y h1, if_neg (by simp), if_neg (by simp), poss_no hk (fun q hq => by rw [List.mem_singleton.1 hq]; exact bestF_none hb), if_neg (by simp)]
      exact h2
theorem restore_some {l : List Ent} {k : ByteArray} {ps : List ByteArray} {y : Ent} (h : restoreS l k ps = some y) : y ∈ l ∧ bestLaw l y k ps = true := by
  unfold restoreS at h
  cases hb : bestF (keyP k) gKey none l with
  | some x =>
    rw [hb] at h
    cases h
    obtain ⟨h1, h2, h3⟩ := key_best hb
    refine ⟨h1, ?_⟩
    unfold bestLaw bestK
    rw [Bool.and_eq_true, List.all_eq_true]
    refine ⟨fun x hx => ?_, ?_⟩
    · cases hp : keyP k x with
      | false => rfl
      | true =>
        have := h3 x hx hp
        rw [h2, decide_eq_false (by omega)]
        rfl
    · cases ps with
      | nil => rfl
      | cons q ps =>
        unfold bestP
        rw [h2, if_pos rfl]
  | none =>
    rw [hb] at h
    have hk := bestF_none hb
    obtain ⟨h1, h2⟩ := pfx_best hk h
    refine ⟨h1, ?_⟩
    unfold bestLaw bestK
    rw [h2, Bool.and_true, List.all_eq_true]
    intro x hx
    rw [hk x hx]
    rfl
theorem read_mem {o : Org} {t : Int} {l : List Ent} {y : Ent} (h : y ∈ readS o t l) : y ∈ l ∧ mayR o t y.sc = true := by
  unfold readS at h
  exact List.mem_filter.1 h
theorem may_facts {o : Org} {t : Int} {s : Scp} (h : mayR o t s = true) : s.prj = o.prj ∧ t ≤ s.trust ∧ (s.ref = o.ref ∨ s.trust = 2) := by
  unfold mayR sameS at h
  simp only [Bool.and_eq_true, Bool.or_eq_true, beq_iff_eq, decide_eq_true_eq] at h
  obtain ⟨h1, _, _, h4, h5⟩ := h
  refine ⟨toList_inj h1, h4, h5.imp_left fun e => toList_inj e⟩
end Go.Proofs.YtpdlapdnjmoaoaaDoor
