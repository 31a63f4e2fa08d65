/- What is encoded is decoded; what is decoded was encoded; a part of it is too short. Plain. -/
import Derived.Test.YtjipnomokggcfaaSmall
namespace Go.Proofs.Ytjipnomokggcfaa
/-- numbers and sizes are a machine's -/
def Sound : Flds → Prop
  | .nil => True
  | .cons _ x s sub r => IsInt x ∧ s.size < 18446744073709551616 ∧ sub.length < 18446744073709551616 ∧ Sound sub ∧ Sound r
theorem sound_rep {w : World} {B : Nat} : ∀ {f : Flds} {cs : List Value}, RepF w B f cs → f.size < 18446744073709551616 → Sound f
  | .nil, _, _, _ => trivial
  | .cons k x s sub r, cs, h, hs => by
    obtain ⟨A, c, cs', csub, rfl, _, hx, _, hsub, hr⟩ := h
    simp only [Flds.size] at hs
    have := Flds.length_le_size sub
    exact ⟨hx, by omega, by omega, sound_rep hsub (by omega), sound_rep hr (by omega)⟩
theorem sound_fix : ∀ (f : Flds) (i : Nat), Sound f → Sound (f.fix i)
  | f, 0, h => by rw [fix_zero]; exact h
  | .nil, _ + 1, h => trivial
  | .cons k x s sub r, i + 1, h => by
    obtain ⟨h1, h2, h3, h4, h5⟩ := h
    simp only [Flds.fix]
    split
    · exact ⟨h1, h2, h3, h4, sound_fix r i h5⟩
    · exact ⟨⟨by omega, by omega⟩, by rw [show ByteArray.empty.size = 0 from rfl]; omega, by simp [Flds.length], trivial, sound_fix r i h5⟩
theorem fix_of_fine : ∀ (f : Flds) (i : Nat), Fine 1 f → f.fix i = f
  | f, 0, _ => fix_zero f
  | .nil, _ + 1, _ => rfl
  | .cons k x s sub r, i + 1, h => by
    unfold Fine at h
    rw [vld_cons] at h
    split at h
    · rename_i hv
      simp only [Flds.fix, if_pos hv, fix_of_fine r i h]
    · contradiction

theorem tu_prefix : ∀ (N n i acc m : Nat), n ≤ N → n * 128 ^ i < 18446744073709551616 → i ≤ 9 → m < (Lib.uvarint n).length → tu i acc ((Lib.uvarint n).take m) = (0, 0, 4)
  | N, n, i, acc, 0, _, _, _, _ => by simp [tu]
  | N, n, i, acc, m + 1, hN, hb, hi, hm => by
    by_cases h : n < 128
    · rw [Lib.uvarint_small h] at hm
      simp at hm
    · obtain ⟨N', rfl⟩ : ∃ N', N = N' + 1 := ⟨N - 1, by omega⟩
      rw [Lib.uvarint_big (by omega)] at hm ⊢
      have hc : ((n % 128 + 128).toUInt8).toNat = n % 128 + 128 := Lib.toUInt8_toNat (by omega)
      have hi9 : i ≠ 9 := by
        rintro rfl
        have e9 : 128 ^ 9 = 9223372036854775808 := by decide
        rw [e9] at hb
        omega
      simp only [List.take_succ_cons, tu, hc]
      rw [if_neg (by omega), if_neg (by omega)]
      have hmul : n / 128 * 128 ^ (i + 1) ≤ n * 128 ^ i := by
        rw [Nat.pow_succ, Nat.mul_comm (128 ^ i) 128, ← Nat.mul_assoc]
        exact Nat.mul_le_mul_right _ (by omega)
      exact tu_prefix N' (n / 128) (i + 1) _ m (by omega) (by omega) (by omega) (by simp at hm; omega)
theorem takeU_prefix {n m : Nat} (h : n < 18446744073709551616) (hm : m < (Lib.uvarint n).length) : takeU ((Lib.uvarint n).take m) = (0, 0, 4) :=
  tu_prefix n n 0 0 m (Nat.le_refl _) (by simpa using h) (by omega) hm
theorem tu_back : ∀ (l : List UInt8) (i acc : Nat), (tu i acc l).2.2 = 0 → ∃ n k, (tu i acc l).1 = acc + n * 128 ^ i ∧ (tu i acc l).2.1 = i + k ∧ l = Lib.uvarint n ++ l.drop k ∧ (0 < i → 0 < n)
  | [], _, _, h => by simp [tu] at h
  | c :: r, i, acc, h => by
    unfold tu at h ⊢
    split at h
    · simp at h
    · rename_i h1
      rw [if_neg h1]
      split at h
      · rename_i h2
        rw [if_pos h2]
        split at h
        · simp at h
        · rename_i h3
          rw [if_neg h3]
          refine ⟨c.toNat, 1, rfl, rfl, ?_, by omega⟩
          rw [Lib.uvarint_small h2]
          simp
      · rename_i h2
        rw [if_neg h2]
        obtain ⟨n, k, e1, e2, e3, e4⟩ := tu_back r (i + 1) _ h
        have hc := c.toNat_lt
        have hn := e4 (by omega)
        refine ⟨(c.toNat - 128) + n * 128, k + 1, ?_, by omega, ?_, by omega⟩
        · rw [e1, Nat.add_mul, Nat.pow_succ, Nat.mul_comm (128 ^ i) 128, ← Nat.mul_assoc, Nat.add_assoc]
        · rw [Lib.uvarint_big (by omega)]
          have a1 : (c.toNat - 128 + n * 128) % 128 + 128 = c.toNat := by omega
          have a2 : (c.toNat - 128 + n * 128) / 128 = n := by omega
          rw [a1, a2]
          simp only [List.cons_append, List.drop_succ_cons, ← e3]
          simp
theorem takeU_back {l : List UInt8} (h : (takeU l).2.2 = 0) : l = Lib.uvarint (takeU l).1 ++ l.drop (takeU l).2.1 := by
  obtain ⟨n, k, e1, e2, e3, _⟩ := tu_back l 0 0 h
  unfold takeU
  rw [e1, e2]
  simpa using e3
theorem zigzag_unzig (n : Nat) : Lib.zigzag (unzig n) = n := by
  unfold unzig Lib.zigzag
  split
  · rw [if_neg (by omega)]; omega
  · rw [if_pos (by omega)]; omega
theorem unzig_int {n : Nat} (h : n < 18446744073709551616) : IsInt (unzig n) := by
  unfold unzig IsInt
  split <;> omega
theorem takeS_more {s : List UInt8} (h : s.length < 18446744073709551616) (r : List UInt8) : takeS (Lib.uvarint s.length ++ s ++ r) = (s, (Lib.uvarint s.length ++ s).length, 0) := by
  unfold takeS
  rw [List.append_assoc, takeU_uvarint h]
  rw [if_neg (by simp), if_neg (by simp), List.drop_left, List.take_left, List.length_append]
theorem takeS_prefix {s : List UInt8} {m : Nat} (h : s.length < 18446744073709551616) (hm : m < (Lib.uvarint s.length ++ s).length) : (takeS ((Lib.uvarint s.length ++ s).take m)).2.2 = 4 := by
  rw [List.length_append] at hm
  unfold takeS
  by_cases h1 : m < (Lib.uvarint s.length).length
  · rw [List.take_append_of_le_length (by omega), takeU_prefix h h1]
    rfl
  · obtain ⟨j, rfl⟩ : ∃ j, m = (Lib.uvarint s.length).length + j := ⟨m - (Lib.uvarint s.length).length, by omega⟩
    rw [List.take_length_add_append, takeU_uvarint h]
    rw [if_neg (by simp), if_pos (by simp; omega)]

theorem bytes_empty {s : ByteArray} (h : s.toList.isEmpty = true) : s = ByteArray.empty := by
  rw [ByteArray.toList_eq] at h
  have h := List.isEmpty_iff.1 h
  cases s with
  | mk d => simp at h; subst h; rfl
theorem flds_nil {f : Flds} (h : ((f.length : Int) == 0) = true) : f = .nil := by
  cases f with
  | nil => rfl
  | cons k x s sub r => simp [Flds.length] at h; omega
theorem step_fine {d F : Nat} {k x : Int} {s : ByteArray} {sub : Flds} (R : List UInt8) (hv : vone d k x s sub = 0) (hx : IsInt x) (hs : s.size < 18446744073709551616)
    (hsub : k = 2 → rd F (d + 1) (Lib.uvarint sub.length ++ encs sub ++ R) = .inr (sub, R)) :
    step (one (rd F (d + 1))) (decide (128 < d)) (enc1 k x s sub ++ R) = .inr ((k, x, s, sub), R) := by
  obtain ⟨hd, hc, _⟩ := vone_fine hv
  have hsz : s.data.toList.length = s.size := by simp
  unfold step
  rw [if_neg (by simp; omega)]
  rcases clean_kind hc with rfl | rfl | rfl
  · simp only [clean, if_true, Bool.and_eq_true] at hc
    obtain rfl := bytes_empty hc.1
    obtain rfl := flds_nil hc.2
    simp only [enc1, if_true, List.cons_append]
    rw [if_neg (by decide)]
    simp only [one]
    rw [if_pos (by rfl), takeI_zigzag hx.1 hx.2, if_neg (by simp)]
    simp only [List.drop_left]
  · unfold clean at hc
    rw [if_neg (by omega), if_pos rfl] at hc
    simp only [Bool.and_eq_true] at hc
    obtain rfl : x = 0 := by simpa using hc.1
    obtain rfl := flds_nil hc.2
    unfold enc1
    rw [if_neg (by omega), if_pos rfl]
    simp only [List.cons_append]
    rw [if_neg (by decide)]
    simp only [one]
    rw [if_neg (by decide), if_pos (by rfl), ← hsz, takeS_more (by omega), if_neg (by simp)]
    simp only [List.drop_left]
  · unfold clean at hc
    rw [if_neg (by omega), if_neg (by omega), if_pos rfl] at hc
    simp only [Bool.and_eq_true] at hc
    obtain rfl : x = 0 := by simpa using hc.1
    obtain rfl := bytes_empty hc.2
    unfold enc1
    rw [if_neg (by omega), if_neg (by omega)]
    simp only [List.cons_append]
    rw [if_neg (by decide)]
    simp only [one]
    rw [if_neg (by decide), if_neg (by decide), hsub rfl]
theorem rd_many {d F n : Nat} {R : List UInt8} (hn : n < 18446744073709551616) : rd (F + 1) d (Lib.uvarint n ++ R) = many (one (rd F (d + 1))) (decide (128 < d)) n R := by
  unfold rd
  rw [takeU_uvarint hn, if_neg (by simp)]
  simp only [List.drop_left]
theorem uvarint_pos (n : Nat) : 1 ≤ (Lib.uvarint n).length := by
  by_cases h : n < 128
  · rw [Lib.uvarint_small h]; simp
  · rw [Lib.uvarint_big (by omega)]; simp
theorem fine_cons {d : Nat} {k x : Int} {s : ByteArray} {sub r : Flds} (h : Fine d (.cons k x s sub r)) : vone d k x s sub = 0 ∧ Fine d r := by
  unfold Fine at h ⊢
  rw [vld_cons] at h
  split at h
  · exact ⟨by assumption, h⟩
  · contradiction
theorem enc1_pos (k x : Int) (s : ByteArray) (sub : Flds) : 1 ≤ (enc1 k x s sub).length := by
  unfold enc1
  repeat' split
  all_goals simp
theorem enc1_sub (x : Int) (s : ByteArray) (sub : Flds) : enc1 2 x s sub = 2 :: (Lib.uvarint sub.length ++ encs sub) := by
  unfold enc1
  rw [if_neg (by omega), if_neg (by omega)]
theorem many_fine : ∀ (f : Flds) (d F : Nat) (R : List UInt8), Fine d f → Sound f → (encs f ++ R).length ≤ F →
    many (one (rd F (d + 1))) (decide (128 < d)) f.length (encs f ++ R) = .inr (f, R)
  | .nil, d, F, R, _, _, _ => rfl
  | .cons k x s sub r, d, F, R, hf, hs, hF => by
    obtain ⟨hv, hr⟩ := fine_cons hf
    obtain ⟨hx, hz, hl, hsub, hsr⟩ := hs
    obtain ⟨_, _, hfs⟩ := vone_fine hv
    rw [encs_cons] at hF
    have hp := enc1_pos k x s sub
    have hstep := step_fine (F := F) (encs r ++ R) hv hx hz (fun hk => by
      subst hk
      rw [enc1_sub] at hF
      simp only [List.length_append, List.length_cons] at hF
      obtain ⟨F', rfl⟩ : ∃ F', F = F' + 1 := ⟨F - 1, by omega⟩
      rw [List.append_assoc, rd_many hl]
      have := uvarint_pos sub.length
      exact many_fine sub (d + 1) F' _ hfs hsub (by simp only [List.length_append]; omega))
    rw [encs_cons, List.append_assoc]
    simp only [Flds.length, many, hstep]
    rw [many_fine r d F R hr hsr (by simp only [List.length_append] at hF ⊢; omega)]
theorem fields_enc {f : Flds} (hf : Fine 1 f) (hs : Sound f) (hl : f.length < 18446744073709551616) : fieldsS (Lib.uvarint f.length ++ encs f) = .inr f := by
  unfold fieldsS
  have h := many_fine f 1 (Lib.uvarint f.length ++ encs f).length [] hf hs (by simp)
  rw [rd_many hl]
  simp only [List.append_nil] at h
  rw [h]
  rfl
theorem many_prefix : ∀ (f : Flds) (d F j : Nat), Fine d f → Sound f → j < (encs f).length → j ≤ F →
    many (one (rd F (d + 1))) (decide (128 < d)) f.length ((encs f).take j) = .inl 4
  | .nil, d, F, j, _, _, hj, _ => by simp [encs] at hj
  | .cons k x s sub r, d, F, j, hf, hs, hj, hF => by
    obtain ⟨hv, hr⟩ := fine_cons hf
    obtain ⟨hx, hz, hl, hsub, hsr⟩ := hs
    obtain ⟨hd, hc, hfs⟩ := vone_fine hv
    rw [encs_cons] at hj ⊢
    simp only [Flds.length, many]
    by_cases hje : j < (enc1 k x s sub).length
    · have hstep : step (one (rd F (d + 1))) (decide (128 < d)) ((enc1 k x s sub ++ encs r).take j) = .inl 4 := by
        rw [List.take_append_of_le_length (by omega)]
        unfold step
        rw [if_neg (by simp; omega)]
        cases j with
        | zero => rfl
        | succ j =>
          have hsz : s.data.toList.length = s.size := by simp
          rcases clean_kind hc with rfl | rfl | rfl
          · simp only [enc1, if_true, List.length_cons] at hje ⊢
            simp only [List.take_succ_cons]
            rw [if_neg (by decide)]
            simp only [one]
            rw [if_pos (by rfl)]
            unfold takeI
            rw [takeU_prefix (Lib.zigzag_lt hx.1 hx.2) (by omega)]
            rfl
          · unfold enc1 at hje ⊢
            rw [if_neg (by omega), if_pos rfl] at hje ⊢
            simp only [List.length_cons, List.take_succ_cons] at hje ⊢
            rw [if_neg (by decide)]
            simp only [one]
            rw [← hsz] at hje ⊢
            rw [if_neg (by decide), if_pos (by rfl), takeS_prefix (by omega) (by omega)]
            rfl
          · rw [enc1_sub] at hje ⊢
            simp only [List.length_cons, List.take_succ_cons] at hje ⊢
            rw [if_neg (by decide)]
            simp only [one]
            rw [if_neg (by decide), if_neg (by decide)]
            obtain ⟨F', rfl⟩ : ∃ F', F = F' + 1 := ⟨F - 1, by omega⟩
            by_cases h1 : j < (Lib.uvarint sub.length).length
            · rw [List.take_append_of_le_length (by omega)]
              unfold rd
              rw [takeU_prefix hl h1]
              rfl
            · obtain ⟨i, rfl⟩ : ∃ i, j = (Lib.uvarint sub.length).length + i := ⟨j - (Lib.uvarint sub.length).length, by omega⟩
              rw [List.take_length_add_append, rd_many hl, many_prefix sub (d + 1) F' i hfs hsub (by simp only [List.length_append] at hje; omega) (by omega)]
      rw [hstep]
    · obtain ⟨i, rfl⟩ : ∃ i, j = (enc1 k x s sub).length + i := ⟨j - (enc1 k x s sub).length, by omega⟩
      have hp := enc1_pos k x s sub
      rw [List.take_length_add_append]
      have hstep := step_fine (F := F) ((encs r).take i) hv hx hz (fun hk => by
        subst hk
        rw [enc1_sub] at hF hj
        simp only [List.length_append, List.length_cons] at hF hj
        obtain ⟨F', rfl⟩ : ∃ F', F = F' + 1 := ⟨F - 1, by omega⟩
        rw [List.append_assoc, rd_many hl]
        have := uvarint_pos sub.length
        exact many_fine sub (d + 1) F' _ hfs hsub (by simp only [List.length_append, List.length_take]; omega))
      rw [hstep]
      simp only []
      rw [many_prefix r d F i hr hsr (by simp only [List.length_append] at hj; omega) (by omega)]
theorem fields_prefix {f : Flds} {j : Nat} (hf : Fine 1 f) (hs : Sound f) (hl : f.length < 18446744073709551616) (hj : j < (Lib.uvarint f.length ++ encs f).length) : fieldsS ((Lib.uvarint f.length ++ encs f).take j) = .inl 4 := by
  unfold fieldsS
  by_cases h1 : j < (Lib.uvarint f.length).length
  · rw [List.take_append_of_le_length (by omega)]
    unfold rd
    rw [takeU_prefix hl h1]
    rfl
  · obtain ⟨i, rfl⟩ : ∃ i, j = (Lib.uvarint f.length).length + i := ⟨j - (Lib.uvarint f.length).length, by omega⟩
    rw [List.length_append] at hj
    rw [List.take_length_add_append, rd_many hl, many_prefix f 1 _ i hf hs (by omega) (by simp only [List.length_append, List.length_take]; omega)]

/-- what has been decoded was encoded -/
def Back (d : Nat) (l : List UInt8) : Nat ⊕ (Flds × List UInt8) → Prop
  | .inl _ => True
  | .inr (f, r) => l = Lib.uvarint f.length ++ encs f ++ r ∧ Fine d f
theorem step_back {o : List UInt8 → Nat ⊕ (Flds × List UInt8)} {d : Nat} {l r : List UInt8} {x : FV} (ho : ∀ l', Back (d + 1) l' (o l')) (h : step (one o) (decide (128 < d)) l = .inr (x, r)) :
    l = enc1 x.1 x.2.1 x.2.2.1 x.2.2.2 ++ r ∧ vone d x.1 x.2.1 x.2.2.1 x.2.2.2 = 0 := by
  unfold step at h
  split at h
  · cases h
  · rename_i hd
    have hd : ¬ 128 < d := by simpa using hd
    cases l with
    | nil => cases h
    | cons c l =>
      dsimp only at h
      split at h
      · cases h
      · rename_i hc
        unfold one at h
        split at h
        · rename_i c0
          split at h
          · cases h
          · rename_i h1
            have h1 : (takeU l).2.2 = 0 := by unfold takeI at h1; dsimp only at h1; omega
            simp only [Sum.inr.injEq, Prod.mk.injEq] at h
            obtain ⟨rfl, rfl⟩ := h
            obtain rfl : c = 0 := UInt8.toNat_inj.1 c0
            refine ⟨?_, ?_⟩
            · simp only [enc1, if_true]
              show 0 :: l = 0 :: Lib.uvarint (Lib.zigzag (unzig (takeU l).1)) ++ List.drop (takeU l).2.1 l
              rw [zigzag_unzig, List.cons_append, ← takeU_back h1]
            · unfold vone
              rw [if_neg hd, if_neg (by simp [clean, empty_toList, Flds.length])]
              rfl
        · split at h
          · rename_i c0 c1
            split at h
            · cases h
            · rename_i h2
              have h2 : (takeS l).2.2 = 0 := by omega
              simp only [Sum.inr.injEq, Prod.mk.injEq] at h
              obtain ⟨rfl, rfl⟩ := h
              obtain rfl : c = 1 := UInt8.toNat_inj.1 c1
              refine ⟨?_, ?_⟩
              · unfold takeS at h2 ⊢
                split at h2
                · contradiction
                · rename_i h1
                  split at h2
                  · simp at h2
                  · rename_i h3
                    rw [if_neg h1, if_neg h3]
                    have h1 : (takeU l).2.2 = 0 := by omega
                    have hb := takeU_back h1
                    have hk := takeU_len h1
                    unfold enc1
                    rw [if_neg (by simp), if_pos rfl]
                    have e : ByteArray.size ⟨((List.drop (takeU l).2.1 l).take (takeU l).1).toArray⟩ = (takeU l).1 := by
                      simp [ByteArray.size]; omega
                    dsimp only
                    rw [e, ← List.drop_drop, List.cons_append, List.append_assoc, List.take_append_drop, ← hb]
              · unfold vone
                rw [if_neg hd, if_neg (by simp [clean, Flds.length])]
                rfl
          · rename_i c0 c1
            have hl := ho l
            cases hol : o l with
            | inl e => rw [hol] at h; cases h
            | inr q =>
              obtain ⟨f, r'⟩ := q
              rw [hol] at h hl
              simp only [Sum.inr.injEq, Prod.mk.injEq] at h
              obtain ⟨rfl, rfl⟩ := h
              obtain ⟨h1, h2⟩ := hl
              obtain rfl : c = 2 := UInt8.toNat_inj.1 (by show c.toNat = 2; omega)
              refine ⟨?_, ?_⟩
              · dsimp only
                rw [enc1_sub, List.cons_append, ← h1]
              · unfold vone
                rw [if_neg hd, if_neg (by simp [clean, empty_toList])]
                exact h2
theorem many_back {o : List UInt8 → Nat ⊕ (Flds × List UInt8)} {d : Nat} (ho : ∀ l', Back (d + 1) l' (o l')) : ∀ (n : Nat) (l r : List UInt8) (f : Flds), many (one o) (decide (128 < d)) n l = .inr (f, r) →
    l = encs f ++ r ∧ Fine d f ∧ f.length = n
  | 0, l, r, f, h => by
    simp only [many, Sum.inr.injEq, Prod.mk.injEq] at h
    obtain ⟨rfl, rfl⟩ := h
    exact ⟨rfl, rfl, rfl⟩
  | n + 1, l, r, f, h => by
    unfold many at h
    cases hst : step (one o) (decide (128 < d)) l with
    | inl e => rw [hst] at h; cases h
    | inr q =>
      obtain ⟨x, r1⟩ := q
      rw [hst] at h
      dsimp only at h
      obtain ⟨e1, e2⟩ := step_back ho hst
      cases hm : many (one o) (decide (128 < d)) n r1 with
      | inl e => rw [hm] at h; cases h
      | inr q =>
        obtain ⟨f1, r2⟩ := q
        rw [hm] at h
        simp only [Sum.inr.injEq, Prod.mk.injEq] at h
        obtain ⟨rfl, rfl⟩ := h
        obtain ⟨e3, e4, e5⟩ := many_back ho n r1 r2 f1 hm
        refine ⟨?_, ?_, by simp only [Flds.length, e5]⟩
        · rw [encs_cons, List.append_assoc, ← e3, ← e1]
        · unfold Fine at e4 ⊢
          rw [vld_cons, if_pos e2]; exact e4
theorem rd_back : ∀ (F d : Nat) (l : List UInt8), Back d l (rd F d l)
  | 0, _, _ => trivial
  | F + 1, d, l => by
    unfold rd
    split
    · trivial
    · rename_i he
      have hb := takeU_back (l := l) (by omega)
      cases hm : many (one (rd F (d + 1))) (decide (128 < d)) (takeU l).1 (l.drop (takeU l).2.1) with
      | inl e => trivial
      | inr q =>
        obtain ⟨f, r⟩ := q
        obtain ⟨e1, e2, e3⟩ := many_back (fun l' => rd_back F (d + 1) l') _ _ _ _ hm
        exact ⟨by rw [e3, List.append_assoc, ← e1, ← hb], e2⟩
theorem fields_back {l : List UInt8} {f : Flds} (h : fieldsS l = .inr f) : l = Lib.uvarint f.length ++ encs f ∧ Fine 1 f := by
  unfold fieldsS at h
  have hb := rd_back (l.length + 1) 1 l
  split at h
  · cases h
  · rename_i g r hr
    rw [hr] at hb
    obtain ⟨h1, h2⟩ := hb
    split at h
    · cases h
    · rename_i h3
      simp only [Sum.inr.injEq] at h
      subst h
      have h3 : r = [] := List.length_eq_zero_iff.1 (by omega)
      subst h3
      exact ⟨by simpa using h1, h2⟩
end Go.Proofs.Ytjipnomokggcfaa
