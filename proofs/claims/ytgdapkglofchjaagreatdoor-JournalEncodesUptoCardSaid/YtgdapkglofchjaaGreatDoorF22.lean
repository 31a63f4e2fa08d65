/- Joined: BackP JnM JnU0 JnD2 JnT2. -/
import Derived.Test.YtgdapkglofchjaaGreatDoorF21
set_option maxRecDepth 100000
set_option maxHeartbeats 2000000
set_option linter.unusedVariables false
namespace Go.Proofs.YtgdapkglofchjaaGreatDoor
def Sound : Flds → Prop
 | .nil => True
 | .cons _ x s sub r => IsInt x ∧ s.size < 18446744073709551616 ∧ sub.length < 18446744073709551616 ∧ Sound sub ∧ Sound r
theorem fix_of_fine : ∀ (f : Flds) (i : Nat), Fine 1 f → f.fix i = f
 | f, 0, _ => fix_zero f
 | .nil, _ + 1, _ => rfl
 | .cons k x s sub r, i + 1, h => by
  unfold Fine at h
  rw [vld_cons] at h
  split at h
  ·rename_i hv
   simp only [Flds.fix, if_pos hv, fix_of_fine r i h]
  ·contradiction
theorem tu_back : ∀ (l : List UInt8) (i acc : Nat), (tu i acc l).2.2 = 0 → ∃ n k, (tu i acc l).1 = acc + n * 128 ^ i ∧ (tu i acc l).2.1 = i + k ∧ l = Lib.uvarint n ++ l.drop k ∧ (0 < i → 0 < n)
 | [], _, _, h => by simp [tu] at h
 | c :: r, i, acc, h => by
  unfold tu at h ⊢
  split at h
  ·simp at h
  ·rename_i h1
   rw [if_neg h1]
   split at h
   ·rename_i h2
    rw [if_pos h2]
    split at h
    ·simp at h
    ·rename_i h3
     rw [if_neg h3]
     refine ⟨c.toNat, 1, rfl, rfl, ?_, by omega⟩
     rw [Lib.uvarint_small h2]
     simp
   ·rename_i h2
    rw [if_neg h2]
    obtain ⟨n, k, e1, e2, e3, e4⟩ := tu_back r (i + 1) _ h
    have hc := c.toNat_lt
    have hn := e4 (by omega)
    refine ⟨(c.toNat - 128) + n * 128, k + 1, ?_, by omega, ?_, by omega⟩
    ·rw [e1, Nat.add_mul, Nat.pow_succ, Nat.mul_comm (128 ^ i) 128, ← Nat.mul_assoc, Nat.add_assoc]
    ·rw [Lib.uvarint_big (by omega)]
     have a1 : (c.toNat - 128 + n * 128) % 128 + 128 = c.toNat := by omega
     have a2 : (c.toNat - 128 + n * 128) / 128 = n := by omega
     rw [a1, a2]
     simp only [List.cons_append, List.drop_succ_cons, ← e3]
     simp
theorem takeU_back {l : List UInt8} (h : (takeU l).2.2 = 0) : l = Lib.uvarint (takeU l).1 ++ l.drop (takeU l).2.1 := by
 obtain ⟨n, k, e1, e2, e3, _⟩ := tu_back l 0 0 h
 unfold takeU
 rw [e1, e2]
 simpa using e3
theorem zigzag_unzig (n : Nat) : Lib.zigzag (unzig n) = n := by
 unfold unzig Lib.zigzag
 split
 ·rw [if_neg (by omega)]; omega
 ·rw [if_pos (by omega)]; omega
theorem takeS_more {s : List UInt8} (h : s.length < 18446744073709551616) (r : List UInt8) : takeS (Lib.uvarint s.length ++ s ++ r) = (s, (Lib.uvarint s.length ++ s).length, 0) := by
 unfold takeS
 rw [List.append_assoc, takeU_uvarint h]
 rw [if_neg (by simp), if_neg (by simp), List.drop_left, List.take_left, List.length_append]
theorem bytes_empty {s : ByteArray} (h : s.toList.isEmpty = true) : s = ByteArray.empty := by
 rw [ByteArray.toList_eq] at h
 have h := List.isEmpty_iff.1 h
 cases s with
 | mk d => simp at h; subst h; rfl
theorem flds_nil {f : Flds} (h : ((f.length : Int) == 0) = true) : f = .nil := by
 cases f with
 | nil => rfl
 | cons k x s sub r => simp [Flds.length] at h; omega
theorem step_fine {d F : Nat} {k x : Int} {s : ByteArray} {sub : Flds} (R : List UInt8) (hv : vone d k x s sub = 0) (hx : IsInt x) (hs : s.size < 18446744073709551616)
  (hsub : k = 2 → rd F (d + 1) (Lib.uvarint sub.length ++ encs sub ++ R) = .inr (sub, R)) :
  step (one (rd F (d + 1))) (decide (128 < d)) (enc1 k x s sub ++ R) = .inr ((k, x, s, sub), R) := by
 obtain ⟨hd, hc, _⟩ := vone_fine hv
 have hsz : s.data.toList.length = s.size := by simp
 unfold step
 rw [if_neg (by simp; omega)]
 rcases clean_kind hc with rfl | rfl | rfl
 ·simp only [clean, if_true, Bool.and_eq_true] at hc
  obtain rfl := bytes_empty hc.1
  obtain rfl := flds_nil hc.2
  simp only [enc1, if_true, List.cons_append]
  rw [if_neg (by decide)]
  simp only [one]
  rw [if_pos (by rfl), takeI_zigzag hx.1 hx.2, if_neg (by simp)]
  simp only [List.drop_left]
 ·unfold clean at hc
  rw [if_neg (by omega), if_pos rfl] at hc
  simp only [Bool.and_eq_true] at hc
  obtain rfl : x = 0 := by simpa using hc.1
  obtain rfl := flds_nil hc.2
  unfold enc1
  rw [if_neg (by omega), if_pos rfl]
  simp only [List.cons_append]
  rw [if_neg (by decide)]
  simp only [one]
  rw [if_neg (by decide), if_pos (by rfl), ← hsz, takeS_more (by omega), if_neg (by simp)]
  simp only [List.drop_left]
 ·unfold clean at hc
  rw [if_neg (by omega), if_neg (by omega), if_pos rfl] at hc
  simp only [Bool.and_eq_true] at hc
  obtain rfl : x = 0 := by simpa using hc.1
  obtain rfl := bytes_empty hc.2
  unfold enc1
  rw [if_neg (by omega), if_neg (by omega)]
  simp only [List.cons_append]
  rw [if_neg (by decide)]
  simp only [one]
  rw [if_neg (by decide), if_neg (by decide), hsub rfl]
theorem rd_many {d F n : Nat} {R : List UInt8} (hn : n < 18446744073709551616) : rd (F + 1) d (Lib.uvarint n ++ R) = many (one (rd F (d + 1))) (decide (128 < d)) n R := by
 unfold rd
 rw [takeU_uvarint hn, if_neg (by simp)]
 simp only [List.drop_left]
theorem uvarint_pos (n : Nat) : 1 ≤ (Lib.uvarint n).length := by
 by_cases h : n < 128
 ·rw [Lib.uvarint_small h]; simp
 ·rw [Lib.uvarint_big (by omega)]; simp
theorem fine_cons {d : Nat} {k x : Int} {s : ByteArray} {sub r : Flds} (h : Fine d (.cons k x s sub r)) : vone d k x s sub = 0 ∧ Fine d r := by
 unfold Fine at h ⊢
 rw [vld_cons] at h
 split at h
 ·exact ⟨by assumption, h⟩
 ·contradiction
theorem enc1_pos (k x : Int) (s : ByteArray) (sub : Flds) : 1 ≤ (enc1 k x s sub).length := by
 unfold enc1
 repeat' split
 all_goals simp
theorem enc1_sub (x : Int) (s : ByteArray) (sub : Flds) : enc1 2 x s sub = 2 :: (Lib.uvarint sub.length ++ encs sub) := by
 unfold enc1
 rw [if_neg (by omega), if_neg (by omega)]
theorem many_fine : ∀ (f : Flds) (d F : Nat) (R : List UInt8), Fine d f → Sound f → (encs f ++ R).length ≤ F →
  many (one (rd F (d + 1))) (decide (128 < d)) f.length (encs f ++ R) = .inr (f, R)
 | .nil, d, F, R, _, _, _ => rfl
 | .cons k x s sub r, d, F, R, hf, hs, hF => by
  obtain ⟨hv, hr⟩ := fine_cons hf
  obtain ⟨hx, hz, hl, hsub, hsr⟩ := hs
  obtain ⟨_, _, hfs⟩ := vone_fine hv
  rw [encs_cons] at hF
  have hp := enc1_pos k x s sub
  have hstep := step_fine (F := F) (encs r ++ R) hv hx hz (fun hk => by
   subst hk
   rw [enc1_sub] at hF
   simp only [List.length_append, List.length_cons] at hF
   obtain ⟨F', rfl⟩ : ∃ F', F = F' + 1 := ⟨F - 1, by omega⟩
   rw [List.append_assoc, rd_many hl]
   have := uvarint_pos sub.length
   exact many_fine sub (d + 1) F' _ hfs hsub (by simp only [List.length_append]; omega))
  rw [encs_cons, List.append_assoc]
  simp only [Flds.length, many, hstep]
  rw [many_fine r d F R hr hsr (by simp only [List.length_append] at hF ⊢; omega)]
theorem fields_enc {f : Flds} (hf : Fine 1 f) (hs : Sound f) (hl : f.length < 18446744073709551616) : fieldsS (Lib.uvarint f.length ++ encs f) = .inr f := by
 unfold fieldsS
 have h := many_fine f 1 (Lib.uvarint f.length ++ encs f).length [] hf hs (by simp)
 rw [rd_many hl]
 simp only [List.append_nil] at h
 rw [h]
 rfl
def Back (d : Nat) (l : List UInt8) : Nat ⊕ (Flds × List UInt8) → Prop
 | .inl _ => True
 | .inr (f, r) => l = Lib.uvarint f.length ++ encs f ++ r ∧ Fine d f
theorem step_back {o : List UInt8 → Nat ⊕ (Flds × List UInt8)} {d : Nat} {l r : List UInt8} {x : FV} (ho : ∀ l', Back (d + 1) l' (o l')) (h : step (one o) (decide (128 < d)) l = .inr (x, r)) :
  l = enc1 x.1 x.2.1 x.2.2.1 x.2.2.2 ++ r ∧ vone d x.1 x.2.1 x.2.2.1 x.2.2.2 = 0 := by
 unfold step at h
 split at h
 ·cases h
 ·rename_i hd
  have hd : ¬ 128 < d := by simpa using hd
  cases l with
  | nil => cases h
  | cons c l =>
   dsimp only at h
   split at h
   ·cases h
   ·rename_i hc
    unfold one at h
    split at h
    ·rename_i c0
     split at h
     ·cases h
     ·rename_i h1
      have h1 : (takeU l).2.2 = 0 := by unfold takeI at h1; dsimp only at h1; omega
      simp only [Sum.inr.injEq, Prod.mk.injEq] at h
      obtain ⟨rfl, rfl⟩ := h
      obtain rfl : c = 0 := UInt8.toNat_inj.1 c0
      refine ⟨?_, ?_⟩
      ·simp only [enc1, if_true]
       show 0 :: l = 0 :: Lib.uvarint (Lib.zigzag (unzig (takeU l).1)) ++ List.drop (takeU l).2.1 l
       rw [zigzag_unzig, List.cons_append, ← takeU_back h1]
      ·unfold vone
       rw [if_neg hd, if_neg (by simp [clean, Flds.length])]
       rfl
    ·split at h
     ·rename_i c0 c1
      split at h
      ·cases h
      ·rename_i h2
       have h2 : (takeS l).2.2 = 0 := by omega
       simp only [Sum.inr.injEq, Prod.mk.injEq] at h
       obtain ⟨rfl, rfl⟩ := h
       obtain rfl : c = 1 := UInt8.toNat_inj.1 c1
       refine ⟨?_, ?_⟩
       ·unfold takeS at h2 ⊢
        split at h2
        ·contradiction
        ·rename_i h1
         split at h2
         ·simp at h2
         ·rename_i h3
          rw [if_neg h1, if_neg h3]
          have h1 : (takeU l).2.2 = 0 := by omega
          have hb := takeU_back h1
          have hk := takeU_len h1
          unfold enc1
          rw [if_neg (by simp), if_pos rfl]
          have e : ByteArray.size ⟨((List.drop (takeU l).2.1 l).take (takeU l).1).toArray⟩ = (takeU l).1 := by
           simp [ByteArray.size]; omega
          dsimp only
          rw [e, ← List.drop_drop, List.cons_append, List.append_assoc, List.take_append_drop, ← hb]
       ·unfold vone
        rw [if_neg hd, if_neg (by simp [clean, Flds.length])]
        rfl
     ·rename_i c0 c1
      have hl := ho l
      cases hol : o l with
      | inl e => rw [hol] at h; cases h
      | inr q =>
       obtain ⟨f, r'⟩ := q
       rw [hol] at h hl
       simp only [Sum.inr.injEq, Prod.mk.injEq] at h
       obtain ⟨rfl, rfl⟩ := h
       obtain ⟨h1, h2⟩ := hl
       obtain rfl : c = 2 := UInt8.toNat_inj.1 (by show c.toNat = 2; omega)
       refine ⟨?_, ?_⟩
       ·dsimp only
        rw [enc1_sub, List.cons_append, ← h1]
       ·unfold vone
        rw [if_neg hd, if_neg (by simp [clean])]
        exact h2
theorem many_back {o : List UInt8 → Nat ⊕ (Flds × List UInt8)} {d : Nat} (ho : ∀ l', Back (d + 1) l' (o l')) : ∀ (n : Nat) (l r : List UInt8) (f : Flds), many (one o) (decide (128 < d)) n l = .inr (f, r) →
  l = encs f ++ r ∧ Fine d f ∧ f.length = n
 | 0, l, r, f, h => by
  simp only [many, Sum.inr.injEq, Prod.mk.injEq] at h
  obtain ⟨rfl, rfl⟩ := h
  exact ⟨rfl, rfl, rfl⟩
 | n + 1, l, r, f, h => by
  unfold many at h
  cases hst : step (one o) (decide (128 < d)) l with
  | inl e => rw [hst] at h; cases h
  | inr q =>
   obtain ⟨x, r1⟩ := q
   rw [hst] at h
   dsimp only at h
   obtain ⟨e1, e2⟩ := step_back ho hst
   cases hm : many (one o) (decide (128 < d)) n r1 with
   | inl e => rw [hm] at h; cases h
   | inr q =>
    obtain ⟨f1, r2⟩ := q
    rw [hm] at h
    simp only [Sum.inr.injEq, Prod.mk.injEq] at h
    obtain ⟨rfl, rfl⟩ := h
    obtain ⟨e3, e4, e5⟩ := many_back ho n r1 r2 f1 hm
    refine ⟨?_, ?_, by simp only [Flds.length, e5]⟩
    ·rw [encs_cons, List.append_assoc, ← e3, ← e1]
    ·unfold Fine at e4 ⊢
     rw [vld_cons, if_pos e2]; exact e4
theorem rd_back : ∀ (F d : Nat) (l : List UInt8), Back d l (rd F d l)
 | 0, _, _ => trivial
 | F + 1, d, l => by
  unfold rd
  split
  ·trivial
  ·rename_i he
   have hb := takeU_back (l := l) (by omega)
   cases hm : many (one (rd F (d + 1))) (decide (128 < d)) (takeU l).1 (l.drop (takeU l).2.1) with
   | inl e => trivial
   | inr q =>
    obtain ⟨f, r⟩ := q
    obtain ⟨e1, e2, e3⟩ := many_back (fun l' => rd_back F (d + 1) l') _ _ _ _ hm
    exact ⟨by rw [e3, List.append_assoc, ← e1, ← hb], e2⟩
theorem fields_back {l : List UInt8} {f : Flds} (h : fieldsS l = .inr f) : l = Lib.uvarint f.length ++ encs f ∧ Fine 1 f := by
 unfold fieldsS at h
 have hb := rd_back (l.length + 1) 1 l
 split at h
 ·cases h
 ·rename_i g r hr
  rw [hr] at hb
  obtain ⟨h1, h2⟩ := hb
  split at h
  ·cases h
  ·rename_i h3
   simp only [Sum.inr.injEq] at h
   subst h
   have h3 : r = [] := List.length_eq_zero_iff.1 (by omega)
   subst h3
   exact ⟨by simpa using h1, h2⟩
end Go.Proofs.YtgdapkglofchjaaGreatDoor
namespace Go.Proofs.YtgdapkglofchjaaGreatDoor
open Go.RowKit
def One (d : Nat) (f : FV) : Prop := vone d f.1 f.2.1 f.2.2.1 f.2.2.2 = 0
def Snd (f : FV) : Prop := IsInt f.2.1 ∧ f.2.2.1.size < 18446744073709551616 ∧ f.2.2.2.length < 18446744073709551616 ∧ Sound f.2.2.2
theorem fine_of : ∀ {l : List FV} {d : Nat}, (∀ f ∈ l, One d f) → Fine d (ofL l)
 | [], _, _ => rfl
 | f :: l, d, h => by
  show vld d (.cons f.1 f.2.1 f.2.2.1 f.2.2.2 (ofL l)) = 0
  rw [vld_cons, if_pos (show vone d f.1 f.2.1 f.2.2.1 f.2.2.2 = 0 from h f (by simp))]
  exact fine_of (l := l) (d := d) (fun g hg => h g (by simp [hg]))
theorem sound_of : ∀ {l : List FV}, (∀ f ∈ l, Snd f) → Sound (ofL l)
 | [], _ => trivial
 | f :: l, h => by
  obtain ⟨h1, h2, h3, h4⟩ := h f (by simp)
  exact ⟨h1, h2, h3, h4, sound_of (fun g hg => h g (by simp [hg]))⟩
theorem one_fI (x : Int) {d : Nat} (hd : d ≤ 128) : One d (fI x) := by
 unfold One vone
 rw [if_neg (by omega)]
 simp [clean, vld, Flds.length]
theorem one_fS (s : ByteArray) {d : Nat} (hd : d ≤ 128) : One d (fS s) := by
 unfold One vone
 rw [if_neg (by omega)]
 simp [clean, vld, Flds.length]
theorem one_fL {l : List FV} {d : Nat} (hd : d ≤ 128) (h : ∀ f ∈ l, One (d + 1) f) : One d (fL l) := by
 have := fine_of h
 unfold Fine at this
 unfold One vone
 rw [if_neg (by omega)]
 simp [clean, this]
theorem snd_fI {x : Int} (h : IsInt x) : Snd (fI x) := ⟨h, show (0 : Nat) < _ by decide, show (0 : Nat) < _ by decide, trivial⟩
theorem snd_fS {s : ByteArray} (h : fsz (fS s) ≤ 1000000000) : Snd (fS s) := ⟨⟨show (_ : Int) ≤ 0 by decide, show (0 : Int) ≤ _ by decide⟩, by unfold fsz at h; simp only at h ⊢; omega, show (0 : Nat) < _ by decide, trivial⟩
theorem snd_fL {l : List FV} (hs : fsz (fL l) ≤ 1000000000) (h : ∀ f ∈ l, Snd f) : Snd (fL l) := by
 rw [fsz_fL] at hs
 have := lsz_length l
 exact ⟨⟨show (_ : Int) ≤ 0 by decide, show (0 : Int) ≤ _ by decide⟩, show (0 : Nat) < _ by decide, by show (ofL l).length < _; rw [ofL_length]; omega, sound_of h⟩
theorem rlist_mem {r : Rd FV} {sz : Nat} {w : World} {S : Nat → Prop} {Q : FV → Prop} (hc : ∀ f cs, r w S f cs → Q f) : ∀ {l : List FV} {cs : List Value}, RList r sz w S l cs → ∀ f ∈ l, Q f
 | [], _, _, f, hf => by cases hf
 | x :: l, _, ⟨c1, c2, _, _, h3, h4⟩, f, hf => by
  rcases List.mem_cons.1 hf with rfl | hf
  ·exact hc _ _ h3
  ·exact rlist_mem hc h4 f hf
def CodP (C : Cod) (P : FV → Prop) : Prop := ∀ w S f cs, C.rp w S f cs → fsz f ≤ 1000000000 → Snd f ∧ P f
def CodD (C : Cod) (c : Nat) : Prop := ∀ w S f cs, C.rp w S f cs → ∀ d, d + c ≤ 128 → One d f
theorem int_cp : CodP .int fitI := by rintro w S f cs ⟨x, hx, rfl, rfl⟩ _; exact ⟨snd_fI hx, rfl⟩
theorem dig_cp : CodP .dig fitI := by rintro w S f cs ⟨n, hn, rfl, rfl⟩ _; exact ⟨snd_fI (wrap_int _), rfl⟩
theorem flag_cp : CodP .flag fitB := by
 rintro w S f cs ⟨b, rfl, rfl⟩ _
 exact ⟨snd_fI (by cases b <;> exact ⟨by decide, by decide⟩), rfl, by cases b <;> simp⟩
theorem str_cp : CodP .str fitS := by rintro w S f cs ⟨s, rfl, rfl⟩ h; exact ⟨snd_fS h, rfl⟩
theorem list_cp {C : Cod} {P : FV → Prop} (hC : CodP C P) : CodP (.list C) (fitL P) := by
 rintro w S f cs ⟨l, A, c, rfl, rfl, _, _, _, ds, _, hr⟩ h
 have h0 := h
 rw [fsz_fL] at h
 have hm := rlist_mem (Q := fun f => fsz f ≤ 1000000000 → Snd f ∧ P f) (fun f cs hf => hC w S f cs hf) hr
 exact ⟨snd_fL h0 (fun f hf => (hm f hf (by have := fsz_mem hf; omega)).1), fitL_mk.2 (fun f hf => (hm f hf (by have := fsz_mem hf; omega)).2)⟩
def AllCP : List Cod → List (FV → Prop) → Prop
 | [], [] => True
 | C :: Cs, P :: Ps => CodP C P ∧ AllCP Cs Ps
 | _, _ => False
theorem recl_cp : ∀ {Cs : List Cod} {Ps : List (FV → Prop)} {w : World} {S : Nat → Prop} {fs : List FV} {cs : List Value}, AllCP Cs Ps → RecL Cs w S fs cs → (∀ f ∈ fs, fsz f ≤ 1000000000) → (∀ f ∈ fs, Snd f) ∧ FitL Ps fs
 | [], [], _, _, _, _, _, ⟨h1, _⟩, _ => by subst h1; exact ⟨fun f hf => (by cases hf), trivial⟩
 | C :: Cs, P :: Ps, w, S, _, _, ⟨a1, a2⟩, ⟨f, fr, c1, c2, h1, h2, h3, h4⟩, hs => by
  subst h1 h2
  obtain ⟨b1, b2⟩ := a1 w S f c1 h3 (hs f (by simp))
  obtain ⟨b3, b4⟩ := recl_cp a2 h4 (fun g hg => hs g (by simp [hg]))
  exact ⟨fun g hg => (List.mem_cons.1 hg).elim (fun e => e ▸ b1) (b3 g), b2, b4⟩
theorem recd_cp {Cs : List Cod} {Ps : List (FV → Prop)} (h : AllCP Cs Ps) : CodP (.recd Cs) (fitR Ps) := by
 rintro w S f cs ⟨l, rfl, hr⟩ hs
 have h0 := hs
 rw [fsz_fL] at hs
 obtain ⟨a, b⟩ := recl_cp h hr (fun f hf => by have := fsz_mem hf; omega)
 exact ⟨snd_fL h0 a, fitR_mk.2 b⟩
theorem val_cp : ∀ g, CodP (.val g) FitV
 | 0 => fun _ _ _ _ h _ => h.elim
 | g + 1 => fun w S f cs h hs => by
  have hA : AllCP [.int, .flag, .int, .str, .list (Cod.val g), .list .str] [fitI, fitB, fitI, fitS, fitL FitV, fitL fitS] := ⟨int_cp, flag_cp, int_cp, str_cp, list_cp (val_cp g), list_cp str_cp, trivial⟩
  have h := recd_cp hA w S f cs h hs
  have h' : (Cod.recd [.int, .flag, .int, .str, .list (Cod.val g), .list .str]).rp w S f cs := ‹(Cod.val (g + 1)).rp w S f cs›
  obtain ⟨l, rfl, _⟩ := h'
  exact ⟨h.1, fitV_mk.2 (fitR_mk.1 h.2)⟩
theorem value_cp : CodP .value FitV := fun w S f cs ⟨g, h⟩ hs => val_cp g w S f cs h hs
theorem ev_cp : AllCP evC evP := by
 have s := str_cp
 have i := int_cp
 have b := flag_cp
 have dg := dig_cp
 have si : AllCP [.str, .dig, .int] [fitS, fitI, fitI] := ⟨s, dg, i, trivial⟩
 have st : AllCP [.str, .int, .int] [fitS, fitI, fitI] := ⟨s, i, i, trivial⟩
 exact ⟨i, i, s, s, i, i, i, s, s, recd_cp ⟨s, s, b, trivial⟩, list_cp (recd_cp ⟨s, value_cp, trivial⟩), list_cp (recd_cp ⟨s, i, trivial⟩), recd_cp ⟨i, i, list_cp (recd_cp si), list_cp (recd_cp si), list_cp (recd_cp st), s, trivial⟩,
  recd_cp ⟨s, list_cp s, i, i, b, i, i, i, list_cp i, trivial⟩, recd_cp ⟨s, s, i, list_cp s, list_cp s, trivial⟩, recd_cp ⟨recd_cp ⟨s, i, s, trivial⟩, s, dg, i, i, i, trivial⟩, trivial⟩
theorem int_cd : CodD .int 0 := by rintro w S f cs ⟨x, hx, rfl, rfl⟩ d hd; exact one_fI _ (by omega)
theorem dig_cd : CodD .dig 0 := by rintro w S f cs ⟨x, hx, rfl, rfl⟩ d hd; exact one_fI _ (by omega)
theorem flag_cd : CodD .flag 0 := by rintro w S f cs ⟨x, rfl, rfl⟩ d hd; exact one_fI _ (by omega)
theorem str_cd : CodD .str 0 := by rintro w S f cs ⟨x, rfl, rfl⟩ d hd; exact one_fS _ (by omega)
theorem list_cd {C : Cod} {k : Nat} (hC : CodD C k) : CodD (.list C) (k + 1) := by
 rintro w S f cs ⟨l, A, c, rfl, rfl, _, _, _, ds, _, hr⟩ d hd
 exact one_fL (by omega) (rlist_mem (Q := fun f => One (d + 1) f) (fun f cs hf => hC w S f cs hf (d + 1) (by omega)) hr)
def AllCD (k : Nat) : List Cod → Prop
 | [] => True
 | C :: Cs => CodD C k ∧ AllCD k Cs
theorem CodD.up {C : Cod} {k : Nat} (h : CodD C k) (j : Nat) (hj : k ≤ j := by decide) : CodD C j := fun w S f cs hr d hd => h w S f cs hr d (by omega)
theorem recl_cd : ∀ {Cs : List Cod} {k d : Nat} {w : World} {S : Nat → Prop} {fs : List FV} {cs : List Value}, AllCD k Cs → RecL Cs w S fs cs → d + k ≤ 128 → ∀ f ∈ fs, One d f
 | [], _, _, _, _, _, _, _, ⟨h1, _⟩, _ => by subst h1; exact fun f hf => by cases hf
 | C :: Cs, k, d, w, S, _, _, ⟨a1, a2⟩, ⟨f, fr, c1, c2, h1, h2, h3, h4⟩, hd => by
  subst h1 h2
  exact fun g hg => (List.mem_cons.1 hg).elim (fun e => e ▸ a1 w S f c1 h3 d hd) (recl_cd a2 h4 hd g)
theorem recd_cd {Cs : List Cod} {k : Nat} (h : AllCD k Cs) : CodD (.recd Cs) (k + 1) := by
 rintro w S f cs ⟨l, rfl, hr⟩ d hd
 exact one_fL (by omega) (recl_cd h hr (by omega))
theorem firstE_map {α : Type} {f : α → Int} {l : List α} (h : firstE (l.map f) = 0) : ∀ x ∈ l, f x = 0 := fun x hx => firstE_zero h (f x) (List.mem_map_of_mem hx)
theorem val_cd : ∀ (n g : Nat) (w : World) (S : Nat → Prop) (f : FV) (cs : List Value), (Cod.val g).rp w S f cs → chkV n (vl1 f) = 0 → ∀ d, d + 2 * n ≤ 128 → One d f
 | _, 0, _, _, _, _, h, _, _, _ => h.elim
 | 0, _ + 1, _, _, _, _, _, h, _, _ => by cases h
 | n + 1, g + 1, w, S, f, cs, ⟨fs, h0, h⟩, hv, d, hd => by
  subst h0
  obtain ⟨f1, r1, k1, d1, rfl, rfl, ⟨k, hk, rfl, rfl⟩, h⟩ := h
  obtain ⟨f2, r2, k2, d2, rfl, rfl, ⟨b, rfl, rfl⟩, h⟩ := h
  obtain ⟨f3, r3, k3, d3, rfl, rfl, ⟨i, hi, rfl, rfl⟩, h⟩ := h
  obtain ⟨f4, r4, k4, d4, rfl, rfl, ⟨s, rfl, rfl⟩, h⟩ := h
  obtain ⟨f5, r5, k5, d5, rfl, rfl, ⟨l, A, c, rfl, rfl, hl⟩, h⟩ := h
  obtain ⟨f6, r6, k6, d6, rfl, rfl, ⟨ks, A2, c2, rfl, rfl, hks⟩, h⟩ := h
  obtain ⟨rfl, rfl⟩ := h
  rw [vl1_mk] at hv
  have hz : firstE ((l.map vl1).map (chkV n)) = 0 := by
   generalize hV : Vl.mk k (decide ((if b then (1 : Int) else 0) = 1)) i s (l.map vl1) (ks.map (·.2.2.1)) = V at hv
   have hVl : V.list = l.map vl1 := by rw [← hV]; rfl
   unfold chkV at hv
   rw [hVl] at hv
   by_cases h1 : ownV (n + 1) V ≠ 0
   ·rw [if_pos h1] at hv; exact absurd hv h1
   ·rw [if_neg h1] at hv; exact hv
  rw [List.map_map] at hz
  have hz := firstE_map hz
  obtain ⟨_, _, _, ds, _, hl⟩ := hl
  obtain ⟨_, _, _, ds2, _, hks⟩ := hks
  have hm : ∀ x ∈ l, One (d + 2) x := fun x hx => rlist_mem (Q := fun x => chkV n (vl1 x) = 0 → One (d + 2) x) (fun f cs hf hc => val_cd n g w S f cs hf hc (d + 2) (by omega)) hl x hx (hz x hx)
  have hm2 : ∀ x ∈ ks, One (d + 2) x := rlist_mem (fun f cs hf => str_cd w S f cs hf (d + 2) (by omega)) hks
  refine one_fL (by omega) (fun x hx => ?_)
  simp only [List.mem_cons, List.not_mem_nil, or_false] at hx
  rcases hx with rfl | rfl | rfl | rfl | rfl | rfl
  ·exact one_fI _ (by omega)
  ·exact one_fI _ (by omega)
  ·exact one_fI _ (by omega)
  ·exact one_fS _ (by omega)
  ·exact one_fL (by omega) hm
  ·exact one_fL (by omega) hm2
theorem ev_fine {w : World} {S : Nat → Prop} {fs : List FV} {E : List Value} (h : RecL evC w S fs E) (hv : argsV fs = 0) : Fine 1 (ofL fs) := by
 have hall : ∀ f ∈ fs, One 1 f := by
  obtain ⟨f0, r, c, k, rfl, rfl, h0, h⟩ := h
  obtain ⟨f1, r, c, k, rfl, rfl, h1, h⟩ := h
  obtain ⟨f2, r, c, k, rfl, rfl, h2, h⟩ := h
  obtain ⟨f3, r, c, k, rfl, rfl, h3, h⟩ := h
  obtain ⟨f4, r, c, k, rfl, rfl, h4, h⟩ := h
  obtain ⟨f5, r, c, k, rfl, rfl, h5, h⟩ := h
  obtain ⟨f6, r, c, k, rfl, rfl, h6, h⟩ := h
  obtain ⟨f7, r, c, k, rfl, rfl, h7, h⟩ := h
  obtain ⟨f8, r, c, k, rfl, rfl, h8, h⟩ := h
  obtain ⟨f9, r, c, k, rfl, rfl, h9, h⟩ := h
  obtain ⟨f10, r, c, k, rfl, rfl, ⟨l, A, c10, rfl, rfl, _, _, _, ds, _, hr⟩, h⟩ := h
  have hvs : ∀ x ∈ l, varV x = 0 := firstE_map (by
   have e : argsV (f0 :: f1 :: f2 :: f3 :: f4 :: f5 :: f6 :: f7 :: f8 :: f9 :: fL l :: r) = firstE ((toL (ofL l)).map varV) := rfl
   rw [e, toL_ofL] at hv
   exact hv)
  have s := str_cd
  have i := int_cd
  have b := flag_cd
  have dg := dig_cd
  have hrest : ∀ f ∈ r, One 1 f := recl_cd (k := 8) (by
   have l1 : CodD .strs 1 := list_cd s
   have o1 : CodD .output 1 := recd_cd (k := 0) ⟨s, dg, i, trivial⟩
   have t1 : CodD .test 1 := recd_cd (k := 0) ⟨s, i, i, trivial⟩
   have sc : CodD (.recd [.str, .int, .str]) 1 := recd_cd (k := 0) ⟨s, i, s, trivial⟩
   exact ⟨(list_cd (recd_cd (Cs := [.str, .int]) (k := 0) ⟨s, i, trivial⟩)).up 8, (recd_cd (Cs := [.int, .int, .list .output, .list .output, .list .test, .str]) (k := 2) ⟨i.up 2, i.up 2, list_cd o1, list_cd o1, list_cd t1, s.up 2, trivial⟩).up 8,
    (recd_cd (Cs := [.str, .strs, .int, .int, .flag, .int, .int, .int, .ints]) (k := 2) ⟨s.up 2, l1.up 2, i.up 2, i.up 2, b.up 2, i.up 2, i.up 2, i.up 2, (list_cd i).up 2, trivial⟩).up 8, (recd_cd (Cs := [.str, .str, .int, .strs, .strs]) (k := 2) ⟨s.up 2, s.up 2, i.up 2, l1.up 2, l1.up 2, trivial⟩).up 8,
    (recd_cd (Cs := [.recd [.str, .int, .str], .str, .dig, .int, .int, .int]) (k := 2) ⟨sc.up 2, s.up 2, dg.up 2, i.up 2, i.up 2, i.up 2, trivial⟩).up 8, trivial⟩) h (by decide)
  have h9' := recd_cd (Cs := [.str, .str, .flag]) (k := 0) ⟨s, s, b, trivial⟩ _ _ _ _ h9 1 (by decide)
  have hl : One 1 (fL l) := one_fL (by decide) (fun x hx => by
   refine rlist_mem (Q := fun x => varV x = 0 → One 2 x) ?_ hr x hx (hvs x hx)
   rintro f cs ⟨m, rfl, fa, m1, c1, d1, rfl, rfl, ha, fb, m2, c2, d2, rfl, rfl, ⟨g, hb⟩, rfl, rfl⟩ hvv
   rw [varV_mk] at hvv
   refine one_fL (by decide) (fun y hy => ?_)
   simp only [List.mem_cons, List.not_mem_nil, or_false] at hy
   rcases hy with rfl | rfl
   ·exact s _ _ _ _ ha 3 (by decide)
   ·exact val_cd 16 g w S _ c2 hb hvv 3 (by decide))
  intro f hf
  simp only [List.mem_cons] at hf
  rcases hf with rfl | rfl | rfl | rfl | rfl | rfl | rfl | rfl | rfl | rfl | rfl | hf
  ·exact i _ _ _ _ h0 1 (by decide)
  ·exact i _ _ _ _ h1 1 (by decide)
  ·exact s _ _ _ _ h2 1 (by decide)
  ·exact s _ _ _ _ h3 1 (by decide)
  ·exact i _ _ _ _ h4 1 (by decide)
  ·exact i _ _ _ _ h5 1 (by decide)
  ·exact i _ _ _ _ h6 1 (by decide)
  ·exact s _ _ _ _ h7 1 (by decide)
  ·exact s _ _ _ _ h8 1 (by decide)
  ·exact h9'
  ·exact hl
  ·exact hrest f hf
 exact fine_of hall
theorem argsV_of {fs : List FV} (h : validF fs = 0) : argsV fs = 0 := by
 unfold validF at h
 split at h
 ·cases h
 ·split at h
  ·cases h
  ·split at h
   ·cases h
   ·exact h
theorem enc_back {w : World} {fs : List FV} {E : List Value} (h : EvR w fs E) (hv : validF fs = 0) : encF fs = Lib.uvarint (ofL fs).length ++ encs (ofL fs) ∧ fieldsS (encF fs) = .inr (ofL fs) ∧ DecR (encF fs) (.inr fs) := by
 have hsz := h.sz
 have hcp := recl_cp ev_cp h.rd (fun f hf => by have := fsz_mem hf; omega)
 have hf := ev_fine h.rd (argsV_of hv)
 have hl := lsz_length fs
 have e : encF fs = Lib.uvarint (ofL fs).length ++ encs (ofL fs) := by
  unfold encF recF
  rw [if_pos hv, fix_of_fine _ _ hf]
 have e2 : fieldsS (encF fs) = .inr (ofL fs) := by rw [e]; exact fields_enc hf (sound_of hcp.1) (by rw [ofL_length]; omega)
 exact ⟨e, e2, Or.inr ⟨ofL fs, e2, Or.inr (Or.inr (by rw [toL_ofL]; exact ⟨hcp.2, hv, rfl⟩))⟩⟩
theorem encF_nil {fs : List FV} (hv : validF fs ≠ 0) : encF fs = [] := by unfold encF; rw [if_neg hv]
theorem encs_snd : ∀ {f : Flds}, Sound f → (encs f).length ≤ 11 * f.size
 | .nil, _ => by simp [encs]
 | .cons k x s sub r, ⟨hx, hs, hn, h1, h2⟩ => by
  have h1 := encs_snd h1
  have h2 := encs_snd h2
  have h3 := enc1_le (k := k) (s := s) (sub := sub) hx hs hn
  rw [encs_cons, List.length_append]
  simp only [Flds.size]
  omega
theorem encF_len {w : World} {fs : List FV} {E : List Value} (h : EvR w fs E) : (encF fs).length ≤ 11 * lsz fs + 10 := by
 by_cases hv : validF fs = 0
 ·have hsz := h.sz
  have hcp := recl_cp ev_cp h.rd (fun f hf => by have := fsz_mem hf; omega)
  have hl := lsz_length fs
  have h1 := encs_snd (sound_of hcp.1)
  have h2 := Lib.uvarint_length64 (x := (ofL fs).length) (by rw [ofL_length]; omega)
  have h3 : (ofL fs).size = lsz fs := rfl
  rw [(enc_back h hv).1, List.length_append]
  omega
 ·rw [encF_nil hv]; simp
theorem er_ne {l : List UInt8} {e : Nat} (h : fieldsS l = .inl e) : e ≠ 0 := by
 have hg := rd_good (l.length + 1) 1 l (by omega)
 unfold fieldsS at h
 generalize rd (l.length + 1) 1 l = R at hg h
 match R with
 | .inl e' => injection h with h; subst h; exact hg.1
 | .inr (f, r) =>
  simp only at h
  split at h
  ·injection h with h; omega
  ·cases h
theorem pdec_any (l : List UInt8) (A : Option Addr) (n c : Nat) (w : World) (B : Nat) (hl : l.length = n) (hm : n ≤ 100000000) (hc : n ≤ c) (hB : B ≤ w.heap.size) (hs : Seq w B 1 A n (l.map bv)) : Calls Tryz.prog 18 #[.slice A n c] w (RetDec w l) := by
 subst hl
 go_enter Tryz.func18, Tryz.ntmps18
 go_upto_region 1 with (fail)
 generalize hx_ : World.alloc w _ = w1
 have hZ : Tgt w1 w.heap.size 0 evZ := by rw [← hx_]; exact Tgt.new w evZ.toArray _
 have hb1 : Below w.heap.size w w1 := by rw [← hx_]; exact (Below.refl _ _).alloc (Nat.le_refl _) _
 clear hx_
 have C := fields_any l A l.length c w1 B rfl (by omega) hc (Nat.le_trans hB hb1.size) (hs.below (hb1.mono hB))
 have hsm := fun f (h : fieldsS l = .inr f) => fieldsS_small h
 have hiz : (Tryz.prog.info? 43).map (·.size) = some evZ.toArray.size := by kernel_rfl
 have hbt : ∀ a : Act, Tryz.prog.built 43 ((#[] : Array (Nat × Operand)).map fun (i, x) => (i, a.eval x)).toList = some evZ.toArray := fun _ => by kernel_rfl
 have hz1 := evZ_one
 have hz42 := evZ_len
 obtain ⟨Zc, hZc⟩ : ∃ Zc, Zc = evZ := ⟨_, rfl⟩
 rw [← hZc] at hZ hiz hz1 hz42
 simp only [← hZc] at hbt
 replace hiz := Lib.hid hiz
 replace hZc := Lib.hid hZc
 generalize hq : fieldsS l = F at C
 replace C := Lib.hid C
 replace hq := Lib.hid hq
 repeat' (first | go_skip | go_guarded | go_step)
 refine C.out.mono ?_
 clear C
 cases F with
 | inl er =>
  have hq2 := hq.out
  rintro e w2 ⟨rfl, hb2⟩
  dsimp only
  have hZ2 := hZ.below hb2
  have her : er ≠ 0 := er_ne hq2
  have z1 : ((er : Int) == 0) = false := by simp; omega
  have z2 : ((er : Int) != 0) = true := by simp; omega
  have hth := hZ2.there (n := Zc.toArray.size) (Nat.le_refl _)
  have hbw : Below w.heap.size w w2 := hb1.trans (hb2.mono hb1.size)
  have hfin : (w2.setCells w.heap.size 0 Zc.toArray.toList).rangeAt w.heap.size 0 Zc := World.rangeAt_setCells_same w2 w.heap.size 0 Zc hth
  have hbf : Below w.heap.size w (w2.setCells w.heap.size 0 Zc.toArray.toList) := setCells_below (Nat.le_refl _) _ _ _ hbw
  repeat' (first | (refine wpList_build1 rfl 43 _ rfl (cells := Zc.toArray) (hbt _) ?_) | (refine wpList_store_mid rfl 43 _ _ rfl w.heap.size 0 Zc.toArray rfl rfl hth hiz.out hz1 ?_) | go_skip | go_guarded | go_step)
  refine bodyPost_ret (v := .tuple #[.agg Zc.toArray, .int .i64 (er : Int)]) (run_res_two 2 3 43 w.heap.size 0 Zc _ _ rfl rfl rfl hfin Tryz.underlying43 rfl hiz.out) rfl ?_
  exact ⟨Zc, (er : Int), rfl, hbf, Or.inr ⟨by omega, Or.inl ⟨er, hq2, rfl⟩, hZc.out⟩⟩
 | inr f =>
  have hq2 := hq.out
  have hcl : Cln (toL f) := by show ClnL (ofL (toL f)); rw [ofL_toL]; exact cln_of_fine f 1 (fields_back hq2).2
  have hlz : lsz (toL f) ≤ 100000000 := by unfold lsz; rw [ofL_toL]; exact Nat.le_trans (hsm f hq2) hm
  have hlen : f.length = (toL f).length := (toL_length f).symm
  rintro e w2 ⟨A2, c2, cs2, rfl, hO2, hR2⟩
  dsimp only
  have hF2 : FSl w2 (fun b => b < w2.heap.size) A2 c2 (toL f) := ⟨by rw [← hlen]; exact hO2.cap_le, cs2, by rw [← hlen]; exact hO2.seq, RList.map (fun x c hc => rF_ok _ _ _ _ x c (fun _ _ => rfl) (fun b hb => hb.2) hc) (of_rep hR2)⟩
  have hb2 := hO2.2
  have hZ2 := hZ.below hb2
  have hbw2 : Below w.heap.size w w2 := hb1.trans (hb2.mono hb1.size)
  have hlt2 : w.heap.size < w2.heap.size := Nat.lt_of_lt_of_le hZ.lt hb2.size
  clear hO2 hR2 hs hb2 hb1 hZ hsm
  go_upto_region 5 with (fail)
  generalize hx_ : World.alloc w2 _ = w3
  have hP3 : OwnB w2 w3 [(w2.heap.size, [.slice A2 (toL f).length c2, .bool true, .bool false])] := by rw [← hx_]; exact (OwnB.refl w2).new #[.slice A2 (toL f).length c2, .bool true, .bool false] _ (g := w2.heap.size)
  have hb3 : Below w2.heap.size w2 w3 := by rw [← hx_]; exact (Below.refl _ _).alloc (Nat.le_refl _) _
  have hs3 : w2.heap.size < w3.heap.size := by rw [← hx_]; simp
  clear hx_
  have hC3 : CR w2 w3 w2.heap.size (toL f) false := ⟨A2, c2, hP3, hF2⟩
  clear hP3 hF2
  go_upto_region 6 with (fail)
  generalize hx_ : World.alloc w3 _ = w4
  have hT4 : Tgt w4 w3.heap.size 0 evZ := by rw [← hx_]; exact Tgt.new w3 evZ.toArray _
  have hb4 : Below w3.heap.size w3 w4 := by rw [← hx_]; exact (Below.refl _ _).alloc (Nat.le_refl _) _
  clear hx_
  have hC4 := hC3.below hb4
  have hZ4 := (hZ2.below hb3).below hb4
  have hbw4 : Below w.heap.size w w4 := (hbw2.trans (hb3.mono (Nat.le_of_lt hlt2))).trans (hb4.mono (by omega))
  have hs4 := hT4.lt
  clear hC3 hZ2 hb3 hb4 hbw2
  repeat' (first | go_skip | go_guarded | go_step)
  refine (event_r w2 w4 w2.heap.size w3.heap.size 0 (toL f) false hC4 (by omega) (by omega) hT4 hcl (by omega)).mono ?_
  clear hT4 hC4 hcl
  rintro e w5 ⟨rfl, hch5, E, hEl, hT5, hE1, hh⟩
  dsimp only
  rw [List.append_nil] at hT5
  have hE42 : E.length = 42 := hEl
  have hiE := Lib.hid (ev_info hE42)
  have hEone : E.toArray.all (·.oneCell') = true := by simpa using hE1
  have hZ5 := hZ4.chg hch5 (by omega) (by omega)
  have hbw5 : Below w.heap.size w w5 := hbw4.trans (hch5.below (by omega) (by omega) hbw4.size)
  have hs5 := hch5.size
  clear hZ4 hEl hE1
  replace hE42 := Lib.hid hE42
  have hth := hZ5.there (n := Zc.toArray.size) (Nat.le_refl _)
  have hfin : (w5.setCells w.heap.size 0 Zc.toArray.toList).rangeAt w.heap.size 0 Zc := World.rangeAt_setCells_same w5 w.heap.size 0 Zc hth
  have hbf : Below w.heap.size w (w5.setCells w.heap.size 0 Zc.toArray.toList) := setCells_below (Nat.le_refl _) _ _ _ hbw5
  rcases hh with ⟨a, r, hm2, hfa, hCR, hrec⟩ | ⟨hno, l', hcl2, hz2, hCR⟩
  ·cases r with
   | nil =>
    rw [List.append_nil] at hm2
    subst hm2
    have hER : EvR w5 (toL f) E := ⟨hrec.map evC_ok (fun _ _ => rfl) (fun b hb => hb.2), by omega⟩
    obtain ⟨A6, c6, g0⟩ := hCR.c0
    have g2 := hCR.c2
    have gf := hCR.fr
    have CV := Lib.hid (pvalid_any (toL f) E w5 hER (by omega))
    have hA : w5.rangeAt w3.heap.size 0 E := hT5.at_
    simp only [List.length_nil] at g0
    replace hfa := Lib.hid hfa
    replace hrec := Lib.hid hrec
    replace hlz := Lib.hid hlz
    clear hCR hER
    repeat' (first | (refine wpList_load_mid rfl 43 _ rfl w3.heap.size 0 rfl E _ hA Tryz.underlying43 rfl hiE.out ?_) | go_skip | go_guarded | go_step)
    refine CV.out.mono ?_
    clear CV
    rintro e w6 ⟨rfl, hb6⟩
    dsimp only
    have hZ6 := hZ5.below hb6
    have hbw6 : Below w.heap.size w w6 := hbw5.trans (hb6.mono hbw5.size)
    have hth6 := hZ6.there (n := Zc.toArray.size) (Nat.le_refl _)
    have hA6 : w6.rangeAt w3.heap.size 0 E := range_up hA hb6 hT5.lt
    by_cases hv : validF (toL f) = 0
    ·have z1 : (validF (toL f) == 0) = true := by simpa using hv
     have z2 : (validF (toL f) != 0) = false := by simp [hv]
     have hthE := hZ6.there (n := E.toArray.size) (by simp [hE42.out, hz42])
     have hfin6 : (w6.setCells w.heap.size 0 E.toArray.toList).rangeAt w.heap.size 0 E := World.rangeAt_setCells_same w6 w.heap.size 0 E hthE
     have hbf6 : Below w.heap.size w (w6.setCells w.heap.size 0 E.toArray.toList) := setCells_below (Nat.le_refl _) _ _ _ hbw6
     replace hv := Lib.hid hv
     repeat' (first | (refine wpList_load_mid rfl 43 _ rfl w3.heap.size 0 rfl E _ hA6 Tryz.underlying43 rfl hiE.out ?_) | (refine wpList_store_mid rfl 43 _ _ rfl w.heap.size 0 E.toArray rfl rfl hthE hiE.out hEone ?_) | go_skip | go_guarded | go_step)
     refine bodyPost_ret (v := .tuple #[.agg E.toArray, .int .i64 0]) (run_res_two 2 3 43 w.heap.size 0 E _ _ rfl rfl rfl hfin6 Tryz.underlying43 rfl hiE.out) rfl ?_
     refine ⟨E, 0, rfl, hbf6, Or.inl ⟨rfl, toL f, Or.inr ⟨f, hq2, Or.inr (Or.inr ⟨hfa.out, hv.out, rfl⟩)⟩, ?_⟩⟩
     refine hrec.out.map evC_ok (fun p hp => ?_) (fun b hb => ⟨by have := hb.1; have := hbw4.size; omega, ?_⟩)
     ·have hp1 : p.block < w5.heap.size := hp.2
      have hp0 : w4.heap.size ≤ p.block := hp.1
      exact (World.cell?_setCells_out w.heap.size E.toArray.toList 0 w6 p (fun h => absurd h (by omega))).trans (hb6.cell hp1)
     ·have hb1 : b < w5.heap.size := hb.2
      rw [setCells_size2]
      exact Nat.lt_of_lt_of_le hb1 hb6.size
    ·have z1 : (validF (toL f) == 0) = false := by simpa using hv
     have z2 : (validF (toL f) != 0) = true := by simpa using hv
     have hfin6 : (w6.setCells w.heap.size 0 Zc.toArray.toList).rangeAt w.heap.size 0 Zc := World.rangeAt_setCells_same w6 w.heap.size 0 Zc hth6
     have hbf6 : Below w.heap.size w (w6.setCells w.heap.size 0 Zc.toArray.toList) := setCells_below (Nat.le_refl _) _ _ _ hbw6
     replace hv := Lib.hid hv
     repeat' (first | (refine wpList_build1 rfl 43 _ rfl (cells := Zc.toArray) (hbt _) ?_) | (refine wpList_store_mid rfl 43 _ _ rfl w.heap.size 0 Zc.toArray rfl rfl hth6 hiz.out hz1 ?_) | go_skip | go_guarded | go_step)
     refine bodyPost_ret (v := .tuple #[.agg Zc.toArray, .int .i64 (validF (toL f))]) (run_res_two 2 3 43 w.heap.size 0 Zc _ _ rfl rfl rfl hfin6 Tryz.underlying43 rfl hiz.out) rfl ?_
     exact ⟨Zc, validF (toL f), rfl, hbf6, Or.inr ⟨hv.out, Or.inr ⟨f, hq2, Or.inr (Or.inl ⟨hfa.out, hv.out, rfl⟩)⟩, hZc.out⟩⟩
   | cons x r =>
    have hnf : ¬ FitL evP (toL f) := fun hf => by
     have h1 := hf.len
     have h2 := hfa.len
     rw [hm2] at h1
     simp at h1
     omega
    obtain ⟨A6, c6, g0⟩ := hCR.c0
    have g2 := hCR.c2
    have gf := hCR.fr
    clear hm2 hfa hrec hCR
    obtain ⟨n6, hn6, hn60⟩ : ∃ n6 : Nat, n6 = (x :: r).length ∧ 0 < n6 := ⟨_, rfl, by simp⟩
    rw [← hn6] at g0
    clear hn6
    have hn61 : (0 : Int) < (n6 : Int) := by omega
    replace hnf := Lib.hid hnf
    repeat' (first | (refine wpList_build1 rfl 43 _ rfl (cells := Zc.toArray) (hbt _) ?_) | (refine wpList_store_mid rfl 43 _ _ rfl w.heap.size 0 Zc.toArray rfl rfl hth hiz.out hz1 ?_) | go_skip | go_guarded | go_step)
    refine bodyPost_ret (v := .tuple #[.agg Zc.toArray, .int .i64 5]) (run_res_two 2 3 43 w.heap.size 0 Zc _ _ rfl rfl rfl hfin Tryz.underlying43 rfl hiz.out) rfl ?_
    exact ⟨Zc, 5, rfl, hbf, Or.inr ⟨by decide, Or.inr ⟨f, hq2, Or.inl ⟨hnf.out, rfl⟩⟩, hZc.out⟩⟩
  ·have hnf : ¬ FitL evP (toL f) := fun hf => hno ⟨toL f, [], by simp, hf⟩
   have g2 := hCR.c2
   have gf := hCR.fr
   clear hno hcl2 hz2 hCR
   replace hnf := Lib.hid hnf
   repeat' (first | (refine wpList_build1 rfl 43 _ rfl (cells := Zc.toArray) (hbt _) ?_) | (refine wpList_store_mid rfl 43 _ _ rfl w.heap.size 0 Zc.toArray rfl rfl hth hiz.out hz1 ?_) | go_skip | go_guarded | go_step)
   refine bodyPost_ret (v := .tuple #[.agg Zc.toArray, .int .i64 5]) (run_res_two 2 3 43 w.heap.size 0 Zc _ _ rfl rfl rfl hfin Tryz.underlying43 rfl hiz.out) rfl ?_
   exact ⟨Zc, 5, rfl, hbf, Or.inr ⟨by decide, Or.inr ⟨f, hq2, Or.inl ⟨hnf.out, rfl⟩⟩, hZc.out⟩⟩
def liveFs : List FV := ((zeroFs.set 0 (fI 12)).set 1 (fI 5)).set 7 (fS ⟨#[119]⟩)
def liveE : List Value := ((evZ.set 0 (.int .i64 12)).set 1 (.int .i64 5)).set 7 (.string ⟨#[119]⟩)
def liveB : List UInt8 := [16, 0, 24, 0, 10, 1, 0, 1, 0, 0, 0, 0, 0, 0, 0, 1, 1, 119, 1, 0, 2, 3, 1, 0, 1, 0, 0, 0, 2, 0, 2, 0, 2, 6, 0, 0, 0, 0, 2, 0, 2, 0, 2, 0, 1, 0, 2, 9, 1, 0, 2, 0, 0, 0, 0, 0, 0, 0, 0, 0, 0, 0, 0, 0, 2, 0, 2, 5, 1, 0, 1, 0, 0, 0, 2, 0, 2, 0, 2, 6, 2, 3, 1, 0, 0, 0, 1, 0, 1, 0, 0, 0, 0, 0, 0, 0, 0, 0]
theorem live_valid : validF liveFs = 0 := by decide +kernel
theorem live_bytes : Lib.uvarint (ofL liveFs).length ++ encs (ofL liveFs) = liveB := by decide +kernel
theorem live_rd {w : World} {S : Nat → Prop} : RecL evC w S liveFs liveE :=
 RecL.put (C := .str) (z := [.string ⟨#[119]⟩]) ⟨_, rfl, rfl⟩ 7 7 evC_ok (RecL.put (C := .int) (z := [.int .i64 5]) ⟨5, ⟨by decide, by decide⟩, rfl, rfl⟩ 1 1 evC_ok (RecL.put (C := .int) (z := [.int .i64 12]) ⟨12, ⟨by decide, by decide⟩, rfl, rfl⟩ 0 0 evC_ok evZ_rd rfl rfl) rfl rfl) rfl rfl
theorem live_ev (w : World) : EvR w liveFs liveE := ⟨live_rd, by decide +kernel⟩
theorem live_enc : encF liveFs = liveB := (enc_back (live_ev default) live_valid).1.trans live_bytes
theorem live_dec : DecR liveB (.inr liveFs) := by rw [← live_enc]; exact (enc_back (live_ev default) live_valid).2.2
theorem live_cells {w : World} {S : Nat → Prop} {E : List Value} (h : RecL evC w S liveFs E) : E[0]? = some (.int .i64 12) ∧ E[1]? = some (.int .i64 5) ∧ E[7]? = some (.string ⟨#[119]⟩) := by
 have hg : ∀ fs, RecL evC w S fs E → ∃ k t s, fs[0]? = some (fI k) ∧ fs[1]? = some (fI t) ∧ fs[7]? = some (fS s) ∧ E[0]? = some (.int .i64 k) ∧ E[1]? = some (.int .i64 t) ∧ E[7]? = some (.string s) := by
  intro fs hr
  obtain ⟨f1, r1, k1, d1, rfl, rfl, ⟨k, hk, rfl, rfl⟩, hr⟩ := hr
  obtain ⟨f2, r2, k2, d2, rfl, rfl, ⟨t, ht, rfl, rfl⟩, hr⟩ := hr
  obtain ⟨f3, r3, k3, d3, rfl, rfl, ⟨x3, rfl, rfl⟩, hr⟩ := hr
  obtain ⟨f4, r4, k4, d4, rfl, rfl, ⟨x4, rfl, rfl⟩, hr⟩ := hr
  obtain ⟨f5, r5, k5, d5, rfl, rfl, ⟨x5, _, rfl, rfl⟩, hr⟩ := hr
  obtain ⟨f6, r6, k6, d6, rfl, rfl, ⟨x6, _, rfl, rfl⟩, hr⟩ := hr
  obtain ⟨f7, r7, k7, d7, rfl, rfl, ⟨x7, _, rfl, rfl⟩, hr⟩ := hr
  obtain ⟨f8, r8, k8, d8, rfl, rfl, ⟨s, rfl, rfl⟩, hr⟩ := hr
  exact ⟨k, t, s, rfl, rfl, rfl, rfl, rfl, rfl⟩
 obtain ⟨k, t, s, h0, h1, h2, h3, h4, h5⟩ := hg _ h
 have e0 : fI 12 = fI k := by have := h0; injection this
 have e1 : fI 5 = fI t := by have := h1; injection this
 have e2 : fS ⟨#[119]⟩ = fS s := by have := h2; injection this
 have e0 : (12 : Int) = k := congrArg (fun f : FV => f.2.1) e0
 have e1 : (5 : Int) = t := congrArg (fun f : FV => f.2.1) e1
 have e2 : (⟨#[119]⟩ : ByteArray) = s := congrArg (fun f : FV => f.2.2.1) e2
 subst e0 e1 e2
 exact ⟨h3, h4, h5⟩
theorem seq_take {w : World} {B n : Nat} {A : Option Addr} {l : List UInt8} (h : Seq w B 1 A n (l.map bv)) {j : Nat} (hj : j ≤ n) : Seq w B 1 A j ((l.take j).map bv) := by
 have hl : l.length = n := by simpa using h.1
 refine ⟨by simp; omega, fun h0 => ?_⟩
 obtain ⟨b, o, e1, e2, e3⟩ := h.2 (by omega)
 refine ⟨b, o, e1, e2, fun i u hu => e3 i u ?_⟩
 rw [List.map_take] at hu
 have hi := (List.getElem?_eq_some_iff.1 hu).1
 rw [List.getElem?_take] at hu
 split at hu
 ·exact hu
 ·cases hu
theorem lives_any (w : World) : Calls Tryz.prog 10 #[] w fun e w' => e = .returned (.bool true) ∧ Below w.heap.size w w' := by
 obtain ⟨Lc, hLc⟩ : ∃ Lc, Lc = liveE := ⟨_, rfl⟩
 have hbt : ∀ a : Act, Tryz.prog.built 43 ((#[(0, .const (.int .i64 12)), (1, .const (.int .i64 5)), (7, .const (.string ⟨#[119]⟩))] : Array (Nat × Operand)).map fun (i, x) => (i, a.eval x)).toList = some liveE.toArray := fun _ => by kernel_rfl
 have hl1 : Lc.toArray.all (·.oneCell') = true := by rw [hLc]; simpa using (live_rd (w := default) (S := fun _ => True)).one evC_ok
 have hl42 : Lc.length = 42 := by rw [hLc]; rfl
 have hL := live_ev w
 rw [← hLc] at hL
 simp only [← hLc] at hbt
 replace hLc := Lib.hid hLc
 have hiL := Lib.hid (ev_info hl42)
 go_enter Tryz.func10, Tryz.ntmps10
 have hZ : Tgt (w.alloc (.cells evZ.toArray 43)) w.heap.size 0 evZ := Tgt.new w evZ.toArray _
 have hb1 : Below w.heap.size w (w.alloc (.cells evZ.toArray 43)) := (Below.refl _ _).alloc (Nat.le_refl _) _
 have hth := hZ.there (n := Lc.toArray.size) (by rw [List.size_toArray, hl42]; decide)
 have hA : ((w.alloc (.cells evZ.toArray 43)).setCells w.heap.size 0 Lc.toArray.toList).rangeAt w.heap.size 0 Lc := World.rangeAt_setCells_same _ w.heap.size 0 Lc hth
 have hbL : Below w.heap.size w ((w.alloc (.cells evZ.toArray 43)).setCells w.heap.size 0 Lc.toArray.toList) := setCells_below (Nat.le_refl _) _ _ _ hb1
 repeat' ((fail_if_success at_builtin); (first | (refine wpList_build1 rfl 43 _ rfl (cells := Lc.toArray) (hbt _) ?_) | (refine wpList_store_mid rfl 43 _ _ rfl w.heap.size 0 Lc.toArray rfl rfl hth hiL.out hl1 ?_) | (refine wpList_load_mid rfl 43 _ rfl w.heap.size 0 rfl Lc _ hA Tryz.underlying43 rfl hiL.out ?_) | go_skip | go_guarded | go_step))
 generalize hx_ : World.setCells _ _ _ _ = w2
 have hx2 : (w.alloc (.cells evZ.toArray 43)).setCells w.heap.size 0 Lc.toArray.toList = w2 := hx_
 rw [hx2] at hA hbL
 clear hx2 hx_
 refine (penc_any liveFs Lc w2 (hL.up hbL) (by decide +kernel)).mono ?_
 clear hL hbt hth hA hZ hb1
 rintro e w3 ⟨A, c, rfl, hB⟩
 rw [live_enc] at hB
 rw [live_enc]
 dsimp only
 have hl98 : liveB.length = 98 := rfl
 rw [hl98] at hB
 have hs3 := hB.seq
 have hc3 := hB.cap_le
 have hb3 : Below w.heap.size w w3 := hbL.trans (hB.2.mono hbL.size)
 have C := pdec_any liveB A 98 c w3 w3.heap.size hl98 (by decide) hc3 (Nat.le_refl _) hs3
 rw [hl98]
 replace C := Lib.hid C
 clear hB hbL
 repeat' (first | go_skip | go_guarded | go_step)
 refine C.out.mono ?_
 clear C
 rintro e w4 ⟨E, code, rfl, hb4, hcase⟩
 dsimp only
 have hcase : code = 0 ∧ RecL evC w4 (Fresh w3 w4) liveFs E := by
  rcases hcase with ⟨h0, fs, h1, h2⟩ | ⟨h0, h1, h2⟩
  ·have := h1.uniq live_dec
   injection this with this
   subst this
   exact ⟨h0, h2⟩
  ·have := h1.uniq live_dec
   cases this
 obtain ⟨rfl, hR⟩ := hcase
 have hE42 : E.length = 42 := (hR.len evC_ok).1
 have hE1 : E.toArray.all (·.oneCell') = true := by simpa using hR.one evC_ok
 obtain ⟨g0, g1, g7⟩ := live_cells hR
 clear hR
 have hiE := Lib.hid (ev_info hE42)
 have hZ : Tgt (w4.alloc (.cells evZ.toArray 43)) w4.heap.size 0 evZ := Tgt.new w4 evZ.toArray _
 have hb5 : Below w4.heap.size w4 (w4.alloc (.cells evZ.toArray 43)) := (Below.refl _ _).alloc (Nat.le_refl _) _
 have hth := hZ.there (n := E.toArray.size) (by rw [List.size_toArray, hE42]; decide)
 have hA : ((w4.alloc (.cells evZ.toArray 43)).setCells w4.heap.size 0 E.toArray.toList).rangeAt w4.heap.size 0 E := World.rangeAt_setCells_same _ w4.heap.size 0 E hth
 have hbE : Below w4.heap.size w4 ((w4.alloc (.cells evZ.toArray 43)).setCells w4.heap.size 0 E.toArray.toList) := setCells_below (Nat.le_refl _) _ _ _ hb5
 go_upto_region 4 with (first | (refine wpList_store_mid rfl 43 _ _ rfl w4.heap.size 0 E.toArray rfl rfl hth hiE.out hE1 ?_))
 generalize hx_ : World.setCells _ _ _ _ = w5
 have hx2 : (w4.alloc (.cells evZ.toArray 43)).setCells w4.heap.size 0 E.toArray.toList = w5 := hx_
 rw [hx2] at hA hbE
 clear hx2 hx_
 clear hth hZ hb5
 replace g0 := hA 0 _ g0
 replace g1 := hA 1 _ g1
 replace g7 := hA 7 _ g7
 rw [Nat.zero_add] at g0 g1 g7
 clear hA
 have hb35 : Below w3.heap.size w3 w5 := hb4.trans (hbE.mono hb4.size)
 have hs7 := seq_take (hs3.below hb35) (j := 7) (by decide)
 have h6 := run_bytes_str (P := Tryz.prog) (n := 7) (l := liveB.take 7) (src := 47) (dst := 9) (c := c) hs7 Tryz.underlying47 Tryz.underlying5 Tryz.underlying9
 have e7 : (liveB.take 7).toArray = #[16, 0, 24, 0, 10, 1, 0] := rfl
 rw [e7] at h6
 have hc7 : 7 ≤ c := by omega
 have hbf : Below w.heap.size w w5 := hb3.trans (hb35.mono hb3.size)
 clear hs7 hs3 hb4 hb35 hbE e7
 repeat' (first | go_skip | go_guarded | go_step)
 go_ret
 exact ⟨rfl, hbf⟩
end Go.Proofs.YtgdapkglofchjaaGreatDoor
