/- Joined: Fld Dec Row Cel Row2 JnP. -/
import Derived.Lib.BufferOwn
import Derived.Test.YtgdapkglofchjaaGreatDoorF1
set_option maxRecDepth 100000
set_option maxHeartbeats 200000
set_option linter.unusedVariables false
namespace Go.Proofs.YtgdapkglofchjaaGreatDoor
open Go.RowKit
inductive Flds where
 | nil
 | cons (k x : Int) (s : ByteArray) (sub rest : Flds)
namespace Flds
def length : Flds → Nat
 | nil => 0
 | cons _ _ _ _ r => r.length + 1
def size : Flds → Nat
 | nil => 1
 | cons _ _ s sub r => s.size + sub.size + r.size + 1
def get? : Flds → Nat → Option (Int × Int × ByteArray × Flds)
 | nil, _ => none
 | cons k x s sub _, 0 => some (k, x, s, sub)
 | cons _ _ _ _ r, i + 1 => r.get? i
theorem get?_lt : ∀ (f : Flds) (i : Nat), i < f.length → ∃ t, f.get? i = some t
 | nil, i, h => by simp [length] at h
 | cons k x s sub r, 0, _ => ⟨_, rfl⟩
 | cons k x s sub r, i + 1, h => by
  simp only [length] at h
  exact get?_lt r i (by omega)
theorem length_le_size : ∀ f : Flds, f.length + 1 ≤ f.size
 | nil => by simp [length, size]
 | cons k x s sub r => by have := length_le_size r; simp only [length, size]; omega
theorem get?_size : ∀ (f : Flds) (i : Nat) {k x : Int} {s : ByteArray} {sub : Flds}, f.get? i = some (k, x, s, sub) → s.size + sub.size < f.size
 | nil, i, _, _, _, _, h => by simp [get?] at h
 | cons k x s sub r, 0, _, _, _, _, h => by
  simp only [get?, Option.some.injEq, Prod.mk.injEq] at h
  obtain ⟨rfl, rfl, rfl, rfl⟩ := h
  have := length_le_size r
  simp only [size]; omega
 | cons k x s sub r, i + 1, _, _, _, _, h => by
  have := get?_size r i h
  simp only [size]; omega
def drop : Flds → Nat → Flds
 | f, 0 => f
 | nil, _ + 1 => nil
 | cons _ _ _ _ r, i + 1 => r.drop i
theorem drop_zero (f : Flds) : f.drop 0 = f := by cases f <;> rfl
theorem drop_get : ∀ (f : Flds) (i : Nat) {k x : Int} {s : ByteArray} {sub : Flds}, f.get? i = some (k, x, s, sub) → f.drop i = cons k x s sub (f.drop (i + 1))
 | nil, i, _, _, _, _, h => by simp [get?] at h
 | cons k x s sub r, 0, _, _, _, _, h => by
  simp only [get?, Option.some.injEq, Prod.mk.injEq] at h
  obtain ⟨rfl, rfl, rfl, rfl⟩ := h
  rw [drop_zero]
  show _ = cons k x s sub (r.drop 0)
  rw [drop_zero]
 | cons k x s sub r, i + 1, _, _, _, _, h => by
  simp only [drop]
  exact drop_get r i h
theorem drop_end : ∀ (f : Flds) (i : Nat), f.length ≤ i → f.drop i = nil
 | nil, 0, _ => rfl
 | nil, _ + 1, _ => rfl
 | cons k x s sub r, 0, h => by simp [length] at h
 | cons k x s sub r, i + 1, h => by
  simp only [length] at h
  exact drop_end r i (by omega)
def append : Flds → Flds → Flds
 | nil, g => g
 | cons k x s sub r, g => cons k x s sub (r.append g)
theorem append_length : ∀ f g : Flds, (f.append g).length = f.length + g.length
 | nil, g => by simp [append, length]
 | cons k x s sub r, g => by simp only [append, length, append_length r g]; omega
end Flds
def clean (k x : Int) (s : ByteArray) (sub : Flds) : Bool :=
 if k = 0 then s.toList.isEmpty && (sub.length : Int) == 0 else if k = 1 then x == 0 && (sub.length : Int) == 0 else if k = 2 then x == 0 && s.toList.isEmpty else false
def vld (d : Nat) : Flds → Nat
 | .nil => 0
 | .cons k x s sub r =>
  let e := if 128 < d then 13 else if clean k x s sub = false then 1 else vld (d + 1) sub
  if e = 0 then vld d r else e
def vone (d : Nat) (k x : Int) (s : ByteArray) (sub : Flds) : Nat := if 128 < d then 13 else if clean k x s sub = false then 1 else vld (d + 1) sub
theorem vld_cons (d : Nat) (k x : Int) (s : ByteArray) (sub r : Flds) : vld d (.cons k x s sub r) = if vone d k x s sub = 0 then vld d r else vone d k x s sub := rfl
theorem vld_at {d i : Nat} {f : Flds} {k x : Int} {s : ByteArray} {sub : Flds} (h : f.get? i = some (k, x, s, sub)) : vld d (f.drop i) = if vone d k x s sub = 0 then vld d (f.drop (i + 1)) else vone d k x s sub := by
 rw [Flds.drop_get f i h, vld_cons]
theorem vone_le (d : Nat) (k x : Int) (s : ByteArray) (sub : Flds) : vone d k x s sub ≤ 13 := by
 unfold vone
 have h : ∀ (f : Flds) (d : Nat), vld d f ≤ 13 := by
  intro f
  induction f with
  | nil => intro d; simp [vld]
  | cons k x s sub r ih1 ih2 =>
   intro d
   have h1 := ih1 (d + 1)
   have h2 := ih2 d
   simp only [vld]
   repeat' split
   all_goals omega
 have := h sub (d + 1)
 repeat' split
 all_goals omega
def IsInt (x : Int) : Prop := -9223372036854775808 ≤ x ∧ x ≤ 9223372036854775807
def SeqK (w : World) (S : Nat → Prop) (A : Option Addr) (n c : Nat) (cs : List Value) : Prop := SeqP w S 4 A n cs ∧ n ≤ c
theorem SeqK.map {w w' : World} {S S' : Nat → Prop} {A : Option Addr} {n c : Nat} {cs : List Value} (h : SeqK w S A n c cs) (hk : ∀ p : Addr, S p.block → w'.cell? p = w.cell? p) (hS : ∀ b, S b → S' b) : SeqK w' S' A n c cs := ⟨h.1.map hk hS, h.2⟩
def RepP (w : World) (S : Nat → Prop) : Flds → List Value → Prop
 | .nil, cs => cs = []
 | .cons k x s sub r, cs => ∃ A c cs' csub, cs = .int .i64 k :: .int .i64 x :: .string s :: .slice A sub.length c :: cs' ∧ IsInt k ∧ IsInt x ∧ SeqK w S A sub.length c csub ∧ RepP w S sub csub ∧ RepP w S r cs'
theorem RepP.map {w w' : World} {S S' : Nat → Prop} (hk : ∀ p : Addr, S p.block → w'.cell? p = w.cell? p) (hS : ∀ b, S b → S' b) : ∀ {f : Flds} {cs : List Value}, RepP w S f cs → RepP w' S' f cs
 | .nil, _, h => h
 | .cons k x s sub r, cs, h => by
  obtain ⟨A, c, cs', csub, rfl, hk1, hx1, hs, hsub, hr⟩ := h
  exact ⟨A, c, cs', csub, rfl, hk1, hx1, hs.map hk hS, RepP.map hk hS hsub, RepP.map hk hS hr⟩
theorem RepP.imp {w : World} {S S' : Nat → Prop} {f : Flds} {cs : List Value} (h : RepP w S f cs) (hS : ∀ b, S b → S' b) : RepP w S' f cs := h.map (fun _ _ => rfl) hS
theorem RepP.length {w : World} {S : Nat → Prop} : ∀ {f : Flds} {cs : List Value}, RepP w S f cs → cs.length = f.length * 4
 | .nil, _, h => by cases h; rfl
 | .cons k x s sub r, cs, h => by
  obtain ⟨A, c, cs', csub, rfl, _, _, _, _, hr⟩ := h
  have := RepP.length hr
  simp only [List.length_cons, Flds.length, this]; omega
theorem RepP.append {w : World} {S : Nat → Prop} : ∀ {f g : Flds} {cs ds : List Value}, RepP w S f cs → RepP w S g ds → RepP w S (f.append g) (cs ++ ds)
 | .nil, _, _, _, h, k => by cases h; exact k
 | .cons k x s sub r, g, cs, ds, h, hg => by
  obtain ⟨A, c, cs', csub, rfl, hk1, hx1, hs, hsub, hr⟩ := h
  exact ⟨A, c, cs' ++ ds, csub, rfl, hk1, hx1, hs, hsub, RepP.append hr hg⟩
abbrev RepF (w : World) (B : Nat) (f : Flds) (cs : List Value) : Prop := RepP w (fun b => b < B) f cs
theorem RepF.keep {w w' : World} {B : Nat} {f : Flds} {cs : List Value} (h : RepF w B f cs) (hk : ∀ p : Addr, p.block < B → w'.cell? p = w.cell? p) : RepF w' B f cs := RepP.map hk (fun _ hb => hb) h
theorem RepF.below {w w' : World} {B : Nat} {f : Flds} {cs : List Value} (h : RepF w B f cs) (hb : Below B w w') : RepF w' B f cs := h.keep fun _ hp => hb.cell hp
theorem RepF.more {w : World} {B B' : Nat} {f : Flds} {cs : List Value} (h : RepF w B f cs) (hB : B ≤ B') : RepF w B' f cs := h.imp fun _ hb => Nat.lt_of_lt_of_le hb hB
theorem RepF.length {w : World} {B : Nat} : ∀ {f : Flds} {cs : List Value}, RepF w B f cs → cs.length = f.length * 4
 | .nil, _, h => by cases h; rfl
 | .cons k x s sub r, cs, h => by
  obtain ⟨A, c, cs', csub, rfl, _, _, _, _, hr⟩ := h
  have := RepF.length hr
  simp only [List.length_cons, Flds.length, this]; omega
theorem RepF.at_ {w : World} {B : Nat} : ∀ {f : Flds} {cs : List Value} {i : Nat} {k x : Int} {s : ByteArray} {sub : Flds}, RepF w B f cs → f.get? i = some (k, x, s, sub) →
  ∃ A c csub, cs[i * 4]? = some (.int .i64 k) ∧ cs[i * 4 + 1]? = some (.int .i64 x) ∧ cs[i * 4 + 2]? = some (.string s) ∧ cs[i * 4 + 3]? = some (.slice A sub.length c) ∧ IsInt k ∧ IsInt x ∧
   Seq w B 4 A sub.length csub ∧ RepF w B sub csub
 | .nil, _, _, _, _, _, _, _, h => by simp [Flds.get?] at h
 | .cons k x s sub r, cs, 0, _, _, _, _, hR, h => by
  simp only [Flds.get?, Option.some.injEq, Prod.mk.injEq] at h
  obtain ⟨rfl, rfl, rfl, rfl⟩ := h
  obtain ⟨A, c, cs', csub, rfl, hk1, hx1, hs, hsub, hr⟩ := hR
  exact ⟨A, c, csub, rfl, rfl, rfl, rfl, hk1, hx1, hs.1, hsub⟩
 | .cons k x s sub r, cs, i + 1, _, _, _, _, hR, h => by
  obtain ⟨A, c, cs', csub, rfl, _, _, _, _, hr⟩ := hR
  obtain ⟨A, c, csub, h1, h2, h3, h4, h5⟩ := RepF.at_ (i := i) hr h
  refine ⟨A, c, csub, ?_, ?_, ?_, ?_, h5⟩
  ·rw [show (i + 1) * 4 = i * 4 + 1 + 1 + 1 + 1 from by omega]; simpa using h1
  ·rw [show (i + 1) * 4 + 1 = i * 4 + 1 + 1 + 1 + 1 + 1 from by omega]; simpa using h2
  ·rw [show (i + 1) * 4 + 2 = i * 4 + 2 + 1 + 1 + 1 + 1 from by omega]; simpa using h3
  ·rw [show (i + 1) * 4 + 3 = i * 4 + 3 + 1 + 1 + 1 + 1 from by omega]; simpa using h4
def encs : Flds → List UInt8
 | .nil => []
 | .cons k x s sub r => (if k = 0 then 0 :: Lib.uvarint (Lib.zigzag x) else if k = 1 then 1 :: (Lib.uvarint s.size ++ s.data.toList) else 2 :: (Lib.uvarint sub.length ++ encs sub)) ++ encs r
def enc1 (k x : Int) (s : ByteArray) (sub : Flds) : List UInt8 := if k = 0 then 0 :: Lib.uvarint (Lib.zigzag x) else if k = 1 then 1 :: (Lib.uvarint s.size ++ s.data.toList) else 2 :: (Lib.uvarint sub.length ++ encs sub)
theorem encs_cons (k x : Int) (s : ByteArray) (sub r : Flds) : encs (.cons k x s sub r) = enc1 k x s sub ++ encs r := rfl
def Fine (d : Nat) (f : Flds) : Prop := vld d f = 0
theorem Fine.one {d : Nat} : ∀ {f : Flds} {i : Nat} {k x : Int} {s : ByteArray} {sub : Flds}, Fine d f → f.get? i = some (k, x, s, sub) → vone d k x s sub = 0
 | .nil, _, _, _, _, _, _, h => by simp [Flds.get?] at h
 | .cons k x s sub r, 0, _, _, _, _, hf, h => by
  simp only [Flds.get?, Option.some.injEq, Prod.mk.injEq] at h
  obtain ⟨rfl, rfl, rfl, rfl⟩ := h
  unfold Fine at hf
  rw [vld_cons] at hf
  split at hf
  ·assumption
  ·exact hf
 | .cons k x s sub r, i + 1, _, _, _, _, hf, h => by
  unfold Fine at hf
  rw [vld_cons] at hf
  split at hf
  ·exact Fine.one (f := r) hf h
  ·contradiction
theorem vone_fine {d : Nat} {k x : Int} {s : ByteArray} {sub : Flds} (h : vone d k x s sub = 0) : d ≤ 128 ∧ clean k x s sub = true ∧ Fine (d + 1) sub := by
 unfold vone at h
 split at h
 ·cases h
 ·split at h
  ·cases h
  ·exact ⟨by omega, by simpa using ‹¬ clean k x s sub = false›, h⟩
theorem clean_kind {k x : Int} {s : ByteArray} {sub : Flds} (h : clean k x s sub = true) : k = 0 ∨ k = 1 ∨ k = 2 := by
 unfold clean at h
 by_cases h0 : k = 0
 ·exact .inl h0
 ·by_cases h1 : k = 1
  ·exact .inr (.inl h1)
  ·by_cases h2 : k = 2
   ·exact .inr (.inr h2)
   ·simp [h0, h1, h2] at h
theorem enc1_le {k x : Int} {s : ByteArray} {sub : Flds} (hx : IsInt x) (hs : s.size < 18446744073709551616) (hn : sub.length < 18446744073709551616) : (enc1 k x s sub).length ≤ 11 + s.size + (encs sub).length := by
 unfold enc1
 have h1 := Lib.uvarint_length64 (Lib.zigzag_lt hx.1 hx.2)
 have h2 := Lib.uvarint_length64 hs
 have h3 := Lib.uvarint_length64 hn
 have h4 : s.data.toList.length = s.size := by simp
 repeat' split
 all_goals simp only [List.length_cons, List.length_append, h4]
 all_goals omega
theorem encs_le {w : World} {B : Nat} : ∀ {f : Flds} {cs : List Value}, RepF w B f cs → f.size < 18446744073709551616 → (encs f).length ≤ 11 * f.size
 | .nil, _, _, _ => by simp [encs]
 | .cons k x s sub r, cs, h, hsz => by
  obtain ⟨A, c, cs', csub, rfl, hk, hx, hs, hsub, hr⟩ := h
  simp only [Flds.size] at hsz ⊢
  have hl := Flds.length_le_size sub
  have h1 := encs_le hsub (by omega)
  have h2 := encs_le hr (by omega)
  have h3 := enc1_le (k := k) (s := s) (sub := sub) hx (by omega) (by omega)
  rw [encs_cons, List.length_append]
  omega
def Flds.take : Flds → Nat → Flds
 | _, 0 => nil
 | nil, _ + 1 => nil
 | cons k x s sub r, i + 1 => cons k x s sub (r.take i)
theorem take_all : ∀ (f : Flds) (i : Nat), f.length ≤ i → f.take i = f
 | .nil, 0, _ => rfl
 | .nil, _ + 1, _ => rfl
 | .cons k x s sub r, 0, h => by simp [Flds.length] at h
 | .cons k x s sub r, i + 1, h => by
  simp only [Flds.length] at h
  simp only [Flds.take]
  rw [take_all r i (by omega)]
theorem take_zero (f : Flds) : f.take 0 = .nil := by cases f <;> rfl
theorem encs_take : ∀ {f : Flds} {i : Nat} {k x : Int} {s : ByteArray} {sub : Flds}, f.get? i = some (k, x, s, sub) → encs (f.take (i + 1)) = encs (f.take i) ++ enc1 k x s sub
 | .nil, i, _, _, _, _, h => by simp [Flds.get?] at h
 | .cons k x s sub r, 0, _, _, _, _, h => by
  simp only [Flds.get?, Option.some.injEq, Prod.mk.injEq] at h
  obtain ⟨rfl, rfl, rfl, rfl⟩ := h
  simp only [Flds.take, take_zero]
  rw [encs_cons]
  simp [encs]
 | .cons k x s sub r, i + 1, _, _, _, _, h => by
  simp only [Flds.take]
  rw [encs_cons, encs_cons, encs_take (f := r) h, List.append_assoc]
theorem encs_take_le : ∀ (f : Flds) (i : Nat), (encs (f.take i)).length ≤ (encs f).length
 | f, 0 => by rw [take_zero]; simp [encs]
 | .nil, _ + 1 => by simp [Flds.take]
 | .cons k x s sub r, i + 1 => by
  simp only [Flds.take]
  rw [encs_cons, encs_cons, List.length_append, List.length_append]
  have := encs_take_le r i
  omega
theorem repF_one {w : World} {B : Nat} : ∀ {f : Flds} {cs : List Value}, RepF w B f cs → ∀ u ∈ cs, u.oneCell' = true
 | .nil, _, h => by cases h; intro u hu; cases hu
 | .cons k x s sub r, cs, h => by
  obtain ⟨A, c, cs', csub, rfl, _, _, _, _, hr⟩ := h
  intro u hu
  simp only [List.mem_cons] at hu
  rcases hu with rfl | rfl | rfl | rfl | hu
  ·rfl
  ·rfl
  ·rfl
  ·rfl
  ·exact repF_one hr u hu
def Flds.fix : Flds → Nat → Flds
 | f, 0 => f
 | nil, _ + 1 => nil
 | cons k x s sub r, i + 1 => if vone 1 k x s sub = 0 then cons k x s sub (r.fix i) else cons 0 0 ByteArray.empty nil (r.fix i)
theorem fix_zero (f : Flds) : f.fix 0 = f := by cases f <;> rfl
theorem fix_length : ∀ (f : Flds) (i : Nat), (f.fix i).length = f.length
 | f, 0 => by rw [fix_zero]
 | .nil, _ + 1 => rfl
 | .cons k x s sub r, i + 1 => by
  simp only [Flds.fix]
  split <;> simp only [Flds.length, fix_length r i]
theorem fix_size : ∀ (f : Flds) (i : Nat), (f.fix i).size ≤ f.size
 | f, 0 => by rw [fix_zero]; exact Nat.le_refl _
 | .nil, _ + 1 => Nat.le_refl _
 | .cons k x s sub r, i + 1 => by
  have := fix_size r i
  have h0 : ByteArray.empty.size = 0 := rfl
  have h1 := Flds.length_le_size sub
  simp only [Flds.fix]
  split
  ·simp only [Flds.size]; omega
  ·simp only [Flds.size, h0]; omega
theorem fix_get : ∀ (f : Flds) (i j : Nat), i ≤ j → (f.fix i).get? j = f.get? j
 | f, 0, j, _ => by rw [fix_zero]
 | .nil, _ + 1, _, _ => rfl
 | .cons k x s sub r, i + 1, 0, h => by omega
 | .cons k x s sub r, i + 1, j + 1, h => by
  simp only [Flds.fix]
  split <;> simp only [Flds.get?, fix_get r i j (by omega)]
theorem fix_keep : ∀ (f : Flds) (i : Nat) {k x : Int} {s : ByteArray} {sub : Flds}, f.get? i = some (k, x, s, sub) → vone 1 k x s sub = 0 → f.fix (i + 1) = f.fix i
 | .nil, i, _, _, _, _, h, _ => by simp [Flds.get?] at h
 | .cons k x s sub r, 0, _, _, _, _, h, hv => by
  simp only [Flds.get?, Option.some.injEq, Prod.mk.injEq] at h
  obtain ⟨rfl, rfl, rfl, rfl⟩ := h
  simp only [Flds.fix, fix_zero, if_pos hv]
 | .cons k x s sub r, i + 1, _, _, _, _, h, hv => by
  have := fix_keep r i h hv
  simp only [Flds.fix, this]
theorem empty_toList : ByteArray.empty.toList = [] := by rw [ByteArray.toList_eq]; rfl
theorem vone_zero : vone 1 0 0 ByteArray.empty .nil = 0 := by simp [vone, clean, Flds.length, vld]
theorem fix_fine : ∀ (f : Flds) (i : Nat), f.length ≤ i → Fine 1 (f.fix i)
 | .nil, 0, _ => rfl
 | .nil, _ + 1, _ => rfl
 | .cons k x s sub r, 0, h => by simp [Flds.length] at h
 | .cons k x s sub r, i + 1, h => by
  simp only [Flds.length] at h
  have := fix_fine r i (by omega)
  simp only [Flds.fix]
  unfold Fine at this ⊢
  split
  ·rename_i hv
   rw [vld_cons, if_pos hv]; exact this
  ·rw [vld_cons, if_pos vone_zero]; exact this
theorem repF_zero {w : World} {B : Nat} : ∀ (f : Flds) (i : Nat) {cs : List Value} {k x : Int} {s : ByteArray} {sub : Flds}, RepF w B (f.fix i) cs → f.get? i = some (k, x, s, sub) → vone 1 k x s sub ≠ 0 →
  RepF w B (f.fix (i + 1)) ((((cs.set (i * 4) (.int .i64 0)).set (i * 4 + 1) (.int .i64 0)).set (i * 4 + 2) (.string ByteArray.empty)).set (i * 4 + 3) (.slice none 0 0))
 | .nil, i, _, _, _, _, _, _, h, _ => by simp [Flds.get?] at h
 | .cons k x s sub r, 0, cs, _, _, _, _, hR, h, hv => by
  simp only [Flds.get?, Option.some.injEq, Prod.mk.injEq] at h
  obtain ⟨rfl, rfl, rfl, rfl⟩ := h
  rw [fix_zero] at hR
  obtain ⟨A, c, cs', csub, rfl, _, _, _, _, hr⟩ := hR
  simp only [Flds.fix, fix_zero, if_neg hv]
  refine ⟨none, 0, cs', [], rfl, ?_, ?_, ⟨Seq.nil_, Nat.le_refl _⟩, rfl, hr⟩ <;> exact ⟨by omega, by omega⟩
 | .cons k x s sub r, i + 1, cs, _, _, _, _, hR, h, hv => by
  simp only [Flds.fix] at hR ⊢
  have e0 : (i + 1) * 4 = i * 4 + 1 + 1 + 1 + 1 := by omega
  have e1 : (i + 1) * 4 + 1 = i * 4 + 1 + 1 + 1 + 1 + 1 := by omega
  have e2 : (i + 1) * 4 + 2 = i * 4 + 2 + 1 + 1 + 1 + 1 := by omega
  have e3 : (i + 1) * 4 + 3 = i * 4 + 3 + 1 + 1 + 1 + 1 := by omega
  split at hR
  all_goals
   rename_i hc
   simp only [hc, if_true, if_false]
   obtain ⟨A, c, cs', csub, rfl, hk, hx, hs, hsub, hr⟩ := hR
   have := repF_zero r i hr h hv
   rw [e1, e2, e3, e0]
   exact ⟨A, c, _, csub, rfl, hk, hx, hs, hsub, this⟩
end Go.Proofs.YtgdapkglofchjaaGreatDoor
namespace Go.Proofs.YtgdapkglofchjaaGreatDoor
abbrev FV := Int × Int × ByteArray × Flds
def one (sub : List UInt8 → Nat ⊕ (Flds × List UInt8)) (c : UInt8) (r : List UInt8) : Nat ⊕ (FV × List UInt8) :=
 if c.toNat = 0 then (if (takeI r).2.2 ≠ 0 then .inl (takeI r).2.2 else .inr ((0, (takeI r).1, ByteArray.empty, .nil), r.drop (takeI r).2.1))
 else if c.toNat = 1 then (if (takeS r).2.2 ≠ 0 then .inl (takeS r).2.2 else .inr ((1, 0, ⟨(takeS r).1.toArray⟩, .nil), r.drop (takeS r).2.1))
 else match sub r with
  | .inl e => .inl e
  | .inr (f, r') => .inr ((2, 0, ByteArray.empty, f), r')
def step (o : UInt8 → List UInt8 → Nat ⊕ (FV × List UInt8)) (deep : Bool) (l : List UInt8) : Nat ⊕ (FV × List UInt8) :=
 if deep then .inl 13 else match l with
  | [] => .inl 4
  | c :: r => if 2 < c.toNat then .inl 5 else o c r
def many (o : UInt8 → List UInt8 → Nat ⊕ (FV × List UInt8)) (deep : Bool) : Nat → List UInt8 → Nat ⊕ (Flds × List UInt8)
  | 0, l => .inr (.nil, l)
  | n + 1, l => match step o deep l with
    | .inl e => .inl e
    | .inr (x, r) => match many o deep n r with
      | .inl e => .inl e
      | .inr (f, r') => .inr (.cons x.1 x.2.1 x.2.2.1 x.2.2.2 f, r')
def rd : Nat → Nat → List UInt8 → Nat ⊕ (Flds × List UInt8)
 | 0, _, _ => .inl 0
 | F + 1, d, l => if (takeU l).2.2 ≠ 0 then .inl (takeU l).2.2 else many (one (rd F (d + 1))) (decide (128 < d)) (takeU l).1 (l.drop (takeU l).2.1)
def fieldsS (l : List UInt8) : Nat ⊕ Flds :=
 match rd (l.length + 1) 1 l with
 | .inl e => .inl e
 | .inr (f, r) => if r.length ≠ 0 then .inl 5 else .inr f
def ahead (f : Flds) : Nat ⊕ (Flds × List UInt8) → Nat ⊕ (Flds × List UInt8)
 | .inl e => .inl e
 | .inr (g, r) => .inr (f.append g, r)
theorem append_nil : ∀ f : Flds, f.append .nil = f
 | .nil => rfl
 | .cons k x s sub r => by simp only [Flds.append, append_nil r]
theorem append_assoc : ∀ f g h : Flds, (f.append g).append h = f.append (g.append h)
 | .nil, _, _ => rfl
 | .cons k x s sub r, g, h => by simp only [Flds.append, append_assoc r g h]
theorem many_step {o : UInt8 → List UInt8 → Nat ⊕ (FV × List UInt8)} {deep : Bool} {n : Nat} {l r : List UInt8} {f : Flds} {x : FV} (h : step o deep l = .inr (x, r)) :
  ahead f (many o deep (n + 1) l) = ahead (f.append (.cons x.1 x.2.1 x.2.2.1 x.2.2.2 .nil)) (many o deep n r) := by
 simp only [many, h]
 cases many o deep n r with
 | inl e => rfl
 | inr p =>
  obtain ⟨g, r'⟩ := p
  simp only [ahead, append_assoc, Flds.append]
theorem many_stop {o : UInt8 → List UInt8 → Nat ⊕ (FV × List UInt8)} {deep : Bool} {n : Nat} {l : List UInt8} {f : Flds} {e : Nat} (h : step o deep l = .inl e) :
  ahead f (many o deep (n + 1) l) = .inl e := by
 simp only [many, h, ahead]
def Good {α : Type} (l : List UInt8) : Nat ⊕ (α × List UInt8) → Prop
 | .inl e => e ≠ 0 ∧ e ≤ 13
 | .inr (_, r) => ∃ k, 1 ≤ k ∧ k ≤ l.length ∧ r = l.drop k
def Good0 {α : Type} (l : List UInt8) : Nat ⊕ (α × List UInt8) → Prop
 | .inl e => e ≠ 0 ∧ e ≤ 13
 | .inr (_, r) => ∃ k, k ≤ l.length ∧ r = l.drop k
theorem tu_err : ∀ (l : List UInt8) (i acc : Nat), (tu i acc l).2.2 ≤ 5
 | [], _, _ => by simp [tu]
 | c :: r, i, acc => by
  unfold tu
  split
  ·simp
  ·split
   ·split <;> simp
   ·exact tu_err r (i + 1) _
theorem takeU_err (l : List UInt8) : (takeU l).2.2 ≤ 5 := tu_err l 0 0
theorem takeS_err (l : List UInt8) : (takeS l).2.2 ≤ 5 := by
 have := takeU_err l
 unfold takeS
 split
 ·exact this
 ·split <;> simp
theorem takeS_len {l : List UInt8} (h : (takeS l).2.2 = 0) : 1 ≤ (takeS l).2.1 ∧ (takeS l).2.1 ≤ l.length := by
 unfold takeS at h ⊢
 split at h
 ·contradiction
 ·rename_i h1
  have h1 : (takeU l).2.2 = 0 := by omega
  have := takeU_len h1
  split at h
  ·simp at h
  ·rename_i h2
   rw [if_neg (by omega), if_neg h2]
   dsimp only
   omega
theorem one_good {sub : List UInt8 → Nat ⊕ (Flds × List UInt8)} {c : UInt8} {r : List UInt8} (hs : Good r (sub r)) : Good r (one sub c r) := by
 unfold one
 split
 ·split
  ·rename_i h
   have := takeU_err r
   exact ⟨h, by unfold takeI; dsimp only; omega⟩
  ·rename_i h
   have h : (takeU r).2.2 = 0 := by unfold takeI at h; dsimp only at h; omega
   exact ⟨_, (takeU_len h).1, (takeU_len h).2, rfl⟩
 ·split
  ·split
   ·rename_i h
    have := takeS_err r
    exact ⟨h, by omega⟩
   ·rename_i h
    have h : (takeS r).2.2 = 0 := by omega
    exact ⟨_, (takeS_len h).1, (takeS_len h).2, rfl⟩
  ·revert hs
   cases sub r with
   | inl e => exact id
   | inr p => obtain ⟨f, r'⟩ := p; exact id
theorem step_good {o : UInt8 → List UInt8 → Nat ⊕ (FV × List UInt8)} {deep : Bool} {l : List UInt8} (ho : ∀ c r, r.length < l.length → Good r (o c r)) : Good l (step o deep l) := by
 unfold step
 split
 ·exact ⟨by omega, by omega⟩
 ·cases l with
  | nil => exact ⟨by omega, by omega⟩
  | cons c r =>
   dsimp only
   split
   ·exact ⟨by omega, by omega⟩
   ·have := ho c r (by simp)
    revert this
    cases o c r with
    | inl e => exact id
    | inr p =>
     obtain ⟨x, r'⟩ := p
     rintro ⟨k, h1, h2, rfl⟩
     exact ⟨k + 1, by omega, by simp; omega, rfl⟩
theorem many_good {o : UInt8 → List UInt8 → Nat ⊕ (FV × List UInt8)} {deep : Bool} : ∀ (n : Nat) (l : List UInt8), (∀ c r, r.length < l.length → Good r (o c r)) → Good0 l (many o deep n l)
 | 0, l, _ => ⟨0, by omega, rfl⟩
 | n + 1, l, ho => by
  have hst := step_good (deep := deep) ho
  unfold many
  revert hst
  cases step o deep l with
  | inl e => exact id
  | inr p =>
   obtain ⟨x, r⟩ := p
   rintro ⟨k, h1, h2, rfl⟩
   have ih := many_good (o := o) (deep := deep) n (l.drop k) (fun c r hr => ho c r (by simp at hr; omega))
   dsimp only
   revert ih
   cases many o deep n (l.drop k) with
   | inl e => exact id
   | inr q =>
    obtain ⟨f, r'⟩ := q
    rintro ⟨j, h3, rfl⟩
    exact ⟨k + j, by simp at h3; omega, by rw [List.drop_drop]⟩
theorem rd_good : ∀ (F d : Nat) (l : List UInt8), l.length < F → Good l (rd F d l)
 | 0, _, _, h => by omega
 | F + 1, d, l, h => by
  unfold rd
  split
  ·rename_i he
   have := takeU_err l
   exact ⟨he, by omega⟩
  ·rename_i he
   have hk := takeU_len (l := l) (by omega)
   have := many_good (o := one (rd F (d + 1))) (deep := decide (128 < d)) (takeU l).1 (l.drop (takeU l).2.1) (fun c r hr => one_good (rd_good F (d + 1) r (by simp at hr; omega)))
   revert this
   cases many (one (rd F (d + 1))) (decide (128 < d)) (takeU l).1 (l.drop (takeU l).2.1) with
   | inl e => exact id
   | inr q =>
    obtain ⟨f, r'⟩ := q
    rintro ⟨j, h3, rfl⟩
    exact ⟨(takeU l).2.1 + j, by omega, by simp at h3; omega, by rw [List.drop_drop]⟩
end Go.Proofs.YtgdapkglofchjaaGreatDoor
namespace Go.Proofs.YtgdapkglofchjaaGreatDoor
open Go.RowKit
def RdOk {α : Type} (r : Rd α) : Prop := ∀ (w w' : World) (S S' : Nat → Prop) (x : α) (cs : List Value), (∀ p : Addr, S p.block → w'.cell? p = w.cell? p) → (∀ b, S b → S' b) → r w S x cs → r w' S' x cs
abbrev Beh (w : World) (v : Value) (b : Nat) : Prop := b < w.heap.size ∧ some b ≠ v.ownBlock
def OwnR {α : Type} (r : Rd α) (sz : Nat) (w0 w : World) (e : TypeId) (v : Value) (l : List α) : Prop :=
 ∃ cs, Own w0 w e sz v l.length cs ∧ RList r sz w (Beh w v) l cs
section
variable {α : Type} {r : Rd α} {sz : Nat} {w0 w w' wa : World} {e : TypeId} {v v' : Value} {l m : List α}
theorem OwnR.nil (w : World) (e : TypeId) : OwnR r sz w w e (.slice none 0 0) [] := ⟨[], Own.nil_ w e sz, rfl⟩
theorem OwnR.bel (h : OwnR r sz w0 w e v l) : Below w0.heap.size w0 w := by
 obtain ⟨_, h, _⟩ := h
 exact h.2
theorem OwnR.below (hr : RdOk r) (h : OwnR r sz w0 w e v l) (hb : Below w.heap.size w w') : OwnR r sz w0 w' e v l := by
 obtain ⟨cs, h1, h2⟩ := h
 exact ⟨cs, h1.below hb, RList.map (fun x c hc => hr _ _ _ _ x c (fun p hp => hb.cell hp.1) (fun b hp => ⟨Nat.lt_of_lt_of_le hp.1 hb.size, hp.2⟩) hc) h2⟩
theorem OwnR.form (h : OwnR r sz w0 w e v l) : ∃ A c, v = .slice A l.length c := by
 obtain ⟨_, h, _⟩ := h
 exact h.slice_form
theorem OwnR.grew (hr : RdOk r) {cs news : List Value} (hO : Own w0 w' e sz v' (l ++ m).length (cs ++ news)) (hg : Grew wa w' v v') (h1 : RList r sz wa (Beh wa v) l cs) (h2 : RList r sz wa (Beh wa v) m news) : OwnR r sz w0 w' e v' (l ++ m) := by
 refine ⟨cs ++ news, hO, RList.map (fun x c hc => hr _ _ _ _ x c (fun p hp => hg.cell hp.1 hp.2) (fun b hb => ⟨Nat.lt_of_lt_of_le hb.1 hg.by_.size, hg.ne hb.1 hb.2⟩) hc) (h1.append h2)⟩
theorem RList.weak (hr : RdOk r) {S S' : Nat → Prop} {cs : List Value} (hS : ∀ b, S b → S' b) (h : RList r sz w S l cs) : RList r sz w S' l cs := RList.map (fun x c hc => hr _ _ _ _ x c (fun _ _ => rfl) hS hc) h
theorem OwnR.slice (hr : RdOk r) {A : Option Addr} {c : Nat} (h : OwnR r sz w0 w e (.slice A l.length c) l) : RSlice r sz w (fun b => b < w.heap.size) A l.length c l := by
 obtain ⟨cs, h1, h2⟩ := h
 refine ⟨rfl, h1.cap_le, ?_, cs, h1.seq, h2.weak hr fun b hb => hb.1⟩
 intro hA
 rcases h1.1.2 with ⟨hv, h0⟩ | ⟨g, cap, cur, hv, _⟩
 ·injection hv
 ·injection hv with h3; rw [hA] at h3; cases h3
theorem RSlice.below (hr : RdOk r) {B : Nat} {A : Option Addr} {n c : Nat} (h : RSlice r sz w (fun b => b < B) A n c l) (hb : Below B w w') : RSlice r sz w' (fun b => b < B) A n c l := by
 obtain ⟨h1, h2, h3, cs, h4, h5⟩ := h
 exact ⟨h1, h2, h3, cs, Seq.below h4 hb, RList.map (fun x c hc => hr _ _ _ _ x c (fun p hp => hb.cell hp) (fun b hp => hp) hc) h5⟩
theorem RSlice.at_ {S : Nat → Prop} {A : Option Addr} {n c i : Nat} {x : α} (h : RSlice r sz w S A n c l) (hx : l[i]? = some x) :
  ∃ b o c1, A = some ⟨b, o, none⟩ ∧ S b ∧ c1.length = sz ∧ r w S x c1 ∧ ∀ j u, c1[j]? = some u → w.cell? ⟨b, o + i * sz + j, none⟩ = some u := by
 obtain ⟨h1, h2, h3, cs, h4, h5⟩ := h
 have hi := (List.getElem?_eq_some_iff.1 hx).1
 obtain ⟨b, o, rfl, hb, hc⟩ := h4.2 (by omega)
 obtain ⟨c1, g1, g2, g3⟩ := h5.at_ hx
 exact ⟨b, o, c1, rfl, hb, g1, g2, fun j u hu => by rw [Nat.add_assoc]; exact hc _ u (g3 j u hu)⟩
theorem RList.drop_ : ∀ {l : List α} {cs : List Value} {S : Nat → Prop} (i : Nat), RList r sz w S l cs → RList r sz w S (l.drop i) (cs.drop (i * sz))
 | l, cs, S, 0, h => by simpa using h
 | [], cs, S, i + 1, h => by cases h; simp [RList]
 | x :: l, cs, S, i + 1, h => by
  obtain ⟨c1, c2, rfl, h1, _, h3⟩ := h
  have := RList.drop_ i h3
  rw [List.drop_succ_cons]
  have e : (c1 ++ c2).drop ((i + 1) * sz) = c2.drop (i * sz) := by
   rw [List.drop_append, Nat.add_mul, Nat.one_mul, List.drop_of_length_le (by omega), List.nil_append, h1]
   congr 1
   omega
  rw [e]
  exact this
theorem RList.take_ : ∀ {l : List α} {cs : List Value} {S : Nat → Prop} (i : Nat), RList r sz w S l cs → RList r sz w S (l.take i) (cs.take (i * sz))
 | l, cs, S, 0, h => by simp [RList]
 | [], cs, S, i + 1, h => by cases h; simp [RList]
 | x :: l, cs, S, i + 1, h => by
  obtain ⟨c1, c2, rfl, h1, h2, h3⟩ := h
  have := RList.take_ i h3
  rw [List.take_succ_cons]
  have e : (c1 ++ c2).take ((i + 1) * sz) = c1 ++ c2.take (i * sz) := by
   rw [List.take_append, Nat.add_mul, Nat.one_mul, List.take_of_length_le (by omega), h1]
   congr 2
   omega
  rw [e]
  exact ⟨c1, _, rfl, h1, h2, this⟩
theorem RList.set_ {x : α} {S : Nat → Prop} {cs ds : List Value} {i : Nat} (h : RList r sz w S l cs) (hi : i < l.length) (hx : r w S x ds) (hd : ds.length = sz) : RList r sz w S (l.set i x) (cs.take (i * sz) ++ ds ++ cs.drop ((i + 1) * sz)) := by
 rw [List.set_eq_take_append_cons_drop, if_pos hi]
 have h1 := h.take_ i
 have h2 := h.drop_ (i + 1)
 have h3 : RList r sz w S ([x] ++ l.drop (i + 1)) (ds ++ cs.drop ((i + 1) * sz)) := (RList.one hx hd).append h2
 have := h1.append h3
 rw [← List.append_assoc (List.take (i * sz) cs)] at this
 exact this
end
structure CellsAt (w : World) (g : Nat) (cs : List Value) : Prop where
 lt : g < w.heap.size
 cell : ∀ (j : Nat) (u : Value), cs[j]? = some u → w.cell? ⟨g, j, none⟩ = some u
 fr : ∀ j, w.frozen? ⟨g, j, none⟩ = false
section
variable {w w' : World} {g : Nat} {cs : List Value}
theorem CellsAt.kept (h : CellsAt w g cs) (hb : Below w.heap.size w w') : CellsAt w' g cs :=
 ⟨Nat.lt_of_lt_of_le h.lt hb.size, fun j u hu => (hb.cell (p := ⟨g, j, none⟩) h.lt).trans (h.cell j u hu), fun j => (hb.frozen (p := ⟨g, j, none⟩) h.lt).trans (h.fr j)⟩
theorem CellsAt.grow {r : Nat} (h : CellsAt w g cs) (hg : w.grownBy w' (some r)) (hne : g ≠ r) : CellsAt w' g cs := by
 have hb := hg.block g h.lt (fun e => hne (by injection e))
 exact ⟨Nat.lt_of_lt_of_le h.lt hg.size, fun j u hu => (World.cell?_of_block (a := ⟨g, j, none⟩) hb).trans (h.cell j u hu), fun j => (World.frozen?_of_block (a := ⟨g, j, none⟩) hb).trans (h.fr j)⟩
theorem CellsAt.set (h : CellsAt w g cs) (j : Nat) (v : Value) : CellsAt (w.setCell ⟨g, j, none⟩ v) g (cs.set j v) := by
 refine ⟨by simpa [World.setCell] using h.lt, fun i u hu => ?_, fun i => by rw [World.frozen?_setCell]; exact h.fr i⟩
 rw [List.getElem?_set] at hu
 split at hu
 ·rename_i hij
  subst hij
  split at hu
  ·rename_i hl
   cases hu
   exact World.cell?_setCell_same w ⟨g, j, none⟩ v (h.cell j _ (List.getElem?_eq_getElem hl))
  ·cases hu
 ·rename_i hij
  rw [World.cell?_setCell_other w _ _ _ (by intro e; injection e with _ e; exact hij e)]
  exact h.cell i u hu
theorem CellsAt.drew (h : CellsAt w g cs) : CellsAt w.drew g cs := ⟨h.lt, h.cell, h.fr⟩
theorem CellsAt.new (w : World) (cs : Array Value) (t : TypeId) : CellsAt (w.alloc (.cells cs t)) w.heap.size cs.toList :=
 ⟨by simp, fun j u hu => by
  have : cs[j]? = some u := by simpa using hu
  simp [go_sem, this], fun j => by simp [go_sem]⟩
theorem growBelow {row : Option Nat} (h : Below w.heap.size w w') : w.grownBy w' row := ⟨h.os, h.tape, h.output, h.size, fun k hk _ => h.block k hk⟩
end
structure OwnB (w0 w : World) (L : List (Nat × List Value)) : Prop where
 below : Below w0.heap.size w0 w
 all : ∀ (i b : Nat) (cs : List Value), L[i]? = some (b, cs) → w0.heap.size ≤ b ∧ CellsAt w b cs
 ne : ∀ (i j b c : Nat) (x y : List Value), L[i]? = some (b, x) → L[j]? = some (c, y) → i ≠ j → b ≠ c
section
variable {w0 w w' : World} {L : List (Nat × List Value)}
theorem OwnB.refl (w : World) : OwnB w w [] := ⟨Below.refl _ _, fun i b cs h => (by simp at h), fun i j b c x y h => by simp at h⟩
theorem OwnB.of (h : Below w0.heap.size w0 w) : OwnB w0 w [] := ⟨h, fun i b cs h => (by simp at h), fun i j b c x y h => by simp at h⟩
theorem OwnB.kept (h : OwnB w0 w L) (hb : Below w.heap.size w w') : OwnB w0 w' L :=
 ⟨h.below.trans (hb.mono h.below.size), fun i b cs hi => ⟨(h.all i b cs hi).1, (h.all i b cs hi).2.kept hb⟩, h.ne⟩
theorem OwnB.push (h : OwnB w0 w L) {g : Nat} {cs : List Value} (hg : w0.heap.size ≤ g) (hc : CellsAt w g cs) (hne : ∀ (i b : Nat) (x : List Value), L[i]? = some (b, x) → b ≠ g) : OwnB w0 w ((g, cs) :: L) := by
 refine ⟨h.below, fun i b x hi => ?_, fun i j b c x y hi hj hij => ?_⟩
 ·cases i with
  | zero => simp at hi; obtain ⟨rfl, rfl⟩ := hi; exact ⟨hg, hc⟩
  | succ i => exact h.all i b x (by simpa using hi)
 ·cases i with
  | zero =>
   simp at hi
   obtain ⟨rfl, rfl⟩ := hi
   cases j with
   | zero => exact absurd rfl hij
   | succ j => exact (hne j c y (by simpa using hj)).symm
  | succ i =>
   cases j with
   | zero =>
    simp at hj
    obtain ⟨rfl, rfl⟩ := hj
    exact hne i b x (by simpa using hi)
   | succ j => exact h.ne i j b c x y (by simpa using hi) (by simpa using hj) (fun e => hij (by rw [e]))
theorem OwnB.new (h : OwnB w0 w L) (cs : Array Value) (t : TypeId) {g : Nat} (hg : g = w.heap.size := by simp) : OwnB w0 (w.alloc (.cells cs t)) ((g, cs.toList) :: L) := by
 subst hg
 exact (h.kept ((Below.refl _ _).alloc (Nat.le_refl _) _)).push h.below.size (CellsAt.new w cs t) fun i b x hi => Nat.ne_of_lt (h.all i b x hi).2.lt
theorem OwnB.store (h : OwnB w0 w L) (i : Nat) {g : Nat} {cs : List Value} (hi : L[i]? = some (g, cs)) (j : Nat) (v : Value) : OwnB w0 (w.setCell ⟨g, j, none⟩ v) (L.set i (g, cs.set j v)) := by
 obtain ⟨h1, h2⟩ := h.all i g cs hi
 refine ⟨h.below.setCell (p := ⟨g, j, none⟩) h1 v, fun k b x hk => ?_, fun k l b c x y hk hl hkl => ?_⟩
 ·rw [List.getElem?_set] at hk
  split at hk
  ·split at hk
   ·cases hk; exact ⟨h1, h2.set j v⟩
   ·cases hk
  ·rename_i hik
   obtain ⟨g1, g2⟩ := h.all k b x hk
   exact ⟨g1, g2.grow (Lib.grownBy_setB (World.grownBy.refl _ _) _ _) (fun e => h.ne i k g b cs x hi hk hik e.symm)⟩
 ·rw [List.getElem?_set] at hk hl
  have key : ∀ (k b : Nat) (x : List Value), (if i = k then if i < L.length then some (g, cs.set j v) else none else L[k]?) = some (b, x) → ∃ x', L[k]? = some (b, x') := by
   intro k b x hk
   split at hk
   ·rename_i hik
    subst hik
    split at hk
    ·cases hk; exact ⟨cs, hi⟩
    ·cases hk
   ·exact ⟨x, hk⟩
  obtain ⟨x', hk'⟩ := key k b x hk
  obtain ⟨y', hl'⟩ := key l c y hl
  exact h.ne k l b c x' y' hk' hl' hkl
theorem OwnB.c (h : OwnB w0 w L) (i j : Nat) {g : Nat} {cs : List Value} {u : Value} (hi : L[i]? = some (g, cs) := by rfl) (hj : cs[j]? = some u := by rfl) : w.cell? ⟨g, j, none⟩ = some u := (h.all i g cs hi).2.cell j u hj
theorem OwnB.fr (h : OwnB w0 w L) (i : Nat) {g : Nat} {cs : List Value} (hi : L[i]? = some (g, cs) := by rfl) : ∀ j, w.frozen? ⟨g, j, none⟩ = false := (h.all i g cs hi).2.fr
theorem OwnB.drop1 {p : Nat × List Value} (h : OwnB w0 w (p :: L)) : OwnB w0 w L :=
 ⟨h.below, fun i b cs hi => h.all (i + 1) b cs (by simpa using hi), fun i j b c x y hi hj hij => h.ne (i + 1) (j + 1) b c x y (by simpa using hi) (by simpa using hj) (by omega)⟩
theorem OwnB.drew (h : OwnB w0 w L) : OwnB w0 w.drew L := ⟨h.below.drew, fun i b cs hi => ⟨(h.all i b cs hi).1, (h.all i b cs hi).2.drew⟩, h.ne⟩
theorem OwnB.lt (h : OwnB w0 w L) (i : Nat) {g : Nat} {cs : List Value} (hi : L[i]? = some (g, cs) := by rfl) : g < w.heap.size := (h.all i g cs hi).2.lt
theorem OwnB.lo (h : OwnB w0 w L) (i : Nat) {g : Nat} {cs : List Value} (hi : L[i]? = some (g, cs) := by rfl) : w0.heap.size ≤ g := (h.all i g cs hi).1
end
theorem own_new {w w1 : World} {cs : Array Value} {t : TypeId} (h : w.alloc (.cells cs t) = w1) : OwnB w w1 [(w.heap.size, cs.toList)] := by rw [← h]; exact (OwnB.refl w).new cs _ (g := w.heap.size)
theorem own4 {w0 w : World} {g : Nat} {a b c d : Value} {L : List (Nat × List Value)} (h : OwnB w0 w ((g, [a, b, c, d]) :: L)) : w.cell? ⟨g, 0, none⟩ = some a ∧ w.cell? ⟨g, 1, none⟩ = some b ∧ w.cell? ⟨g, 2, none⟩ = some c ∧ w.cell? ⟨g, 3, none⟩ = some d ∧ ∀ j, w.frozen? ⟨g, j, none⟩ = false := ⟨h.c 0 0, h.c 0 1, h.c 0 2, h.c 0 3, h.fr 0⟩
theorem own6 {w0 w : World} {g : Nat} {a b c d e f : Value} {L : List (Nat × List Value)} (h : OwnB w0 w ((g, [a, b, c, d, e, f]) :: L)) : w.cell? ⟨g, 0, none⟩ = some a ∧ w.cell? ⟨g, 1, none⟩ = some b ∧ w.cell? ⟨g, 2, none⟩ = some c ∧ w.cell? ⟨g, 3, none⟩ = some d ∧ w.cell? ⟨g, 4, none⟩ = some e ∧ w.cell? ⟨g, 5, none⟩ = some f ∧ ∀ j, w.frozen? ⟨g, j, none⟩ = false := ⟨h.c 0 0, h.c 0 1, h.c 0 2, h.c 0 3, h.c 0 4, h.c 0 5, h.fr 0⟩
def RdOne {α : Type} (r : Rd α) : Prop := ∀ (w : World) (S : Nat → Prop) (x : α) (cs : List Value), r w S x cs → ∀ u ∈ cs, u.oneCell' = true
section
variable {P : Program} {ops : Array Oper} {rest : List Oper} {o : Oper} {a : Act} {Q : Exit → Act → World → Prop} {α : Type} {r : Rd α} {sz : Nat} {w0 w wb w' : World} {e : TypeId} {v : Value} {l m : List α} {A : Option Addr} {n c : Nat}
theorem wp_appR1 (hr : RdOk r) (H : OwnR r sz w0 w e v l) (hb : Below w.heap.size w wb) {x : α} {cs : Array Value} (hx : r wb (Beh wb v) x cs.toList) {t : TypeId} {z : Value} {bytes : Nat} (ht : P.underlying t = some (.slice e)) (hi : Info P e z sz bytes)
  (hbytes : (l.length + 1) * bytes ≤ 140737488355328)
  (h : ∀ v' w', OwnR r sz w0 w' e v' (l ++ [x]) → wpList P ops Q rest (a.put o.dst v') w')
  {s y : Operand} {g : Nat} (hgd : o.guard = none := by rfl) (ho : o.op = .call { callee := .builtin .append, args := #[s, y], argTypes := #[t, t] } := by rfl)
  (hs : a.eval s = v := by rfl) (hy : a.eval y = .slice (some ⟨g, 0, none⟩) 1 1 := by rfl) (hgs : g = wb.heap.size := by first | rfl | simp) (hzs : z.cells.size = sz := by rfl) (hsz : 0 < sz := by decide) (hby : 0 < bytes := by decide)
  (hcs : cs.size = sz := by rfl) (h1 : cs.toList.all Value.oneCell' = true := by rfl) :
  wpList P ops Q (o :: rest) a (wb.alloc (.cells cs e)) := by
 obtain ⟨ds, H1, H2⟩ := H.below hr hb
 have hba := (Below.refl wb.heap.size wb).alloc (Nat.le_refl _) (.cells cs e)
 have hlt : ∀ b, Beh wb v b → Beh (wb.alloc (.cells cs e)) v b := fun b hb => ⟨Nat.lt_of_lt_of_le hb.1 hba.size, hb.2⟩
 refine wp_app1 H1 ht hi hbytes (fun v' w' hO hg => ?_) hgd ho hs hy hgs hzs hsz hby hcs h1
 refine h v' w' (OwnR.grew hr (wa := wb.alloc (.cells cs e)) (by rw [List.length_append]; exact hO) hg (RList.map (fun x c hc => hr _ _ _ _ x c (fun p hp => hba.cell hp.1) hlt hc) H2) (RList.one (hr _ _ _ _ x _ (fun p hp => hba.cell hp.1) hlt hx) (by simpa using hcs)))
theorem RSlice.take (h : RSlice r sz w (fun b => b < w.heap.size) A n c l) {i : Nat} (hi : i ≤ n) : RSlice r sz w (fun b => b < w.heap.size) A i c (l.take i) := by
 obtain ⟨h1, h2, h3, cs, h4, h5⟩ := h
 refine ⟨by rw [List.length_take]; omega, by omega, h3, cs.take (i * sz), ⟨by rw [List.length_take, h4.1]; exact Nat.min_eq_left (Nat.mul_le_mul_right _ hi), fun hp => ?_⟩, h5.take_ i⟩
 obtain ⟨b, o, hA, hb, hcc⟩ := h4.2 (by omega)
 refine ⟨b, o, hA, hb, fun j u hu => hcc j u ?_⟩
 rw [List.getElem?_take] at hu
 split at hu
 ·exact hu
 ·cases hu
theorem RSlice.drop (h : RSlice r sz w (fun b => b < w.heap.size) A n c l) {i : Nat} (hi : i ≤ n) : RSlice r sz w (fun b => b < w.heap.size) (if c = i then A else A.map (fun x => x.add (i * sz))) (n - i) (c - i) (l.drop i) := by
 obtain ⟨h1, h2, h3, cs, h4, h5⟩ := h
 refine ⟨by rw [List.length_drop]; omega, by omega, fun hA => ?_, cs.drop (i * sz), Seq.cut h4 hi h2, h5.drop_ i⟩
 by_cases hci : c = i
 ·omega
 ·rw [if_neg hci] at hA
  cases A with
  | none => have := h3 rfl; omega
  | some a => simp at hA
theorem Own.setCells {g : Nat} (hg : w0.heap.size ≤ g) : ∀ (vs : List Value) (o : Nat) (xs : List Value) (w : World), Own w0 w e sz (.slice (some ⟨g, 0, none⟩) n c) n xs → o + vs.length ≤ xs.length → Own w0 (w.setCells g o vs) e sz (.slice (some ⟨g, 0, none⟩) n c) n (xs.take o ++ vs ++ xs.drop (o + vs.length))
 | [], o, xs, w, H, _ => by
  rw [List.append_nil, List.length_nil, Nat.add_zero, List.take_append_drop]
  exact H
 | u :: vs, o, xs, w, H, hl => by
  have hl' : o < xs.length := by simp at hl; omega
  have := Own.setCells hg vs (o + 1) (xs.set o u) (w.setCell ⟨g, o, none⟩ u) (H.store hg o u) (by simp at hl ⊢; omega)
  have e1 : (xs.set o u).take (o + 1) ++ vs ++ (xs.set o u).drop (o + 1 + vs.length) = xs.take o ++ (u :: vs) ++ xs.drop (o + (u :: vs).length) := by
   have a1 : (xs.set o u).take (o + 1) = xs.take o ++ [u] := by
    rw [List.take_add_one, List.take_set_of_le (Nat.le_refl _), List.getElem?_set_self hl']
    rfl
   rw [a1, List.drop_set_of_lt (by omega), List.length_cons, show o + 1 + vs.length = o + (vs.length + 1) by omega]
   simp
  rw [e1] at this
  exact this
theorem setCells_below {B g : Nat} {a : World} (hg : B ≤ g) : ∀ (vs : List Value) (o : Nat) (w : World), Below B a w → Below B a (w.setCells g o vs)
 | [], _, _, h => h
 | _ :: r, o, _, h => setCells_below hg r (o + 1) _ (h.setCell (p := ⟨g, o, none⟩) hg _)
theorem setCells_size2 (g : Nat) : ∀ (vs : List Value) (o : Nat) (w : World), (w.setCells g o vs).heap.size = w.heap.size
 | [], _, _ => rfl
 | v :: r, o, w => by rw [World.setCells, setCells_size2 g r]; simp [World.setCell]
theorem setCells_far (g : Nat) (vs : List Value) (o : Nat) (w : World) {p : Addr} (hp : p.block ≠ g) : (w.setCells g o vs).cell? p = w.cell? p := World.cell?_setCells_out g vs o w p fun h _ => absurd h hp
theorem OwnR.set (hr : RdOk r) {g i : Nat} (H : OwnR r sz w0 w e (.slice (some ⟨g, 0, none⟩) n c) l) (hg : w0.heap.size ≤ g) (hn : n = l.length) {x : α} {vs : List Value} (hi : i < n) (hx : r w (Beh w (.slice (some ⟨g, 0, none⟩) n c)) x vs) (hv : vs.length = sz) :
  OwnR r sz w0 (w.setCells g (i * sz) vs) e (.slice (some ⟨g, 0, none⟩) n c) (l.set i x) := by
 subst hn
 obtain ⟨cs, H1, H2⟩ := H
 have hcl : cs.length = l.length * sz := H1.1.1
 have hle : (i + 1) * sz ≤ l.length * sz := Nat.mul_le_mul_right _ hi
 rw [Nat.add_mul, Nat.one_mul] at hle
 have H3 := Own.setCells hg vs (i * sz) cs w H1 (by omega)
 have H4 := H2.set_ hi hx hv
 rw [hv] at H3
 rw [Nat.add_mul, Nat.one_mul] at H4
 refine ⟨_, by rw [List.length_set]; exact H3, RList.map (fun x c hc => hr _ _ _ _ x c (fun p hp => setCells_far g vs _ w (fun e => hp.2 (by rw [e]; rfl))) (fun b hb => ⟨by rw [setCells_size2]; exact hb.1, hb.2⟩) hc) H4⟩
theorem beh_lo (H : OwnR r sz w0 w e v l) {b : Nat} (h1 : w.heap.size ≤ b) (h2 : b < w'.heap.size) : Beh w' v b := ⟨h2, fun e => by
 obtain ⟨ds, H1, _⟩ := H
 have := (H1.1.lt b e.symm).2
 omega⟩
end
abbrev fI (x : Int) : FV := (0, x, ByteArray.empty, .nil)
abbrev fS (s : ByteArray) : FV := (1, 0, s, .nil)
def ofL : List FV → Flds
 | [] => .nil
 | f :: r => .cons f.1 f.2.1 f.2.2.1 f.2.2.2 (ofL r)
def toL : Flds → List FV
 | .nil => []
 | .cons k x s sub r => (k, x, s, sub) :: toL r
abbrev fL (l : List FV) : FV := (2, 0, ByteArray.empty, ofL l)
theorem ofL_toL : ∀ f : Flds, ofL (toL f) = f
 | .nil => rfl
 | .cons k x s sub r => by simp only [toL, ofL, ofL_toL r]
theorem toL_ofL : ∀ l : List FV, toL (ofL l) = l
 | [] => rfl
 | (k, x, s, sub) :: r => by simp only [toL, ofL, toL_ofL r]
theorem ofL_length : ∀ l : List FV, (ofL l).length = l.length
 | [] => rfl
 | f :: r => by simp only [ofL, Flds.length, ofL_length r, List.length_cons]
theorem toL_length (f : Flds) : (toL f).length = f.length := by
 rw [← ofL_length, ofL_toL]
theorem ofL_inj {l m : List FV} (h : ofL l = ofL m) : l = m := by rw [← toL_ofL l, h, toL_ofL]
def fsz (f : FV) : Nat := f.2.2.1.size + f.2.2.2.size
def lsz (l : List FV) : Nat := (ofL l).size
theorem lsz_nil : lsz [] = 1 := rfl
theorem lsz_cons (f : FV) (l : List FV) : lsz (f :: l) = fsz f + lsz l + 1 := by unfold lsz fsz; simp only [ofL, Flds.size]
theorem lsz_append : ∀ (l m : List FV), lsz (l ++ m) + 1 = lsz l + lsz m
 | [], m => by rw [lsz_nil, List.nil_append]; omega
 | f :: l, m => by rw [List.cons_append, lsz_cons, lsz_cons]; have := lsz_append l m; omega
theorem lsz_length (l : List FV) : l.length + 1 ≤ lsz l := by have := Flds.length_le_size (ofL l); rw [ofL_length] at this; exact this
theorem fsz_fL (l : List FV) : fsz (fL l) = lsz l := by unfold fsz lsz; simp
theorem fsz_mem {l : List FV} {f : FV} (h : f ∈ l) : fsz f < lsz l := by
 induction l with
 | nil => cases h
 | cons g l ih =>
  rw [lsz_cons]
  rcases List.mem_cons.1 h with rfl | h
  ·omega
  ·have := ih h; omega
def rF : Rd FV := fun w S f cs => ∃ A c csub, cs = [.int .i64 f.1, .int .i64 f.2.1, .string f.2.2.1, .slice A f.2.2.2.length c] ∧ IsInt f.1 ∧ IsInt f.2.1 ∧ SeqK w S A f.2.2.2.length c csub ∧ RepP w S f.2.2.2 csub
theorem rF_ok : RdOk rF := by
 intro w w' S S' f cs hk hS h
 obtain ⟨A, c, csub, rfl, h1, h2, h3, h4⟩ := h
 exact ⟨A, c, csub, rfl, h1, h2, h3.map hk hS, RepP.map hk hS h4⟩
theorem rF_one : RdOne rF := by
 intro w S f cs h u hu
 obtain ⟨A, c, csub, rfl, _⟩ := h
 simp only [List.mem_cons, List.not_mem_nil, or_false] at hu
 rcases hu with rfl | rfl | rfl | rfl <;> rfl
theorem rF_len {w : World} {S : Nat → Prop} {f : FV} {cs : List Value} (h : rF w S f cs) : cs.length = 4 := by
 obtain ⟨A, c, csub, rfl, _⟩ := h
 rfl
theorem rep_of {w : World} {S : Nat → Prop} : ∀ {l : List FV} {cs : List Value}, RList rF 4 w S l cs → RepP w S (ofL l) cs
 | [], _, h => h
 | f :: r, cs, h => by
  obtain ⟨c1, c2, rfl, _, ⟨A, c, csub, rfl, h1, h2, h3, h4⟩, h5⟩ := h
  exact ⟨A, c, c2, csub, rfl, h1, h2, h3, h4, rep_of h5⟩
theorem of_rep {w : World} {S : Nat → Prop} : ∀ {f : Flds} {cs : List Value}, RepP w S f cs → RList rF 4 w S (toL f) cs
 | .nil, _, h => h
 | .cons k x s sub r, cs, h => by
  obtain ⟨A, c, cs', csub, rfl, h1, h2, h3, h4, h5⟩ := h
  exact ⟨[.int .i64 k, .int .i64 x, .string s, .slice A sub.length c], cs', rfl, rfl, ⟨A, c, csub, rfl, h1, h2, h3, h4⟩, of_rep h5⟩
structure Cod where
 sz : Nat
 rp : Rd FV
structure Cod.Ok (C : Cod) : Prop where
 len : ∀ {w : World} {S : Nat → Prop} {f : FV} {cs : List Value}, C.rp w S f cs → cs.length = C.sz
 map : RdOk C.rp
 one : RdOne C.rp
def Cod.int : Cod := ⟨1, fun _ _ f cs => ∃ x, IsInt x ∧ f = fI x ∧ cs = [.int .i64 x]⟩
def Cod.dig : Cod := ⟨1, fun _ _ f cs => ∃ n : Nat, n < 18446744073709551616 ∧ f = fI (wrap64 (n : Int)) ∧ cs = [.int .u64 (n : Int)]⟩
def Cod.flag : Cod := ⟨1, fun _ _ f cs => ∃ b : Bool, f = fI (if b then 1 else 0) ∧ cs = [.bool b]⟩
def Cod.str : Cod := ⟨1, fun _ _ f cs => ∃ s : ByteArray, f = fS s ∧ cs = [.string s]⟩
def Cod.list (C : Cod) : Cod := ⟨1, fun w S f cs => ∃ (l : List FV) (A : Option Addr) (c : Nat), f = fL l ∧ cs = [.slice A l.length c] ∧ RSlice C.rp C.sz w S A l.length c l⟩
def RecL : List Cod → Rd (List FV)
 | [], _, _, fs, cs => fs = [] ∧ cs = []
 | C :: Cs, w, S, fs, cs => ∃ f fr c1 c2, fs = f :: fr ∧ cs = c1 ++ c2 ∧ C.rp w S f c1 ∧ RecL Cs w S fr c2
def csz (Cs : List Cod) : Nat := (Cs.map Cod.sz).sum
def Cod.recd (Cs : List Cod) : Cod := ⟨csz Cs, fun w S f cs => ∃ l, f = fL l ∧ RecL Cs w S l cs⟩
def Cod.val : Nat → Cod
 | 0 => ⟨6, fun _ _ _ _ => False⟩
 | g + 1 => ⟨6, (Cod.recd [.int, .flag, .int, .str, .list (Cod.val g), .list .str]).rp⟩
def Cod.value : Cod := ⟨6, fun w S f cs => ∃ g, (Cod.val g).rp w S f cs⟩
section
variable {C : Cod} {w w' : World} {S S' : Nat → Prop} {f : FV} {l : List FV} {cs : List Value} {Cs : List Cod}
theorem Cod.int_ok : Cod.int.Ok := ⟨fun {w S f cs} h => by obtain ⟨x, _, _, rfl⟩ := h; rfl, fun _ _ _ _ _ _ _ _ h => h, fun _ _ _ _ h u hu => by obtain ⟨x, _, _, rfl⟩ := h; simp at hu; subst hu; rfl⟩
theorem Cod.dig_ok : Cod.dig.Ok := ⟨fun {w S f cs} h => by obtain ⟨x, _, _, rfl⟩ := h; rfl, fun _ _ _ _ _ _ _ _ h => h, fun _ _ _ _ h u hu => by obtain ⟨x, _, _, rfl⟩ := h; simp at hu; subst hu; rfl⟩
theorem Cod.flag_ok : Cod.flag.Ok := ⟨fun {w S f cs} h => by obtain ⟨x, _, rfl⟩ := h; rfl, fun _ _ _ _ _ _ _ _ h => h, fun _ _ _ _ h u hu => by obtain ⟨x, _, rfl⟩ := h; simp at hu; subst hu; rfl⟩
theorem Cod.str_ok : Cod.str.Ok := ⟨fun {w S f cs} h => by obtain ⟨x, _, rfl⟩ := h; rfl, fun _ _ _ _ _ _ _ _ h => h, fun _ _ _ _ h u hu => by obtain ⟨x, _, rfl⟩ := h; simp at hu; subst hu; rfl⟩
theorem RSlice.mapR {α : Type} {r : Rd α} (hr : RdOk r) {sz n c : Nat} {A : Option Addr} {l : List α} (hk : ∀ p : Addr, S p.block → w'.cell? p = w.cell? p) (hS : ∀ b, S b → S' b) (h : RSlice r sz w S A n c l) : RSlice r sz w' S' A n c l := by
 obtain ⟨h1, h2, h3, cs, h4, h5⟩ := h
 exact ⟨h1, h2, h3, cs, h4.map hk hS, RList.map (fun x c hc => hr _ _ _ _ x c hk hS hc) h5⟩
theorem Cod.list_ok (h : C.Ok) : (Cod.list C).Ok := ⟨fun {w S f cs} h => by obtain ⟨l, A, c, _, rfl, _⟩ := h; rfl, fun _ _ _ _ _ _ hk hS hh => by
 obtain ⟨l, A, c, h1, h2, h3⟩ := hh
 exact ⟨l, A, c, h1, h2, h3.mapR h.map hk hS⟩, fun _ _ _ _ h u hu => by obtain ⟨l, A, c, _, rfl, _⟩ := h; simp at hu; subst hu; rfl⟩
theorem RecL.map (hC : ∀ C ∈ Cs, Cod.Ok C) (hk : ∀ p : Addr, S p.block → w'.cell? p = w.cell? p) (hS : ∀ b, S b → S' b) : ∀ {l : List FV} {cs : List Value}, RecL Cs w S l cs → RecL Cs w' S' l cs := by
 induction Cs with
 | nil => exact fun h => h
 | cons C Cs ih =>
  rintro l cs ⟨f, fr, c1, c2, h1, h2, h3, h4⟩
  exact ⟨f, fr, c1, c2, h1, h2, (hC C (by simp)).map _ _ _ _ _ _ hk hS h3, ih (fun D hD => hC D (by simp [hD])) h4⟩
theorem RecL.len (hC : ∀ C ∈ Cs, Cod.Ok C) : ∀ {l : List FV} {cs : List Value}, RecL Cs w S l cs → cs.length = csz Cs ∧ l.length = Cs.length := by
 induction Cs with
 | nil => rintro l cs ⟨rfl, rfl⟩; exact ⟨rfl, rfl⟩
 | cons C Cs ih =>
  rintro l cs ⟨f, fr, c1, c2, rfl, rfl, h3, h4⟩
  obtain ⟨g1, g2⟩ := ih (fun D hD => hC D (by simp [hD])) h4
  have := (hC C (by simp)).len h3
  exact ⟨by simp [csz] at g1 ⊢; omega, by simp [g2]⟩
theorem RecL.one (hC : ∀ C ∈ Cs, Cod.Ok C) : ∀ {l : List FV} {cs : List Value}, RecL Cs w S l cs → ∀ u ∈ cs, u.oneCell' = true := by
 induction Cs with
 | nil => rintro l cs ⟨rfl, rfl⟩ u hu; cases hu
 | cons C Cs ih =>
  rintro l cs ⟨f, fr, c1, c2, rfl, rfl, h3, h4⟩ u hu
  rcases List.mem_append.1 hu with hu | hu
  ·exact (hC C (by simp)).one _ _ _ _ h3 u hu
  ·exact ih (fun D hD => hC D (by simp [hD])) h4 u hu
theorem Cod.recd_ok (hC : ∀ C ∈ Cs, Cod.Ok C) : (Cod.recd Cs).Ok := ⟨fun {w S f cs} h => by obtain ⟨l, _, h⟩ := h; exact (h.len hC).1, fun _ _ _ _ _ _ hk hS h => by
 obtain ⟨l, h1, h2⟩ := h
 exact ⟨l, h1, h2.map hC hk hS⟩, fun _ _ _ _ h => by obtain ⟨l, _, h⟩ := h; exact h.one hC⟩
theorem Cod.val_ok : ∀ g, (Cod.val g).Ok
 | 0 => ⟨fun h => h.elim, fun _ _ _ _ _ _ _ _ h => h.elim, fun _ _ _ _ h => h.elim⟩
 | g + 1 => by
  have := Cod.recd_ok (Cs := [.int, .flag, .int, .str, .list (Cod.val g), .list .str]) (fun C hC => by
   simp only [List.mem_cons, List.not_mem_nil, or_false] at hC
   rcases hC with rfl | rfl | rfl | rfl | rfl | rfl
   ·exact Cod.int_ok
   ·exact Cod.flag_ok
   ·exact Cod.int_ok
   ·exact Cod.str_ok
   ·exact Cod.list_ok (Cod.val_ok g)
   ·exact Cod.list_ok Cod.str_ok)
  exact ⟨this.len, this.map, this.one⟩
theorem Cod.val_sz : ∀ g, (Cod.val g).sz = 6
 | 0 => rfl
 | _ + 1 => rfl
theorem Cod.value_ok : Cod.value.Ok := ⟨fun {w S f cs} h => by obtain ⟨g, h⟩ := h; exact ((Cod.val_ok g).len h).trans (Cod.val_sz g), fun _ _ _ _ _ _ hk hS h => by obtain ⟨g, h⟩ := h; exact ⟨g, (Cod.val_ok g).map _ _ _ _ _ _ hk hS h⟩, fun _ _ _ _ h => by obtain ⟨g, h⟩ := h; exact (Cod.val_ok g).one _ _ _ _ h⟩
end
abbrev Cod.strs : Cod := .list .str
abbrev Cod.ints : Cod := .list .int
abbrev Cod.origin : Cod := .recd [.str, .str, .flag]
abbrev Cod.vari : Cod := .recd [.str, .value]
abbrev Cod.timing : Cod := .recd [.str, .int]
abbrev Cod.output : Cod := .recd [.str, .dig, .int]
abbrev Cod.test : Cod := .recd [.str, .int, .int]
abbrev Cod.result : Cod := .recd [.int, .int, .list .output, .list .output, .list .test, .str]
abbrev Cod.machine : Cod := .recd [.str, .strs, .int, .int, .flag, .int, .int, .int, .ints]
abbrev Cod.secret : Cod := .recd [.str, .str, .int, .strs, .strs]
abbrev Cod.scope : Cod := .recd [.str, .int, .str]
abbrev Cod.entry : Cod := .recd [.scope, .str, .dig, .int, .int, .int]
abbrev evC : List Cod := [.int, .int, .str, .str, .int, .int, .int, .str, .str, .origin, .list .vari, .list .timing, .result, .machine, .secret, .entry]
theorem okc {C : Cod} {Cs : List Cod} (h : C.Ok) (hs : ∀ D ∈ Cs, Cod.Ok D) : ∀ D ∈ C :: Cs, Cod.Ok D := fun D hD => by
 rcases List.mem_cons.1 hD with rfl | hD
 ·exact h
 ·exact hs D hD
theorem okn : ∀ D ∈ ([] : List Cod), Cod.Ok D := fun _ h => by cases h
theorem Cod.strs_ok : Cod.strs.Ok := Cod.list_ok Cod.str_ok
theorem Cod.ints_ok : Cod.ints.Ok := Cod.list_ok Cod.int_ok
theorem Cod.origin_ok : Cod.origin.Ok := Cod.recd_ok (okc Cod.str_ok (okc Cod.str_ok (okc Cod.flag_ok okn)))
theorem Cod.vari_ok : Cod.vari.Ok := Cod.recd_ok (okc Cod.str_ok (okc Cod.value_ok okn))
theorem Cod.timing_ok : Cod.timing.Ok := Cod.recd_ok (okc Cod.str_ok (okc Cod.int_ok okn))
theorem Cod.output_ok : Cod.output.Ok := Cod.recd_ok (okc Cod.str_ok (okc Cod.dig_ok (okc Cod.int_ok okn)))
theorem Cod.test_ok : Cod.test.Ok := Cod.recd_ok (okc Cod.str_ok (okc Cod.int_ok (okc Cod.int_ok okn)))
theorem Cod.result_ok : Cod.result.Ok := Cod.recd_ok (okc Cod.int_ok (okc Cod.int_ok (okc (Cod.list_ok Cod.output_ok) (okc (Cod.list_ok Cod.output_ok) (okc (Cod.list_ok Cod.test_ok) (okc Cod.str_ok okn))))))
theorem Cod.machine_ok : Cod.machine.Ok := Cod.recd_ok (okc Cod.str_ok (okc Cod.strs_ok (okc Cod.int_ok (okc Cod.int_ok (okc Cod.flag_ok (okc Cod.int_ok (okc Cod.int_ok (okc Cod.int_ok (okc Cod.ints_ok okn)))))))))
theorem Cod.secret_ok : Cod.secret.Ok := Cod.recd_ok (okc Cod.str_ok (okc Cod.str_ok (okc Cod.int_ok (okc Cod.strs_ok (okc Cod.strs_ok okn)))))
theorem Cod.scope_ok : Cod.scope.Ok := Cod.recd_ok (okc Cod.str_ok (okc Cod.int_ok (okc Cod.str_ok okn)))
theorem Cod.entry_ok : Cod.entry.Ok := Cod.recd_ok (okc Cod.scope_ok (okc Cod.str_ok (okc Cod.dig_ok (okc Cod.int_ok (okc Cod.int_ok (okc Cod.int_ok okn))))))
theorem evC_ok : ∀ C ∈ evC, Cod.Ok C := (okc Cod.int_ok (okc Cod.int_ok (okc Cod.str_ok (okc Cod.str_ok (okc Cod.int_ok (okc Cod.int_ok (okc Cod.int_ok (okc Cod.str_ok (okc Cod.str_ok (okc Cod.origin_ok (okc (Cod.list_ok Cod.vari_ok) (okc (Cod.list_ok Cod.timing_ok) (okc Cod.result_ok (okc Cod.machine_ok (okc Cod.secret_ok (okc Cod.entry_ok okn))))))))))))))))
def SZ (N : Nat) : List FV → Prop
  | [] => True
  | a :: r => fsz a ≤ N ∧ SZ N r
theorem szs {N : Nat} : ∀ {l : List FV}, lsz l ≤ N → SZ N l
  | [], _ => trivial
  | a :: r, h => by
    rw [lsz_cons] at h
    exact ⟨by omega, szs (by omega)⟩
end Go.Proofs.YtgdapkglofchjaaGreatDoor
