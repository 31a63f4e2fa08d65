/- Fields as a tree; how a slice of them reads in memory; whether they are valid. -/
import Derived.Test.YtjipnomokggcfaaStr
namespace Go.Proofs.Ytjipnomokggcfaa
open Go.RowKit
/-- a list of fields: kind, number, text, the list in the field; then the rest -/
inductive Flds where
  | nil
  | cons (k x : Int) (s : ByteArray) (sub rest : Flds)

namespace Flds
def length : Flds → Nat
  | nil => 0
  | cons _ _ _ _ r => r.length + 1
def size : Flds → Nat
  | nil => 1
  | cons _ _ s sub r => s.size + sub.size + r.size + 1
/-- the fields at a place -/
def get? : Flds → Nat → Option (Int × Int × ByteArray × Flds)
  | nil, _ => none
  | cons k x s sub _, 0 => some (k, x, s, sub)
  | cons _ _ _ _ r, i + 1 => r.get? i
theorem get?_lt : ∀ (f : Flds) (i : Nat), i < f.length → ∃ t, f.get? i = some t
  | nil, i, h => by simp [length] at h
  | cons k x s sub r, 0, _ => ⟨_, rfl⟩
  | cons k x s sub r, i + 1, h => by
    simp only [length] at h
    exact get?_lt r i (by omega)
theorem length_le_size : ∀ f : Flds, f.length + 1 ≤ f.size
  | nil => by simp [length, size]
  | cons k x s sub r => by have := length_le_size r; simp only [length, size]; omega
theorem get?_size : ∀ (f : Flds) (i : Nat) {k x : Int} {s : ByteArray} {sub : Flds}, f.get? i = some (k, x, s, sub) → s.size + sub.size < f.size
  | nil, i, _, _, _, _, h => by simp [get?] at h
  | cons k x s sub r, 0, _, _, _, _, h => by
    simp only [get?, Option.some.injEq, Prod.mk.injEq] at h
    obtain ⟨rfl, rfl, rfl, rfl⟩ := h
    have := length_le_size r
    simp only [size]; omega
  | cons k x s sub r, i + 1, _, _, _, _, h => by
    have := get?_size r i h
    simp only [size]; omega
def drop : Flds → Nat → Flds
  | f, 0 => f
  | nil, _ + 1 => nil
  | cons _ _ _ _ r, i + 1 => r.drop i
theorem drop_zero (f : Flds) : f.drop 0 = f := by cases f <;> rfl
theorem drop_get : ∀ (f : Flds) (i : Nat) {k x : Int} {s : ByteArray} {sub : Flds}, f.get? i = some (k, x, s, sub) → f.drop i = cons k x s sub (f.drop (i + 1))
  | nil, i, _, _, _, _, h => by simp [get?] at h
  | cons k x s sub r, 0, _, _, _, _, h => by
    simp only [get?, Option.some.injEq, Prod.mk.injEq] at h
    obtain ⟨rfl, rfl, rfl, rfl⟩ := h
    rw [drop_zero]
    show _ = cons k x s sub (r.drop 0)
    rw [drop_zero]
  | cons k x s sub r, i + 1, _, _, _, _, h => by
    simp only [drop]
    exact drop_get r i h
theorem drop_end : ∀ (f : Flds) (i : Nat), f.length ≤ i → f.drop i = nil
  | nil, 0, _ => rfl
  | nil, _ + 1, _ => rfl
  | cons k x s sub r, 0, h => by simp [length] at h
  | cons k x s sub r, i + 1, h => by
    simp only [length] at h
    exact drop_end r i (by omega)
def append : Flds → Flds → Flds
  | nil, g => g
  | cons k x s sub r, g => cons k x s sub (r.append g)
theorem append_length : ∀ f g : Flds, (f.append g).length = f.length + g.length
  | nil, g => by simp [append, length]
  | cons k x s sub r, g => by simp only [append, length, append_length r g]; omega
end Flds

def clean (k x : Int) (s : ByteArray) (sub : Flds) : Bool :=
  if k = 0 then s.toList.isEmpty && (sub.length : Int) == 0 else if k = 1 then x == 0 && (sub.length : Int) == 0 else if k = 2 then x == 0 && s.toList.isEmpty else false
/-- the number of the first error of fields at a depth -/
def vld (d : Nat) : Flds → Nat
  | .nil => 0
  | .cons k x s sub r =>
    let e := if 128 < d then 13 else if clean k x s sub = false then 1 else vld (d + 1) sub
    if e = 0 then vld d r else e
def vone (d : Nat) (k x : Int) (s : ByteArray) (sub : Flds) : Nat := if 128 < d then 13 else if clean k x s sub = false then 1 else vld (d + 1) sub
theorem vld_cons (d : Nat) (k x : Int) (s : ByteArray) (sub r : Flds) : vld d (.cons k x s sub r) = if vone d k x s sub = 0 then vld d r else vone d k x s sub := rfl

theorem vld_at {d i : Nat} {f : Flds} {k x : Int} {s : ByteArray} {sub : Flds} (h : f.get? i = some (k, x, s, sub)) : vld d (f.drop i) = if vone d k x s sub = 0 then vld d (f.drop (i + 1)) else vone d k x s sub := by
  rw [Flds.drop_get f i h, vld_cons]
theorem vone_le (d : Nat) (k x : Int) (s : ByteArray) (sub : Flds) : vone d k x s sub ≤ 13 := by
  unfold vone
  have h : ∀ (f : Flds) (d : Nat), vld d f ≤ 13 := by
    intro f
    induction f with
    | nil => intro d; simp [vld]
    | cons k x s sub r ih1 ih2 =>
      intro d
      have h1 := ih1 (d + 1)
      have h2 := ih2 d
      simp only [vld]
      repeat' split
      all_goals omega
  have := h sub (d + 1)
  repeat' split
  all_goals omega
def IsInt (x : Int) : Prop := -9223372036854775808 ≤ x ∧ x ≤ 9223372036854775807
/-- cells that read as fields, whose lists lie in blocks of which S says yes -/
def RepP (w : World) (S : Nat → Prop) : Flds → List Value → Prop
  | .nil, cs => cs = []
  | .cons k x s sub r, cs => ∃ A c cs' csub, cs = .int .i64 k :: .int .i64 x :: .string s :: .slice A sub.length c :: cs' ∧ IsInt k ∧ IsInt x ∧ SeqP w S 4 A sub.length csub ∧ RepP w S sub csub ∧ RepP w S r cs'
theorem RepP.map {w w' : World} {S S' : Nat → Prop} (hk : ∀ p : Addr, S p.block → w'.cell? p = w.cell? p) (hS : ∀ b, S b → S' b) : ∀ {f : Flds} {cs : List Value}, RepP w S f cs → RepP w' S' f cs
  | .nil, _, h => h
  | .cons k x s sub r, cs, h => by
    obtain ⟨A, c, cs', csub, rfl, hk1, hx1, hs, hsub, hr⟩ := h
    exact ⟨A, c, cs', csub, rfl, hk1, hx1, hs.map hk hS, RepP.map hk hS hsub, RepP.map hk hS hr⟩
theorem RepP.imp {w : World} {S S' : Nat → Prop} {f : Flds} {cs : List Value} (h : RepP w S f cs) (hS : ∀ b, S b → S' b) : RepP w S' f cs := h.map (fun _ _ => rfl) hS
theorem RepP.length {w : World} {S : Nat → Prop} : ∀ {f : Flds} {cs : List Value}, RepP w S f cs → cs.length = f.length * 4
  | .nil, _, h => by cases h; rfl
  | .cons k x s sub r, cs, h => by
    obtain ⟨A, c, cs', csub, rfl, _, _, _, _, hr⟩ := h
    have := RepP.length hr
    simp only [List.length_cons, Flds.length, this]; omega
theorem RepP.append {w : World} {S : Nat → Prop} : ∀ {f g : Flds} {cs ds : List Value}, RepP w S f cs → RepP w S g ds → RepP w S (f.append g) (cs ++ ds)
  | .nil, _, _, _, h, k => by cases h; exact k
  | .cons k x s sub r, g, cs, ds, h, hg => by
    obtain ⟨A, c, cs', csub, rfl, hk1, hx1, hs, hsub, hr⟩ := h
    exact ⟨A, c, cs' ++ ds, csub, rfl, hk1, hx1, hs, hsub, RepP.append hr hg⟩
/-- .. below block B -/
abbrev RepF (w : World) (B : Nat) (f : Flds) (cs : List Value) : Prop := RepP w (fun b => b < B) f cs
theorem RepF.keep {w w' : World} {B : Nat} {f : Flds} {cs : List Value} (h : RepF w B f cs) (hk : ∀ p : Addr, p.block < B → w'.cell? p = w.cell? p) : RepF w' B f cs := RepP.map hk (fun _ hb => hb) h
theorem RepF.below {w w' : World} {B : Nat} {f : Flds} {cs : List Value} (h : RepF w B f cs) (hb : Below B w w') : RepF w' B f cs := h.keep fun _ hp => hb.cell hp
theorem RepF.more {w : World} {B B' : Nat} {f : Flds} {cs : List Value} (h : RepF w B f cs) (hB : B ≤ B') : RepF w B' f cs := h.imp fun _ hb => Nat.lt_of_lt_of_le hb hB
theorem RepF.length {w : World} {B : Nat} : ∀ {f : Flds} {cs : List Value}, RepF w B f cs → cs.length = f.length * 4
  | .nil, _, h => by cases h; rfl
  | .cons k x s sub r, cs, h => by
    obtain ⟨A, c, cs', csub, rfl, _, _, _, _, hr⟩ := h
    have := RepF.length hr
    simp only [List.length_cons, Flds.length, this]; omega
/-- the field at a place -/
theorem RepF.at_ {w : World} {B : Nat} : ∀ {f : Flds} {cs : List Value} {i : Nat} {k x : Int} {s : ByteArray} {sub : Flds}, RepF w B f cs → f.get? i = some (k, x, s, sub) →
    ∃ A c csub, cs[i * 4]? = some (.int .i64 k) ∧ cs[i * 4 + 1]? = some (.int .i64 x) ∧ cs[i * 4 + 2]? = some (.string s) ∧ cs[i * 4 + 3]? = some (.slice A sub.length c) ∧ IsInt k ∧ IsInt x ∧
      Seq w B 4 A sub.length csub ∧ RepF w B sub csub
  | .nil, _, _, _, _, _, _, _, h => by simp [Flds.get?] at h
  | .cons k x s sub r, cs, 0, _, _, _, _, hR, h => by
    simp only [Flds.get?, Option.some.injEq, Prod.mk.injEq] at h
    obtain ⟨rfl, rfl, rfl, rfl⟩ := h
    obtain ⟨A, c, cs', csub, rfl, hk1, hx1, hs, hsub, hr⟩ := hR
    exact ⟨A, c, csub, rfl, rfl, rfl, rfl, hk1, hx1, hs, hsub⟩
  | .cons k x s sub r, cs, i + 1, _, _, _, _, hR, h => by
    obtain ⟨A, c, cs', csub, rfl, _, _, _, _, hr⟩ := hR
    obtain ⟨A, c, csub, h1, h2, h3, h4, h5⟩ := RepF.at_ (i := i) hr h
    refine ⟨A, c, csub, ?_, ?_, ?_, ?_, h5⟩
    · rw [show (i + 1) * 4 = i * 4 + 1 + 1 + 1 + 1 from by omega]; simpa using h1
    · rw [show (i + 1) * 4 + 1 = i * 4 + 1 + 1 + 1 + 1 + 1 from by omega]; simpa using h2
    · rw [show (i + 1) * 4 + 2 = i * 4 + 2 + 1 + 1 + 1 + 1 from by omega]; simpa using h3
    · rw [show (i + 1) * 4 + 3 = i * 4 + 3 + 1 + 1 + 1 + 1 from by omega]; simpa using h4

/-- the encodings of fields, one behind the other -/
def encs : Flds → List UInt8
  | .nil => []
  | .cons k x s sub r => (if k = 0 then 0 :: Lib.uvarint (Lib.zigzag x) else if k = 1 then 1 :: (Lib.uvarint s.size ++ s.data.toList) else 2 :: (Lib.uvarint sub.length ++ encs sub)) ++ encs r
def enc1 (k x : Int) (s : ByteArray) (sub : Flds) : List UInt8 := if k = 0 then 0 :: Lib.uvarint (Lib.zigzag x) else if k = 1 then 1 :: (Lib.uvarint s.size ++ s.data.toList) else 2 :: (Lib.uvarint sub.length ++ encs sub)
theorem encs_cons (k x : Int) (s : ByteArray) (sub r : Flds) : encs (.cons k x s sub r) = enc1 k x s sub ++ encs r := rfl
/-- all fields are of allowed depth and form -/
def Fine (d : Nat) (f : Flds) : Prop := vld d f = 0
theorem Fine.one {d : Nat} : ∀ {f : Flds} {i : Nat} {k x : Int} {s : ByteArray} {sub : Flds}, Fine d f → f.get? i = some (k, x, s, sub) → vone d k x s sub = 0
  | .nil, _, _, _, _, _, _, h => by simp [Flds.get?] at h
  | .cons k x s sub r, 0, _, _, _, _, hf, h => by
    simp only [Flds.get?, Option.some.injEq, Prod.mk.injEq] at h
    obtain ⟨rfl, rfl, rfl, rfl⟩ := h
    unfold Fine at hf
    rw [vld_cons] at hf
    split at hf
    · assumption
    · exact hf
  | .cons k x s sub r, i + 1, _, _, _, _, hf, h => by
    unfold Fine at hf
    rw [vld_cons] at hf
    split at hf
    · exact Fine.one (f := r) hf h
    · contradiction
theorem vone_fine {d : Nat} {k x : Int} {s : ByteArray} {sub : Flds} (h : vone d k x s sub = 0) : d ≤ 128 ∧ clean k x s sub = true ∧ Fine (d + 1) sub := by
  unfold vone at h
  split at h
  · cases h
  · split at h
    · cases h
    · exact ⟨by omega, by simpa using ‹¬ clean k x s sub = false›, h⟩
theorem clean_kind {k x : Int} {s : ByteArray} {sub : Flds} (h : clean k x s sub = true) : k = 0 ∨ k = 1 ∨ k = 2 := by
  unfold clean at h
  by_cases h0 : k = 0
  · exact .inl h0
  · by_cases h1 : k = 1
    · exact .inr (.inl h1)
    · by_cases h2 : k = 2
      · exact .inr (.inr h2)
      · simp [h0, h1, h2] at h
theorem enc1_le {k x : Int} {s : ByteArray} {sub : Flds} (hx : IsInt x) (hs : s.size < 18446744073709551616) (hn : sub.length < 18446744073709551616) : (enc1 k x s sub).length ≤ 11 + s.size + (encs sub).length := by
  unfold enc1
  have h1 := Lib.uvarint_length64 (Lib.zigzag_lt hx.1 hx.2)
  have h2 := Lib.uvarint_length64 hs
  have h3 := Lib.uvarint_length64 hn
  have h4 : s.data.toList.length = s.size := by simp
  repeat' split
  all_goals simp only [List.length_cons, List.length_append, h4]
  all_goals omega
theorem encs_le {w : World} {B : Nat} : ∀ {f : Flds} {cs : List Value}, RepF w B f cs → f.size < 18446744073709551616 → (encs f).length ≤ 11 * f.size
  | .nil, _, _, _ => by simp [encs]
  | .cons k x s sub r, cs, h, hsz => by
    obtain ⟨A, c, cs', csub, rfl, hk, hx, hs, hsub, hr⟩ := h
    simp only [Flds.size] at hsz ⊢
    have hl := Flds.length_le_size sub
    have h1 := encs_le hsub (by omega)
    have h2 := encs_le hr (by omega)
    have h3 := enc1_le (k := k) (s := s) (sub := sub) hx (by omega) (by omega)
    rw [encs_cons, List.length_append]
    omega
def Flds.take : Flds → Nat → Flds
  | _, 0 => nil
  | nil, _ + 1 => nil
  | cons k x s sub r, i + 1 => cons k x s sub (r.take i)
theorem take_all : ∀ (f : Flds) (i : Nat), f.length ≤ i → f.take i = f
  | .nil, 0, _ => rfl
  | .nil, _ + 1, _ => rfl
  | .cons k x s sub r, 0, h => by simp [Flds.length] at h
  | .cons k x s sub r, i + 1, h => by
    simp only [Flds.length] at h
    simp only [Flds.take]
    rw [take_all r i (by omega)]
theorem take_zero (f : Flds) : f.take 0 = .nil := by cases f <;> rfl
theorem encs_take : ∀ {f : Flds} {i : Nat} {k x : Int} {s : ByteArray} {sub : Flds}, f.get? i = some (k, x, s, sub) → encs (f.take (i + 1)) = encs (f.take i) ++ enc1 k x s sub
  | .nil, i, _, _, _, _, h => by simp [Flds.get?] at h
  | .cons k x s sub r, 0, _, _, _, _, h => by
    simp only [Flds.get?, Option.some.injEq, Prod.mk.injEq] at h
    obtain ⟨rfl, rfl, rfl, rfl⟩ := h
    simp only [Flds.take, take_zero]
    rw [encs_cons]
    simp [encs]
  | .cons k x s sub r, i + 1, _, _, _, _, h => by
    simp only [Flds.take]
    rw [encs_cons, encs_cons, encs_take (f := r) h, List.append_assoc]
theorem encs_take_le : ∀ (f : Flds) (i : Nat), (encs (f.take i)).length ≤ (encs f).length
  | f, 0 => by rw [take_zero]; simp [encs]
  | .nil, _ + 1 => by simp [Flds.take]
  | .cons k x s sub r, i + 1 => by
    simp only [Flds.take]
    rw [encs_cons, encs_cons, List.length_append, List.length_append]
    have := encs_take_le r i
    omega

theorem repF_one {w : World} {B : Nat} : ∀ {f : Flds} {cs : List Value}, RepF w B f cs → ∀ u ∈ cs, u.oneCell' = true
  | .nil, _, h => by cases h; intro u hu; cases hu
  | .cons k x s sub r, cs, h => by
    obtain ⟨A, c, cs', csub, rfl, _, _, _, _, hr⟩ := h
    intro u hu
    simp only [List.mem_cons] at hu
    rcases hu with rfl | rfl | rfl | rfl | hu
    · rfl
    · rfl
    · rfl
    · rfl
    · exact repF_one hr u hu
/-- the first fields made valid: those that are not become the number 0 -/
def Flds.fix : Flds → Nat → Flds
  | f, 0 => f
  | nil, _ + 1 => nil
  | cons k x s sub r, i + 1 => if vone 1 k x s sub = 0 then cons k x s sub (r.fix i) else cons 0 0 ByteArray.empty nil (r.fix i)
theorem fix_zero (f : Flds) : f.fix 0 = f := by cases f <;> rfl
theorem fix_length : ∀ (f : Flds) (i : Nat), (f.fix i).length = f.length
  | f, 0 => by rw [fix_zero]
  | .nil, _ + 1 => rfl
  | .cons k x s sub r, i + 1 => by
    simp only [Flds.fix]
    split <;> simp only [Flds.length, fix_length r i]
theorem fix_size : ∀ (f : Flds) (i : Nat), (f.fix i).size ≤ f.size
  | f, 0 => by rw [fix_zero]; exact Nat.le_refl _
  | .nil, _ + 1 => Nat.le_refl _
  | .cons k x s sub r, i + 1 => by
    have := fix_size r i
    have h0 : ByteArray.empty.size = 0 := rfl
    have h1 := Flds.length_le_size sub
    simp only [Flds.fix]
    split
    · simp only [Flds.size]; omega
    · simp only [Flds.size, h0]; omega
/-- behind the place nothing has turned -/
theorem fix_get : ∀ (f : Flds) (i j : Nat), i ≤ j → (f.fix i).get? j = f.get? j
  | f, 0, j, _ => by rw [fix_zero]
  | .nil, _ + 1, _, _ => rfl
  | .cons k x s sub r, i + 1, 0, h => by omega
  | .cons k x s sub r, i + 1, j + 1, h => by
    simp only [Flds.fix]
    split <;> simp only [Flds.get?, fix_get r i j (by omega)]
theorem fix_keep : ∀ (f : Flds) (i : Nat) {k x : Int} {s : ByteArray} {sub : Flds}, f.get? i = some (k, x, s, sub) → vone 1 k x s sub = 0 → f.fix (i + 1) = f.fix i
  | .nil, i, _, _, _, _, h, _ => by simp [Flds.get?] at h
  | .cons k x s sub r, 0, _, _, _, _, h, hv => by
    simp only [Flds.get?, Option.some.injEq, Prod.mk.injEq] at h
    obtain ⟨rfl, rfl, rfl, rfl⟩ := h
    simp only [Flds.fix, fix_zero, if_pos hv]
  | .cons k x s sub r, i + 1, _, _, _, _, h, hv => by
    have := fix_keep r i h hv
    simp only [Flds.fix, this]
theorem empty_toList : ByteArray.empty.toList = [] := by rw [ByteArray.toList_eq]; rfl
theorem vone_zero : vone 1 0 0 ByteArray.empty .nil = 0 := by simp [vone, clean, Flds.length, vld]
theorem fix_fine : ∀ (f : Flds) (i : Nat), f.length ≤ i → Fine 1 (f.fix i)
  | .nil, 0, _ => rfl
  | .nil, _ + 1, _ => rfl
  | .cons k x s sub r, 0, h => by simp [Flds.length] at h
  | .cons k x s sub r, i + 1, h => by
    simp only [Flds.length] at h
    have := fix_fine r i (by omega)
    simp only [Flds.fix]
    unfold Fine at this ⊢
    split
    · rename_i hv
      rw [vld_cons, if_pos hv]; exact this
    · rw [vld_cons, if_pos vone_zero]; exact this
/-- a field that is not valid becomes the number 0, in memory too -/
theorem repF_zero {w : World} {B : Nat} : ∀ (f : Flds) (i : Nat) {cs : List Value} {k x : Int} {s : ByteArray} {sub : Flds}, RepF w B (f.fix i) cs → f.get? i = some (k, x, s, sub) → vone 1 k x s sub ≠ 0 →
    RepF w B (f.fix (i + 1)) ((((cs.set (i * 4) (.int .i64 0)).set (i * 4 + 1) (.int .i64 0)).set (i * 4 + 2) (.string ByteArray.empty)).set (i * 4 + 3) (.slice none 0 0))
  | .nil, i, _, _, _, _, _, _, h, _ => by simp [Flds.get?] at h
  | .cons k x s sub r, 0, cs, _, _, _, _, hR, h, hv => by
    simp only [Flds.get?, Option.some.injEq, Prod.mk.injEq] at h
    obtain ⟨rfl, rfl, rfl, rfl⟩ := h
    rw [fix_zero] at hR
    obtain ⟨A, c, cs', csub, rfl, _, _, _, _, hr⟩ := hR
    simp only [Flds.fix, fix_zero, if_neg hv]
    refine ⟨none, 0, cs', [], rfl, ?_, ?_, Seq.nil_, rfl, hr⟩ <;> exact ⟨by omega, by omega⟩
  | .cons k x s sub r, i + 1, cs, _, _, _, _, hR, h, hv => by
    simp only [Flds.fix] at hR ⊢
    have e0 : (i + 1) * 4 = i * 4 + 1 + 1 + 1 + 1 := by omega
    have e1 : (i + 1) * 4 + 1 = i * 4 + 1 + 1 + 1 + 1 + 1 := by omega
    have e2 : (i + 1) * 4 + 2 = i * 4 + 2 + 1 + 1 + 1 + 1 := by omega
    have e3 : (i + 1) * 4 + 3 = i * 4 + 3 + 1 + 1 + 1 + 1 := by omega
    split at hR
    all_goals
      rename_i hc
      simp only [hc, if_true, if_false]
      obtain ⟨A, c, cs', csub, rfl, hk, hx, hs, hsub, hr⟩ := hR
      have := repF_zero r i hr h hv
      rw [e1, e2, e3, e0]
      exact ⟨A, c, _, csub, rfl, hk, hx, hs, hsub, this⟩
end Go.Proofs.Ytjipnomokggcfaa
