/- readOne, read: contracts. -/
import Derived.Test.YtjipnomokggcfaaDec
import Derived.Test.YtjipnomokggcfaaRec
import Derived.Deep.RegionHeld3
namespace Go.Proofs.Ytjipnomokggcfaa
open Go.RowKit
/-- blocks that a call has made -/
def Fresh (w w' : World) (b : Nat) : Prop := w.heap.size ≤ b ∧ b < w'.heap.size
/-- an owned slice lies in a block of the call's own -/
theorem Own.seqF {w w' : World} {e : TypeId} {size n c : Nat} {A : Option Addr} {xs : List Value} (H : Own w w' e size (.slice A n c) n xs) : SeqP w' (Fresh w w') size A n xs := by
  refine ⟨H.1.1, fun hn => ?_⟩
  obtain ⟨g, rfl, h1, h2, h3, _⟩ := H.head hn
  exact ⟨g, 0, rfl, ⟨h1, h2⟩, fun j u hu => by rw [Nat.zero_add]; exact h3 j u hu⟩
def RetRead (w : World) (l : List UInt8) : Nat ⊕ (Flds × List UInt8) → Ending → World → Prop
  | .inl er, e, w' => e = .returned (.tuple #[.slice none 0 0, .int .i64 0, .int .i64 (er : Int)]) ∧ Below w.heap.size w w'
  | .inr (f, r), e, w' => ∃ A c cs, e = .returned (.tuple #[.slice A f.length c, .int .i64 ((l.length - r.length : Nat) : Int), .int .i64 0]) ∧ Own w w' 27 4 (.slice A f.length c) f.length cs ∧ RepP w' (Fresh w w') f cs
def RetOne (w : World) (r : List UInt8) : Nat ⊕ (FV × List UInt8) → Ending → World → Prop
  | .inl er, e, w' => Below w.heap.size w w' ∧ ∃ k x s A n c kk, e = .returned (.tuple #[.agg (fcells k x s A n c), .int .i64 kk, .int .i64 (er : Int)])
  | .inr (v, r'), e, w' => Below w.heap.size w w' ∧ IsInt v.1 ∧ IsInt v.2.1 ∧ ∃ A c csub, e = .returned (.tuple #[.agg (fcells v.1 v.2.1 v.2.2.1 A v.2.2.2.length c), .int .i64 ((r.length - r'.length : Nat) : Int), .int .i64 0]) ∧
      SeqP w' (Fresh w w') 4 A v.2.2.2.length csub ∧ RepP w' (Fresh w w') v.2.2.2 csub
def ReadOK (F : Nat) : Prop :=
  ∀ (d : Nat) (l : List UInt8) (A : Option Addr) (n c : Nat) (w : World) (B : Nat), l.length < F → l.length = n → n ≤ 1000000000 → n ≤ c → B ≤ w.heap.size → Seq w B 1 A n (l.map bv) → d ≤ 129 →
    Calls Try.prog 35 #[.slice A n c, .int .i64 (d : Int)] w (RetRead w l (rd F d l))
theorem takeI_int (l : List UInt8) : IsInt (takeI l).1 := by
  have := takeU_lt l
  unfold takeI unzig IsInt
  dsimp only
  split <;> omega
set_option maxRecDepth 100000 in
set_option maxHeartbeats 400000 in
theorem readOne_any (F : Nat) (hR : ReadOK F) (u : UInt8) (d : Nat) (l : List UInt8) (A : Option Addr) (n c : Nat) (w : World) (B : Nat) (hF : l.length < F) (hl : l.length = n) (hm : n ≤ 1000000000) (hc : n ≤ c) (hB : B ≤ w.heap.size)
    (hs : Seq w B 1 A n (l.map bv)) (hd : d ≤ 128) (hu : u.toNat ≤ 2) :
    Calls Try.prog 38 #[.slice A n c, .int .i64 (u.toNat : Int), .int .i64 (d : Int)] w (RetOne w l (one (rd F (d + 1)) u l)) := by
  have h3 : u.toNat = 0 ∨ u.toNat = 1 ∨ u.toNat = 2 := by omega
  subst hl
  unfold one
  have HR := Lib.hid hR; clear hR
  rcases h3 with h | h | h
  · rw [if_pos h, h]
    have C := fun w' (hb : Below w.heap.size w w') => takeInt_any A _ c l w' B rfl hm (hs.below (hb.mono hB))
    have hT := takeI_int l
    have hK : (takeI l).2.2 = 0 → (takeI l).2.1 ≤ l.length := fun h => (takeU_len (l := l) h).2
    generalize takeI l = T at C hT hK ⊢
    obtain ⟨t1, t2, t3⟩ := T
    unfold itrip at C
    dsimp only at C hT hK ⊢
    replace C := Lib.hid C
    have HT := Lib.hid hT; clear hT
    have HK := Lib.hid hK; clear hK
    go_enter Try.func38, Try.ntmps38
    repeat' ((fail_if_success at_builtin); (first | go_skip | go_guarded | go_step))
    refine (C.out _ (((Below.refl _ _).alloc (Nat.le_refl _) _).alloc (by simp) _)).mono ?_
    rintro e w' ⟨rfl, rfl⟩
    dsimp only
    repeat' ((fail_if_success at_builtin); (first | go_skip | go_guarded | go_step))
    have hb2 := fun o1 o2 => (((Below.refl w.heap.size w).alloc (Nat.le_refl _) o1).alloc (by simp) o2)
    by_cases h0 : t3 = 0
    · subst h0
      rw [if_neg (by simp)]
      refine bodyPost_ret (v := .tuple #[.agg #[.int .i64 0, .int .i64 t1, .string ByteArray.empty, .slice none 0 0], .int .i64 (t2 : Int), .int .i64 0]) (by simp [results, Try.results38, go_sem]; rfl) rfl ?_
      refine ⟨hb2 _ _, ⟨by omega, by omega⟩, HT.out, none, 0, [], ?_, SeqP.nil_, rfl⟩
      have := HK.out rfl
      rw [List.length_drop, show l.length - (l.length - t2) = t2 from by omega]
      rfl
    · rw [if_pos h0]
      refine bodyPost_ret (v := .tuple #[.agg #[.int .i64 0, .int .i64 t1, .string ByteArray.empty, .slice none 0 0], .int .i64 (t2 : Int), .int .i64 (t3 : Int)]) (by simp [results, Try.results38, go_sem]; rfl) rfl ?_
      exact ⟨hb2 _ _, _, _, _, _, _, _, _, rfl⟩
  · rw [if_neg (by omega), if_pos h, h]
    have C := fun w' (hb : Below w.heap.size w w') => takeStr_any A _ c l w' B rfl hm hc (hs.below (hb.mono hB))
    have hK : (takeS l).2.2 = 0 → (takeS l).2.1 ≤ l.length := fun h => (takeS_len (l := l) h).2
    generalize takeS l = T at C hK ⊢
    obtain ⟨t1, t2, t3⟩ := T
    unfold strip at C
    dsimp only at C hK ⊢
    generalize ByteArray.mk t1.toArray = st at C ⊢
    replace C := Lib.hid C
    have HK := Lib.hid hK; clear hK
    go_enter Try.func38, Try.ntmps38
    repeat' ((fail_if_success at_builtin); (first | go_skip | go_guarded | go_step))
    refine (C.out _ (((Below.refl _ _).alloc (Nat.le_refl _) _).alloc (by simp) _)).mono ?_
    rintro e w' ⟨rfl, rfl⟩
    dsimp only
    repeat' ((fail_if_success at_builtin); (first | go_skip | go_guarded | go_step))
    have hb2 := fun o1 o2 => (((Below.refl w.heap.size w).alloc (Nat.le_refl _) o1).alloc (by simp) o2)
    by_cases h0 : t3 = 0
    · subst h0
      rw [if_neg (by simp)]
      refine bodyPost_ret (v := .tuple #[.agg #[.int .i64 1, .int .i64 0, .string st, .slice none 0 0], .int .i64 (t2 : Int), .int .i64 0]) (by simp [results, Try.results38, go_sem]) rfl ?_
      refine ⟨hb2 _ _, ⟨by dsimp only; omega, by dsimp only; omega⟩, ⟨by dsimp only; omega, by dsimp only; omega⟩, none, 0, [], ?_, SeqP.nil_, rfl⟩
      have := HK.out rfl
      rw [List.length_drop, show l.length - (l.length - t2) = t2 from by omega]
      rfl
    · rw [if_pos h0]
      refine bodyPost_ret (v := .tuple #[.agg #[.int .i64 1, .int .i64 0, .string st, .slice none 0 0], .int .i64 (t2 : Int), .int .i64 (t3 : Int)]) (by simp [results, Try.results38, go_sem]) rfl ?_
      exact ⟨hb2 _ _, _, _, _, _, _, _, _, rfl⟩
  · rw [if_neg (by omega), if_neg (by omega), h]
    have C := fun w' (hb : Below w.heap.size w w') => HR.out (d + 1) l A _ c w' B hF rfl hm hc (Nat.le_trans hB hb.size) (hs.below (hb.mono hB)) (by omega)
    have hG := rd_good F (d + 1) l hF
    generalize rd F (d + 1) l = T at C hG ⊢
    replace C := Lib.hid C
    go_enter Try.func38, Try.ntmps38
    repeat' ((fail_if_success at_builtin); (first | go_skip | go_guarded | go_step))
    have hb2 := fun o1 o2 => (((Below.refl w.heap.size w).alloc (Nat.le_refl _) o1).alloc (by simp) o2)
    refine (C.out _ (hb2 _ _)).mono ?_
    cases T with
    | inl er =>
      rintro e w' ⟨rfl, hb⟩
      have hw : w.heap.size + 1 < w'.heap.size := by have := hb.size; simp at this; omega
      obtain ⟨hc1, hf1⟩ := bcell hb
      have q0 : w'.cell? ⟨w.heap.size, 0, none⟩ = some (.int .i64 0) := by rw [hc1 _ _ (by simp; omega)]; simp [go_sem]
      have q1 : w'.cell? ⟨w.heap.size, 1, none⟩ = some (.int .i64 0) := by rw [hc1 _ _ (by simp; omega)]; simp [go_sem]
      have q2 : w'.cell? ⟨w.heap.size, 2, none⟩ = some (.string ⟨#[]⟩) := by rw [hc1 _ _ (by simp; omega)]; simp [go_sem]
      have q3 : w'.cell? ⟨w.heap.size, 3, none⟩ = some (.slice none 0 0) := by rw [hc1 _ _ (by simp; omega)]; simp [go_sem]
      have r0 : w'.cell? ⟨w.heap.size + 1, 0, none⟩ = some (.int .i64 2) := by rw [hc1 _ _ (by simp)]; simp [go_sem]
      have r1 : w'.cell? ⟨w.heap.size + 1, 1, none⟩ = some (.int .i64 0) := by rw [hc1 _ _ (by simp)]; simp [go_sem]
      have r2 : w'.cell? ⟨w.heap.size + 1, 2, none⟩ = some (.string ⟨#[]⟩) := by rw [hc1 _ _ (by simp)]; simp [go_sem]
      have r3 : w'.cell? ⟨w.heap.size + 1, 3, none⟩ = some (.slice none 0 0) := by rw [hc1 _ _ (by simp)]; simp [go_sem]
      have z0 : ∀ j, w'.frozen? ⟨w.heap.size, j, none⟩ = false := fun j => by rw [hf1 _ _ (by simp; omega)]; simp [go_sem]
      have z1 : ∀ j, w'.frozen? ⟨w.heap.size + 1, j, none⟩ = false := fun j => by rw [hf1 _ _ (by simp)]; simp [go_sem]
      clear hc1 hf1
      have hb9 := (hb2 _ _).trans (hb.mono (hb2 _ _).size)
      dsimp only
      repeat' ((fail_if_success at_builtin); (first | go_skip | go_guarded | go_step))
      dsimp only
      refine bodyPost_ret (v := .tuple #[.agg #[.int .i64 2, .int .i64 0, .string ByteArray.empty, .slice none 0 0], .int .i64 0, .int .i64 (er : Int)]) ?_ rfl ?_
      · simp only [results, Try.results38]
        go_simp
        rfl
      exact ⟨by repeat (first | exact hb9 | refine Below.setCell ?_ (by simp) _), _, _, _, _, _, _, _, rfl⟩
    | inr p =>
      obtain ⟨f, r⟩ := p
      rintro e w' ⟨A3, c3, cs3, rfl, hown, hrep⟩
      have hb := hown.2
      have hw : w.heap.size + 1 < w'.heap.size := by have := hb.size; simp at this; omega
      obtain ⟨hc1, hf1⟩ := bcell hb
      have q0 : w'.cell? ⟨w.heap.size, 0, none⟩ = some (.int .i64 0) := by rw [hc1 _ _ (by simp; omega)]; simp [go_sem]
      have q1 : w'.cell? ⟨w.heap.size, 1, none⟩ = some (.int .i64 0) := by rw [hc1 _ _ (by simp; omega)]; simp [go_sem]
      have q2 : w'.cell? ⟨w.heap.size, 2, none⟩ = some (.string ⟨#[]⟩) := by rw [hc1 _ _ (by simp; omega)]; simp [go_sem]
      have q3 : w'.cell? ⟨w.heap.size, 3, none⟩ = some (.slice none 0 0) := by rw [hc1 _ _ (by simp; omega)]; simp [go_sem]
      have r0 : w'.cell? ⟨w.heap.size + 1, 0, none⟩ = some (.int .i64 2) := by rw [hc1 _ _ (by simp)]; simp [go_sem]
      have r1 : w'.cell? ⟨w.heap.size + 1, 1, none⟩ = some (.int .i64 0) := by rw [hc1 _ _ (by simp)]; simp [go_sem]
      have r2 : w'.cell? ⟨w.heap.size + 1, 2, none⟩ = some (.string ⟨#[]⟩) := by rw [hc1 _ _ (by simp)]; simp [go_sem]
      have r3 : w'.cell? ⟨w.heap.size + 1, 3, none⟩ = some (.slice none 0 0) := by rw [hc1 _ _ (by simp)]; simp [go_sem]
      have z0 : ∀ j, w'.frozen? ⟨w.heap.size, j, none⟩ = false := fun j => by rw [hf1 _ _ (by simp; omega)]; simp [go_sem]
      have z1 : ∀ j, w'.frozen? ⟨w.heap.size + 1, j, none⟩ = false := fun j => by rw [hf1 _ _ (by simp)]; simp [go_sem]
      clear hc1 hf1
      have hb9 := (hb2 _ _).trans (hb.mono (hb2 _ _).size)
      have hseq3 := hown.seqF
      have Hown := Lib.hid hown; clear hown
      have Hrep := Lib.hid hrep; clear hrep
      have Hseq3 := Lib.hid hseq3; clear hseq3
      dsimp only
      repeat' ((fail_if_success at_builtin); (first | go_skip | go_guarded | go_step))
      dsimp only
      refine bodyPost_ret (v := .tuple #[.agg #[.int .i64 2, .int .i64 0, .string ByteArray.empty, .slice A3 f.length c3], .int .i64 ((l.length - r.length : Nat) : Int), .int .i64 0]) ?_ rfl ?_
      · simp only [results, Try.results38]
        go_simp
        rfl
      have hB5 := fun x1 x2 x3 x4 x5 => ((((hb9.setCell (p := ⟨w.heap.size + 1, 3, none⟩) (by simp) x1).setCell (p := ⟨w.heap.size, 0, none⟩) (by simp) x2).setCell (p := ⟨w.heap.size, 1, none⟩) (by simp) x3).setCell (p := ⟨w.heap.size, 2, none⟩) (by simp) x4).setCell (p := ⟨w.heap.size, 3, none⟩) (by simp) x5
      have hfar : ∀ (x1 x2 x3 x4 x5 : Value) (p : Addr), w.heap.size + 2 ≤ p.block → (((((w'.setCell ⟨w.heap.size + 1, 3, none⟩ x1).setCell ⟨w.heap.size, 0, none⟩ x2).setCell ⟨w.heap.size, 1, none⟩ x3).setCell ⟨w.heap.size, 2, none⟩ x4).setCell ⟨w.heap.size, 3, none⟩ x5).cell? p = w'.cell? p := by
        intro x1 x2 x3 x4 x5 p hp
        rw [World.cell?_setCell_far _ _ _ _ (by dsimp only; omega), World.cell?_setCell_far _ _ _ _ (by dsimp only; omega), World.cell?_setCell_far _ _ _ _ (by dsimp only; omega), World.cell?_setCell_far _ _ _ _ (by dsimp only; omega), World.cell?_setCell_far _ _ _ _ (by dsimp only; omega)]
      have hsz : ∀ (x1 x2 x3 x4 x5 : Value), (((((w'.setCell ⟨w.heap.size + 1, 3, none⟩ x1).setCell ⟨w.heap.size, 0, none⟩ x2).setCell ⟨w.heap.size, 1, none⟩ x3).setCell ⟨w.heap.size, 2, none⟩ x4).setCell ⟨w.heap.size, 3, none⟩ x5).heap.size = w'.heap.size := by
        intro x1 x2 x3 x4 x5
        simp [World.setCell]
      have hS : ∀ b, Fresh ((w.alloc (.cells #[.int .i64 0, .int .i64 0, .string ⟨#[]⟩, .slice none 0 0] 27)).alloc (.cells #[.int .i64 2, .int .i64 0, .string ⟨#[]⟩, .slice none 0 0] 27)) w' b → w.heap.size + 2 ≤ b ∧ b < w'.heap.size := by
        intro b hb
        have h1 := hb.1
        simp only [World.size_alloc] at h1
        exact ⟨h1, hb.2⟩
      have Hq : SeqP w' (Fresh ((w.alloc (.cells #[.int .i64 0, .int .i64 0, .string ⟨#[]⟩, .slice none 0 0] 27)).alloc (.cells #[.int .i64 2, .int .i64 0, .string ⟨#[]⟩, .slice none 0 0] 27)) w') 4 A3 f.length cs3 := Hseq3.out
      refine ⟨hB5 _ _ _ _ _, ⟨by dsimp only; omega, by dsimp only; omega⟩, ⟨by dsimp only; omega, by dsimp only; omega⟩, A3, c3, cs3, rfl, ?_, ?_⟩
      · exact Hq.map (fun p hp => hfar _ _ _ _ _ p (hS _ hp).1) (fun b hb => ⟨by have := (hS b hb).1; omega, by rw [hsz]; exact (hS b hb).2⟩)
      · exact RepP.map (fun p hp => hfar _ _ _ _ _ p (hS _ hp).1) (fun b hb => ⟨by have := (hS b hb).1; omega, by rw [hsz]; exact (hS b hb).2⟩) Hrep.out
end Go.Proofs.Ytjipnomokggcfaa
