/- Joined: Read JnF Box Read2 Fields. -/
import Derived.Test.YtgdapkglofchjaaGreatDoorF5
set_option maxRecDepth 100000
set_option maxHeartbeats 6000000
set_option linter.unusedVariables false
namespace Go.Proofs.YtgdapkglofchjaaGreatDoor
open Go.RowKit
def Fresh (w w' : World) (b : Nat) : Prop := w.heap.size ≤ b ∧ b < w'.heap.size
theorem Own.seqF {w w' : World} {e : TypeId} {size n c : Nat} {A : Option Addr} {xs : List Value} (H : Own w w' e size (.slice A n c) n xs) : SeqP w' (Fresh w w') size A n xs := by
 refine ⟨H.1.1, fun hn => ?_⟩
 obtain ⟨g, rfl, h1, h2, h3, _⟩ := H.head hn
 exact ⟨g, 0, rfl, ⟨h1, h2⟩, fun j u hu => by rw [Nat.zero_add]; exact h3 j u hu⟩
theorem Own.seqK {w w' : World} {e : TypeId} {n c : Nat} {A : Option Addr} {xs : List Value} (H : Own w w' e 4 (.slice A n c) n xs) : SeqK w' (Fresh w w') A n c xs := ⟨H.seqF, H.cap_le⟩
def RetRead (w : World) (l : List UInt8) : Nat ⊕ (Flds × List UInt8) → Ending → World → Prop
 | .inl er, e, w' => e = .returned (.tuple #[.slice none 0 0, .int .i64 0, .int .i64 (er : Int)]) ∧ Below w.heap.size w w'
 | .inr (f, r), e, w' => ∃ A c cs, e = .returned (.tuple #[.slice A f.length c, .int .i64 ((l.length - r.length : Nat) : Int), .int .i64 0]) ∧ Own w w' 98 4 (.slice A f.length c) f.length cs ∧ RepP w' (Fresh w w') f cs
def RetOne (w : World) (r : List UInt8) : Nat ⊕ (FV × List UInt8) → Ending → World → Prop
 | .inl er, e, w' => Below w.heap.size w w' ∧ ∃ k x s A n c kk, e = .returned (.tuple #[.agg (fcells k x s A n c), .int .i64 kk, .int .i64 (er : Int)])
 | .inr (v, r'), e, w' => Below w.heap.size w w' ∧ IsInt v.1 ∧ IsInt v.2.1 ∧ ∃ A c csub, e = .returned (.tuple #[.agg (fcells v.1 v.2.1 v.2.2.1 A v.2.2.2.length c), .int .i64 ((r.length - r'.length : Nat) : Int), .int .i64 0]) ∧
  SeqK w' (Fresh w w') A v.2.2.2.length c csub ∧ RepP w' (Fresh w w') v.2.2.2 csub
def ReadOK (F : Nat) : Prop :=
 ∀ (d : Nat) (l : List UInt8) (A : Option Addr) (n c : Nat) (w : World) (B : Nat), l.length < F → l.length = n → n ≤ 1000000000 → n ≤ c → B ≤ w.heap.size → Seq w B 1 A n (l.map bv) → d ≤ 129 →
  Calls Tryz.prog 75 #[.slice A n c, .int .i64 (d : Int)] w (RetRead w l (rd F d l))
theorem takeI_int (l : List UInt8) : IsInt (takeI l).1 := by
 have := takeU_lt l
 unfold takeI unzig IsInt
 dsimp only
 split <;> omega
theorem readOne_any (F : Nat) (hR : ReadOK F) (u : UInt8) (d : Nat) (l : List UInt8) (A : Option Addr) (n c : Nat) (w : World) (B : Nat) (hF : l.length < F) (hl : l.length = n) (hm : n ≤ 1000000000) (hc : n ≤ c) (hB : B ≤ w.heap.size)
  (hs : Seq w B 1 A n (l.map bv)) (hd : d ≤ 128) (hu : u.toNat ≤ 2) :
  Calls Tryz.prog 117 #[.slice A n c, .int .i64 (u.toNat : Int), .int .i64 (d : Int)] w (RetOne w l (one (rd F (d + 1)) u l)) := by
 have h3 : u.toNat = 0 ∨ u.toNat = 1 ∨ u.toNat = 2 := by omega
 subst hl
 unfold one
 have HR := Lib.hid hR; clear hR
 rcases h3 with h | h | h
 ·rw [if_pos h, h]
  have C := fun w' (hb : Below w.heap.size w w') => takeInt_any A _ c l w' B rfl hm (hs.below (hb.mono hB))
  have hT := takeI_int l
  have hK : (takeI l).2.2 = 0 → (takeI l).2.1 ≤ l.length := fun h => (takeU_len (l := l) h).2
  generalize takeI l = T at C hT hK ⊢
  obtain ⟨t1, t2, t3⟩ := T
  unfold itrip at C
  dsimp only at C hT hK ⊢
  replace C := Lib.hid C
  have HT := Lib.hid hT; clear hT
  have HK := Lib.hid hK; clear hK
  go_enter Tryz.func117, Tryz.ntmps117
  repeat' (first | go_skip | go_guarded | go_step)
  refine (C.out _ (((Below.refl _ _).alloc (Nat.le_refl _) _).alloc (by simp) _)).mono ?_
  rintro e w' ⟨rfl, rfl⟩
  dsimp only
  repeat' ((fail_if_success at_builtin); first | go_skip | go_guarded | go_step)
  have hb2 := fun o1 o2 => (((Below.refl w.heap.size w).alloc (Nat.le_refl _) o1).alloc (by simp) o2)
  by_cases h0 : t3 = 0
  ·subst h0
   rw [if_neg (by simp)]
   refine bodyPost_ret (v := .tuple #[.agg #[.int .i64 0, .int .i64 t1, .string ByteArray.empty, .slice none 0 0], .int .i64 (t2 : Int), .int .i64 0]) (by simp [results, Tryz.results117, go_sem]; rfl) rfl ?_
   refine ⟨hb2 _ _, ⟨by omega, by omega⟩, HT.out, none, 0, [], ?_, ⟨SeqP.nil_, Nat.le_refl _⟩, rfl⟩
   have := HK.out rfl
   rw [List.length_drop, show l.length - (l.length - t2) = t2 from by omega]
   rfl
  ·rw [if_pos h0]
   refine bodyPost_ret (v := .tuple #[.agg #[.int .i64 0, .int .i64 t1, .string ByteArray.empty, .slice none 0 0], .int .i64 (t2 : Int), .int .i64 (t3 : Int)]) (by simp [results, Tryz.results117, go_sem]; rfl) rfl ?_
   exact ⟨hb2 _ _, _, _, _, _, _, _, _, rfl⟩
 ·rw [if_neg (by omega), if_pos h, h]
  have C := fun w' (hb : Below w.heap.size w w') => takeStr_any A _ c l w' B rfl hm hc (hs.below (hb.mono hB))
  have hK : (takeS l).2.2 = 0 → (takeS l).2.1 ≤ l.length := fun h => (takeS_len (l := l) h).2
  generalize takeS l = T at C hK ⊢
  obtain ⟨t1, t2, t3⟩ := T
  unfold strip at C
  dsimp only at C hK ⊢
  generalize ByteArray.mk t1.toArray = st at C ⊢
  replace C := Lib.hid C
  have HK := Lib.hid hK; clear hK
  go_enter Tryz.func117, Tryz.ntmps117
  repeat' (first | go_skip | go_guarded | go_step)
  refine (C.out _ (((Below.refl _ _).alloc (Nat.le_refl _) _).alloc (by simp) _)).mono ?_
  rintro e w' ⟨rfl, rfl⟩
  dsimp only
  repeat' ((fail_if_success at_builtin); first | go_skip | go_guarded | go_step)
  have hb2 := fun o1 o2 => (((Below.refl w.heap.size w).alloc (Nat.le_refl _) o1).alloc (by simp) o2)
  by_cases h0 : t3 = 0
  ·subst h0
   rw [if_neg (by simp)]
   refine bodyPost_ret (v := .tuple #[.agg #[.int .i64 1, .int .i64 0, .string st, .slice none 0 0], .int .i64 (t2 : Int), .int .i64 0]) (by simp [results, Tryz.results117, go_sem]) rfl ?_
   refine ⟨hb2 _ _, ⟨by dsimp only; omega, by dsimp only; omega⟩, ⟨by dsimp only; omega, by dsimp only; omega⟩, none, 0, [], ?_, ⟨SeqP.nil_, Nat.le_refl _⟩, rfl⟩
   have := HK.out rfl
   rw [List.length_drop, show l.length - (l.length - t2) = t2 from by omega]
   rfl
  ·rw [if_pos h0]
   refine bodyPost_ret (v := .tuple #[.agg #[.int .i64 1, .int .i64 0, .string st, .slice none 0 0], .int .i64 (t2 : Int), .int .i64 (t3 : Int)]) (by simp [results, Tryz.results117, go_sem]) rfl ?_
   exact ⟨hb2 _ _, _, _, _, _, _, _, _, rfl⟩
 ·rw [if_neg (by omega), if_neg (by omega), h]
  have C := fun w' (hb : Below w.heap.size w w') => HR.out (d + 1) l A _ c w' B hF rfl hm hc (Nat.le_trans hB hb.size) (hs.below (hb.mono hB)) (by omega)
  have hG := rd_good F (d + 1) l hF
  generalize rd F (d + 1) l = T at C hG ⊢
  replace C := Lib.hid C
  go_enter Tryz.func117, Tryz.ntmps117
  repeat' ((fail_if_success at_builtin); first | go_skip | go_guarded | go_step)
  have hb2 := fun o1 o2 => (((Below.refl w.heap.size w).alloc (Nat.le_refl _) o1).alloc (by simp) o2)
  refine (C.out _ (hb2 _ _)).mono ?_
  cases T with
  | inl er =>
   rintro e w' ⟨rfl, hb⟩
   have hw : w.heap.size + 1 < w'.heap.size := by have := hb.size; simp at this; omega
   obtain ⟨hc1, hf1⟩ := bcell hb
   have q0 : w'.cell? ⟨w.heap.size, 0, none⟩ = some (.int .i64 0) := by rw [hc1 _ _ (by simp; omega)]; simp [go_sem]
   have q1 : w'.cell? ⟨w.heap.size, 1, none⟩ = some (.int .i64 0) := by rw [hc1 _ _ (by simp; omega)]; simp [go_sem]
   have q2 : w'.cell? ⟨w.heap.size, 2, none⟩ = some (.string ⟨#[]⟩) := by rw [hc1 _ _ (by simp; omega)]; simp [go_sem]
   have q3 : w'.cell? ⟨w.heap.size, 3, none⟩ = some (.slice none 0 0) := by rw [hc1 _ _ (by simp; omega)]; simp [go_sem]
   have r0 : w'.cell? ⟨w.heap.size + 1, 0, none⟩ = some (.int .i64 2) := by rw [hc1 _ _ (by simp)]; simp [go_sem]
   have r1 : w'.cell? ⟨w.heap.size + 1, 1, none⟩ = some (.int .i64 0) := by rw [hc1 _ _ (by simp)]; simp [go_sem]
   have r2 : w'.cell? ⟨w.heap.size + 1, 2, none⟩ = some (.string ⟨#[]⟩) := by rw [hc1 _ _ (by simp)]; simp [go_sem]
   have r3 : w'.cell? ⟨w.heap.size + 1, 3, none⟩ = some (.slice none 0 0) := by rw [hc1 _ _ (by simp)]; simp [go_sem]
   have z0 : ∀ j, w'.frozen? ⟨w.heap.size, j, none⟩ = false := fun j => by rw [hf1 _ _ (by simp; omega)]; simp [go_sem]
   have z1 : ∀ j, w'.frozen? ⟨w.heap.size + 1, j, none⟩ = false := fun j => by rw [hf1 _ _ (by simp)]; simp [go_sem]
   clear hc1 hf1
   have hb9 := (hb2 _ _).trans (hb.mono (hb2 _ _).size)
   dsimp only
   repeat' ((fail_if_success at_builtin); first | go_skip | go_guarded | go_step)
   dsimp only
   refine bodyPost_ret (v := .tuple #[.agg #[.int .i64 2, .int .i64 0, .string ByteArray.empty, .slice none 0 0], .int .i64 0, .int .i64 (er : Int)]) ?_ rfl ?_
   ·simp only [results, Tryz.results117]
    go_simp
    rfl
   exact ⟨by repeat (first | exact hb9 | refine Below.setCell ?_ (by simp) _), _, _, _, _, _, _, _, rfl⟩
  | inr p =>
   obtain ⟨f, r⟩ := p
   rintro e w' ⟨A3, c3, cs3, rfl, hown, hrep⟩
   have hb := hown.2
   have hw : w.heap.size + 1 < w'.heap.size := by have := hb.size; simp at this; omega
   obtain ⟨hc1, hf1⟩ := bcell hb
   have q0 : w'.cell? ⟨w.heap.size, 0, none⟩ = some (.int .i64 0) := by rw [hc1 _ _ (by simp; omega)]; simp [go_sem]
   have q1 : w'.cell? ⟨w.heap.size, 1, none⟩ = some (.int .i64 0) := by rw [hc1 _ _ (by simp; omega)]; simp [go_sem]
   have q2 : w'.cell? ⟨w.heap.size, 2, none⟩ = some (.string ⟨#[]⟩) := by rw [hc1 _ _ (by simp; omega)]; simp [go_sem]
   have q3 : w'.cell? ⟨w.heap.size, 3, none⟩ = some (.slice none 0 0) := by rw [hc1 _ _ (by simp; omega)]; simp [go_sem]
   have r0 : w'.cell? ⟨w.heap.size + 1, 0, none⟩ = some (.int .i64 2) := by rw [hc1 _ _ (by simp)]; simp [go_sem]
   have r1 : w'.cell? ⟨w.heap.size + 1, 1, none⟩ = some (.int .i64 0) := by rw [hc1 _ _ (by simp)]; simp [go_sem]
   have r2 : w'.cell? ⟨w.heap.size + 1, 2, none⟩ = some (.string ⟨#[]⟩) := by rw [hc1 _ _ (by simp)]; simp [go_sem]
   have r3 : w'.cell? ⟨w.heap.size + 1, 3, none⟩ = some (.slice none 0 0) := by rw [hc1 _ _ (by simp)]; simp [go_sem]
   have z0 : ∀ j, w'.frozen? ⟨w.heap.size, j, none⟩ = false := fun j => by rw [hf1 _ _ (by simp; omega)]; simp [go_sem]
   have z1 : ∀ j, w'.frozen? ⟨w.heap.size + 1, j, none⟩ = false := fun j => by rw [hf1 _ _ (by simp)]; simp [go_sem]
   clear hc1 hf1
   have hb9 := (hb2 _ _).trans (hb.mono (hb2 _ _).size)
   have hseq3 := hown.seqK
   have Hown := Lib.hid hown; clear hown
   have Hrep := Lib.hid hrep; clear hrep
   have Hseq3 := Lib.hid hseq3; clear hseq3
   dsimp only
   repeat' ((fail_if_success at_builtin); first | go_skip | go_guarded | go_step)
   dsimp only
   refine bodyPost_ret (v := .tuple #[.agg #[.int .i64 2, .int .i64 0, .string ByteArray.empty, .slice A3 f.length c3], .int .i64 ((l.length - r.length : Nat) : Int), .int .i64 0]) ?_ rfl ?_
   ·simp only [results, Tryz.results117]
    go_simp
    rfl
   have hB5 := fun x1 x2 x3 x4 x5 => ((((hb9.setCell (p := ⟨w.heap.size + 1, 3, none⟩) (by simp) x1).setCell (p := ⟨w.heap.size, 0, none⟩) (by simp) x2).setCell (p := ⟨w.heap.size, 1, none⟩) (by simp) x3).setCell (p := ⟨w.heap.size, 2, none⟩) (by simp) x4).setCell (p := ⟨w.heap.size, 3, none⟩) (by simp) x5
   have hfar : ∀ (x1 x2 x3 x4 x5 : Value) (p : Addr), w.heap.size + 2 ≤ p.block → (((((w'.setCell ⟨w.heap.size + 1, 3, none⟩ x1).setCell ⟨w.heap.size, 0, none⟩ x2).setCell ⟨w.heap.size, 1, none⟩ x3).setCell ⟨w.heap.size, 2, none⟩ x4).setCell ⟨w.heap.size, 3, none⟩ x5).cell? p = w'.cell? p := by
    intro x1 x2 x3 x4 x5 p hp
    rw [World.cell?_setCell_far _ _ _ _ (by dsimp only; omega), World.cell?_setCell_far _ _ _ _ (by dsimp only; omega), World.cell?_setCell_far _ _ _ _ (by dsimp only; omega), World.cell?_setCell_far _ _ _ _ (by dsimp only; omega), World.cell?_setCell_far _ _ _ _ (by dsimp only; omega)]
   have hsz : ∀ (x1 x2 x3 x4 x5 : Value), (((((w'.setCell ⟨w.heap.size + 1, 3, none⟩ x1).setCell ⟨w.heap.size, 0, none⟩ x2).setCell ⟨w.heap.size, 1, none⟩ x3).setCell ⟨w.heap.size, 2, none⟩ x4).setCell ⟨w.heap.size, 3, none⟩ x5).heap.size = w'.heap.size := by
    intro x1 x2 x3 x4 x5
    simp [World.setCell]
   have hS : ∀ b, Fresh ((w.alloc (.cells #[.int .i64 0, .int .i64 0, .string ⟨#[]⟩, .slice none 0 0] 98)).alloc (.cells #[.int .i64 2, .int .i64 0, .string ⟨#[]⟩, .slice none 0 0] 98)) w' b → w.heap.size + 2 ≤ b ∧ b < w'.heap.size := by
    intro b hb
    have h1 := hb.1
    simp only [World.size_alloc] at h1
    exact ⟨h1, hb.2⟩
   have Hq : SeqK w' (Fresh ((w.alloc (.cells #[.int .i64 0, .int .i64 0, .string ⟨#[]⟩, .slice none 0 0] 98)).alloc (.cells #[.int .i64 2, .int .i64 0, .string ⟨#[]⟩, .slice none 0 0] 98)) w') A3 f.length c3 cs3 := Hseq3.out
   refine ⟨hB5 _ _ _ _ _, ⟨by dsimp only; omega, by dsimp only; omega⟩, ⟨by dsimp only; omega, by dsimp only; omega⟩, A3, c3, cs3, rfl, ?_, ?_⟩
   ·exact Hq.map (fun p hp => hfar _ _ _ _ _ p (hS _ hp).1) (fun b hb => ⟨by have := (hS b hb).1; omega, by rw [hsz]; exact (hS b hb).2⟩)
   ·exact RepP.map (fun p hp => hfar _ _ _ _ _ p (hS _ hp).1) (fun b hb => ⟨by have := (hS b hb).1; omega, by rw [hsz]; exact (hS b hb).2⟩) Hrep.out
def RetFs (w : World) (l : List FV) (e : Ending) (w' : World) : Prop := ∃ A c cs, e = .returned (.slice A l.length c) ∧ Own w w' fldT 4 (.slice A l.length c) l.length cs ∧ RList rF 4 w' (Fresh w w') l cs
theorem CW.ret {W0 w : World} {g : Nat} {l : List FV} (h : CW W0 w g l) : ∃ A c cs, w.cell? ⟨g, 0, none⟩ = some (.slice A l.length c) ∧ Own W0 w fldT 4 (.slice A l.length c) l.length cs ∧ RList rF 4 w (Fresh W0 w) l cs := by
 obtain ⟨A, c, cs, h⟩ := h
 exact ⟨A, c, cs, h.cel.cell 0 _ rfl, h.own, RList.map (fun x d hd => rF_ok _ _ _ _ x d (fun _ _ => rfl) (fun b hb => ⟨hb.1, hb.2.1⟩) hd) h.con⟩
theorem at_new (w : World) (E : List Value) (t : TypeId) : At (w.alloc (.cells E.toArray t)) w.heap.size 0 E := fun j u hu => by
 have := (CellsAt.new w E.toArray t).cell j u (by simpa using hu)
 rw [Nat.zero_add]
 exact this
theorem form_any (fs : List FV) (E : List Value) (w : World) (hr : RecL evC w (fun b => b < w.heap.size) fs E) (hs : lsz fs ≤ 1000000000) : Calls Tryz.prog 28 #[.agg E.toArray] w (RetFs w fs) := by
 go_enter Tryz.func28, Tryz.ntmps28
 go_upto_region 1 with (fail)
 have hA := at_new w E 43
 have hz : w.heap.size < (w.alloc (.cells E.toArray 43)).heap.size := by simp
 have hb := (Below.refl w.heap.size w).alloc (Nat.le_refl _) (.cells E.toArray 43)
 generalize World.alloc w _ = w1 at *
 have hr1 : RecL evC w1 (fun b => b < w1.heap.size) fs E := hr.map evC_ok (fun p hp => hb.cell hp) (fun b hb' => by omega)
 have hp1 := hz
 go_upto_region 2 with (fail)
 generalize hx_ : World.alloc w1 _ = w2
 have hc : CW w1 w2 w1.heap.size [] := by rw [← hx_]; exact CW.new w1
 clear hx_
 have hb2 := hc.bel
 repeat' (first | go_skip | go_guarded | go_step)
 refine (event_w w1 w2 w1.heap.size w.heap.size 0 fs E hc hp1 (hA.below hb2 hp1) (hr1.map evC_ok (fun p hp => hb2.cell hp) (fun b hb => hb)) hs).mono ?_
 clear hc
 rintro e w3 ⟨rfl, hc⟩
 dsimp only
 obtain ⟨A, c, cs, q0, hO, hL⟩ := hc.ret
 have hl := hc.lt
 clear hc
 repeat' (first | go_skip | go_guarded | go_step)
 go_ret
 exact ⟨A, c, cs, rfl, Own.up hb hO, RList.map (fun x d hd => rF_ok _ _ _ _ x d (fun _ _ => rfl) (fun b hb => ⟨by have := hb.1; omega, hb.2⟩) hd) hL⟩
def Box (wr wx : World) (v : FV) (u : Value) : Prop := ∃ (g : Nat) (A : Option Addr) (c : Nat) (cs : List Value), u = .pointer (some ⟨g, 0, none⟩) ∧ wr.heap.size ≤ g ∧ g < wx.heap.size ∧
 wx.cell? ⟨g, 0, none⟩ = some (.int .i64 v.1) ∧ wx.cell? ⟨g, 1, none⟩ = some (.int .i64 v.2.1) ∧ wx.cell? ⟨g, 2, none⟩ = some (.string v.2.2.1) ∧ wx.cell? ⟨g, 3, none⟩ = some (.slice A v.2.2.2.length c) ∧
 SeqK wx (Fresh wr wx) A v.2.2.2.length c cs ∧ RepP wx (Fresh wr wx) v.2.2.2 cs
theorem box_after {wr W0 w7 : World} {v : FV} {A : Option Addr} {c : Nat} {cs : List Value} {t : TypeId} (h0 : wr.heap.size ≤ W0.heap.size) (h1 : W0.heap.size ≤ w7.heap.size)
  (hs : SeqK w7 (Fresh W0 w7) A v.2.2.2.length c cs) (hr : RepP w7 (Fresh W0 w7) v.2.2.2 cs) :
  Box wr (w7.alloc (.cells #[.int .i64 v.1, .int .i64 v.2.1, .string v.2.2.1, .slice A v.2.2.2.length c] t)) v (.pointer (some ⟨w7.heap.size, 0, none⟩)) := by
 have hk : ∀ p : Addr, Fresh W0 w7 p.block → (w7.alloc (.cells #[.int .i64 v.1, .int .i64 v.2.1, .string v.2.2.1, .slice A v.2.2.2.length c] t)).cell? p = w7.cell? p :=
  fun p hp => ((Below.refl w7.heap.size w7).alloc (Nat.le_refl _) _).cell hp.2
 have hS : ∀ b, Fresh W0 w7 b → Fresh wr (w7.alloc (.cells #[.int .i64 v.1, .int .i64 v.2.1, .string v.2.2.1, .slice A v.2.2.2.length c] t)) b := fun b hb => ⟨by have := hb.1; omega, by have := hb.2; simp; omega⟩
 exact ⟨w7.heap.size, A, c, cs, rfl, by omega, by simp, by simp [go_sem], by simp [go_sem], by simp [go_sem], by simp [go_sem], hs.map hk hS, RepP.map hk hS hr⟩
theorem box_before {wr W0 w7 : World} {v : FV} {A : Option Addr} {c : Nat} {cs : List Value} {x0 x1 x2 x3 : Value} {g : Nat} (hg : wr.heap.size ≤ g) (h0 : W0.heap.size = g + 1) (h1 : W0.heap.size ≤ w7.heap.size)
  (q0 : w7.cell? ⟨g, 0, none⟩ = some x0) (q1 : w7.cell? ⟨g, 1, none⟩ = some x1) (q2 : w7.cell? ⟨g, 2, none⟩ = some x2) (q3 : w7.cell? ⟨g, 3, none⟩ = some x3)
  (hs : SeqK w7 (Fresh W0 w7) A v.2.2.2.length c cs) (hr : RepP w7 (Fresh W0 w7) v.2.2.2 cs) :
  Box wr ((((w7.setCell ⟨g, 0, none⟩ (.int .i64 v.1)).setCell ⟨g, 1, none⟩ (.int .i64 v.2.1)).setCell ⟨g, 2, none⟩ (.string v.2.2.1)).setCell ⟨g, 3, none⟩ (.slice A v.2.2.2.length c)) v (.pointer (some ⟨g, 0, none⟩)) := by
 have hk : ∀ p : Addr, Fresh W0 w7 p.block → ((((w7.setCell ⟨g, 0, none⟩ (.int .i64 v.1)).setCell ⟨g, 1, none⟩ (.int .i64 v.2.1)).setCell ⟨g, 2, none⟩ (.string v.2.2.1)).setCell ⟨g, 3, none⟩ (.slice A v.2.2.2.length c)).cell? p = w7.cell? p := by
  intro p hp
  have := hp.1
  rw [World.cell?_setCell_far _ _ _ _ (by dsimp only; omega), World.cell?_setCell_far _ _ _ _ (by dsimp only; omega), World.cell?_setCell_far _ _ _ _ (by dsimp only; omega), World.cell?_setCell_far _ _ _ _ (by dsimp only; omega)]
 have hS : ∀ b, Fresh W0 w7 b → Fresh wr ((((w7.setCell ⟨g, 0, none⟩ (.int .i64 v.1)).setCell ⟨g, 1, none⟩ (.int .i64 v.2.1)).setCell ⟨g, 2, none⟩ (.string v.2.2.1)).setCell ⟨g, 3, none⟩ (.slice A v.2.2.2.length c)) b := fun b hb => ⟨by have := hb.1; omega, by have := hb.2; simp [go_sem]; omega⟩
 exact ⟨g, A, c, cs, rfl, hg, by simp [go_sem]; omega, by simp [go_sem, q0], by simp [go_sem, q1], by simp [go_sem, q2], by simp [go_sem, q3], hs.map hk hS, RepP.map hk hS hr⟩
def Kept (w wr : World) (v : Value) (b : Nat) : Prop := Fresh w wr b ∧ some b ≠ v.ownBlock
theorem kept_step {w wr wc w9 : World} {u v1 : Value} {n : Nat} {xs : List Value} {e : TypeId} {sz : Nat} {o : Obj} (H : Own w wr e sz u n xs) (hbx : Below wr.heap.size wr wc) (hg : Grew (wc.alloc o) w9 u v1) :
  (∀ p : Addr, Kept w wr u p.block → w9.cell? p = wr.cell? p) ∧ (∀ b, Kept w wr u b → Kept w w9 v1 b) ∧ (∀ p : Addr, Fresh wr wc p.block → w9.cell? p = wc.cell? p) ∧ (∀ b, Fresh wr wc b → Kept w w9 v1 b) := by
 have hs1 := hbx.size
 have hs2 : (wc.alloc o).heap.size = wc.heap.size + 1 := by simp
 have hs3 := hg.by_.size
 have hs4 := H.2.size
 have ha := (Below.refl wc.heap.size wc).alloc (Nat.le_refl _) o
 refine ⟨fun p hp => ?_, fun b hb => ?_, fun p hp => ?_, fun b hb => ?_⟩
 ·have h1 := hp.1.2
  rw [hg.cell (by omega) hp.2, ha.cell (by omega), hbx.cell h1]
 ·have h1 := hb.1
  unfold Fresh at h1
  exact ⟨⟨by omega, by omega⟩, hg.ne (by omega) hb.2⟩
 ·unfold Fresh at hp
  rw [hg.cell (by omega) (H.lt hp.1), ha.cell (by omega)]
 ·unfold Fresh at hb
  exact ⟨⟨by omega, by omega⟩, hg.ne (by omega) (H.lt hb.1)⟩
theorem held1_call {wr w1 w2 : World} {b o B2 : Nat} {u : Value} (hb : b < wr.heap.size) (h : Below wr.heap.size wr w1 ∧ w1.cell? ⟨b, o, none⟩ = some u) (hc : Below B2 w1 w2) (hB2 : B2 = w1.heap.size) :
  Below wr.heap.size wr w2 ∧ w2.cell? ⟨b, o, none⟩ = some u := by
 subst hB2
 exact ⟨h.1.trans (hc.mono h.1.size), (hc.cell (p := ⟨b, o, none⟩) (Nat.lt_of_lt_of_le hb h.1.size)).trans h.2⟩
theorem held1_alloc {wr w1 : World} {b o : Nat} {u : Value} (hb : b < wr.heap.size) (h : Below wr.heap.size wr w1 ∧ w1.cell? ⟨b, o, none⟩ = some u) (x : Obj) :
  Below wr.heap.size wr (w1.alloc x) ∧ (w1.alloc x).cell? ⟨b, o, none⟩ = some u :=
 held1_call hb h ((Below.refl _ _).alloc (Nat.le_refl _) x) rfl
theorem held1_set {wr w1 : World} {b o : Nat} {u x : Value} {p : Addr} (hb : b < wr.heap.size) (h : Below wr.heap.size wr w1 ∧ w1.cell? ⟨b, o, none⟩ = some u) (hp : wr.heap.size ≤ p.block) :
  Below wr.heap.size wr (w1.setCell p x) ∧ (w1.setCell p x).cell? ⟨b, o, none⟩ = some u :=
 ⟨h.1.setCell hp x, by rw [World.cell?_setCell_far _ _ _ _ (by dsimp only; omega)]; exact h.2⟩
theorem read_body (F : Nat) (hR : ReadOK F) : ReadOK (F + 1) := by
 intro d l A n c w B hF hl hm hc hB hs hd
 subst hl
 have HR := Lib.hid hR; clear hR
 unfold rd
 have hT := takeU_lt l
 have hK := @takeU_len l
 have C := takeUint_any A _ c l w B rfl hm hs
 generalize takeU l = T at hT hK C ⊢
 obtain ⟨N, k, e⟩ := T
 unfold trip at C
 dsimp only at hT hK C ⊢
 have HT := Lib.hid hT; clear hT
 have HK := Lib.hid hK; clear hK
 replace C := Lib.hid C
 by_cases h0 : e = 0
 ·subst h0
  simp only [Int.natCast_zero] at C
  have hk := HK.out rfl
  rw [if_neg (by simp)]
  generalize hM : many (one (rd F (d + 1))) (decide (128 < d)) N (l.drop k) = M
  have HM := Lib.hid hM; clear hM
  go_enter Tryz.func75, Tryz.ntmps75
  repeat' (first | go_skip | go_guarded | go_step)
  refine C.out.mono ?_
  rintro e w' ⟨rfl, rfl⟩
  dsimp only
  repeat' (first | go_skip | go_guarded | go_step)
  go_loopw [8, 10, 24] (fun u8 u10 u24 wr => ∃ (i q : Nat) (f : Flds) (cs : List Value), i ≤ N ∧ u24 = .int .u64 (i : Int) ∧ u8 = .int .i64 (q : Int) ∧ q ≤ l.length ∧ i ≤ q ∧ f.length = i ∧
    Own w wr 98 4 u10 f.length cs ∧ RepP wr (Kept w wr u10) f cs ∧ ahead f (many (one (rd F (d + 1))) (decide (128 < d)) (N - i) (l.drop q)) = M) (fun u8 _ _ _ => l.length - (intOf u8).toNat)
  case atStart => exact ⟨0, k, .nil, [], by omega, rfl, rfl, hk.2, by omega, rfl, Own.nil_ _ _ _, rfl, by rw [Nat.sub_zero, HM.out]; cases M <;> rfl⟩
  case round =>
   obtain ⟨i, q, f, cs, hi, rfl, rfl, hq, hiq, hfi, hown, hrep, hah⟩ := hrel
   have Hown := Lib.hid hown; clear hown
   have Hrep := Lib.hid hrep; clear hrep
   have Hah := Lib.hid hah; clear hah
   have hbr := Hown.out.2
   by_cases hlt : i < N
   ·by_cases hd1 : 128 < d
    ·have hN : N - i = (N - i - 1) + 1 := by omega
     have HN := Lib.hid hN; clear hN
     repeat' (first | go_skip | go_guarded | go_step)
     go_ret3
     have := Hah.out
     rw [HN.out, many_stop (e := 13) (by unfold step; rw [if_pos (by simpa using hd1)])] at this
     rw [← this]
     exact ⟨rfl, hbr⟩
    ·have hN : N - i = (N - i - 1) + 1 := by omega
     have HN := Lib.hid hN; clear hN
     have hdd : decide (128 < d) = false := by simpa using hd1
     have Hdd := Lib.hid hdd; clear hdd
     by_cases hq1 : q = l.length
     ·have hq2 : ((q : Int) == (l.length : Int)) = true := by simp; omega
      have Hq1 := Lib.hid hq1; clear hq1
      repeat' (first | go_skip | go_guarded | go_step)
      go_ret3
      have := Hah.out
      rw [HN.out, many_stop (e := 4) (by unfold step; rw [if_neg (by rw [Hdd.out]; simp), List.drop_of_length_le (by have := Hq1.out; omega)])] at this
      rw [← this]
      exact ⟨rfl, hbr⟩
     ·have hq2 : ((q : Int) == (l.length : Int)) = false := by simp; omega
      have hq3 : q < l.length := by omega
      clear hq1
      obtain ⟨b, o, rfl, hbB, hcell⟩ := hs.2 (by omega)
      obtain ⟨x, hx⟩ : ∃ x, l[q]? = some x := ⟨l[q]'hq3, List.getElem?_eq_getElem hq3⟩
      have hc0 := hcell q (bv x) (by simp [hx])
      have hcx : wr.cell? ⟨b, o + q, none⟩ = some (bv x) := (hbr.cell (p := ⟨b, o + q, none⟩) (by dsimp only; omega)).trans hc0
      have hbw : b < wr.heap.size := by have := hbr.size; omega
      clear hcell hc0
      have hx256 : (x.toNat : Int) < 256 := by have := x.toNat_lt; omega
      have hdrop : l.drop q = x :: l.drop (q + 1) := by
       obtain ⟨_, he⟩ := List.getElem?_eq_some_iff.1 hx
       rw [List.drop_eq_getElem_cons hq3, he]
      have Hdrop := Lib.hid hdrop; clear hdrop hx
      by_cases hx2 : 2 < (x.toNat : Int)
      ·repeat' (first | go_skip | go_guarded | go_step)
       go_ret3
       have := Hah.out
       rw [HN.out, many_stop (e := 5) (by unfold step; rw [if_neg (by rw [Hdd.out]; simp), Hdrop.out]; dsimp only; rw [if_pos (by omega)])] at this
       rw [← this]
       exact ⟨rfl, hbr⟩
      ·repeat' ((fail_if_success at_builtin); first | go_skip | go_guarded | go_step)
       have hxl : x.toNat ≤ 2 := by omega
       have hcut := Seq.cut (hs.below (hbr.mono hB)) (k := q + 1) (cap := c) (by omega) hc
       simp only [Nat.mul_one] at hcut
       rw [← List.map_drop] at hcut
       simp only [Option.map_some, Addr.add_lit] at hcut
       have C1 := fun (w2 : World) (hb3 : Below wr.heap.size wr w2 ∧ w2.cell? ⟨b, o + q, none⟩ = some (bv x)) => have hb2 := hb3.1; readOne_any F HR.out x d (l.drop (q + 1)) (if c = q + 1 then some ⟨b, o, none⟩ else some ⟨b, o + (q + 1), none⟩) (l.length - (q + 1)) (c - (q + 1)) w2 B (by simp; omega) (by simp) (by omega) (by omega) (Nat.le_trans (Nat.le_trans hB hbr.size) hb2.size)
        (Seq.below hcut (hb2.mono (Nat.le_trans hB hbr.size))) (by omega) hxl
       replace C1 := Lib.hid C1
       clear hcut
       have hG := one_good (c := x) (rd_good F (d + 1) (l.drop (q + 1)) (by simp; omega))
       have hst : step (one (rd F (d + 1))) (decide (128 < d)) (l.drop q) = one (rd F (d + 1)) x (l.drop (q + 1)) := by
        unfold step
        rw [if_neg (by rw [Hdd.out]; simp), Hdrop.out]
        dsimp only
        rw [if_neg (by omega)]
       have f1 : (0 : Int) ≤ (q : Int) + 1 := by omega
       have f2 : (q : Int) + 1 ≤ (l.length : Int) := by omega
       have f3 : IntKind.i64.wrap ((q : Int) + 1) = (q : Int) + 1 := IntWalk.i64_in _ (by omega)
       have f4 : ((q : Int) + 1).toNat = q + 1 := by omega
       have f5 : (0 : Int) ≤ (q : Int) := by omega
       have f7 : IntKind.i64.wrap (x.toNat : Int) = (x.toNat : Int) := IntWalk.i64_in _ (by omega)
       have f6 : (q : Int) < (l.length : Int) := by omega
       generalize one (rd F (d + 1)) x (l.drop (q + 1)) = T1 at C1 hG hst
       replace hst := Lib.hid hst
       replace hG := Lib.hid hG
       cases T1 with
       | inl er =>
        go_cut [11, 12, 13] (fun u11 u12 u13 wx => Below wr.heap.size wr wx ∧ (∃ a, u11 = .pointer a) ∧ (∃ y, u12 = .int .i64 y) ∧ u13 = .int .i64 (er : Int))
        case first =>
         go_region_held3 (fun w' => Below wr.heap.size wr w' ∧ w'.cell? ⟨b, o + q, none⟩ = some (bv x)) (first | exact ⟨(Below.refl _ _).drew, hcx⟩ | exact held1_call hbw (by assumption) hbq (by rfl) | exact held1_alloc hbw (by assumption) _ | exact held1_alloc hbw hs7 _ | exact held1_set hbw (held1_set hbw (held1_set hbw (held1_set hbw (by assumption) (by simp)) (by simp)) (by simp)) (by simp))
          (first | (go_at_call 117; refine (C1.out _ (by assumption)).mono ?_; rintro e w7 ⟨hbq, k9, x9, s9, A9, n9, c9, kk9, rfl⟩; have hs7 := held1_call hbw (by assumption) hbq (by rfl); obtain ⟨hcq, hfq⟩ := bcell hbq; dsimp only))
         all_goals
          repeat' ((fail_if_success at_builtin); first | go_skip | go_guarded | go_step)
          go_meet
          case rel => exact ⟨And.left (a := Below wr.heap.size wr _) (b := _ = some (bv x)) (by assumption), ⟨_, rfl⟩, ⟨_, rfl⟩, rfl⟩
        case rest =>
         obtain ⟨hbx, ⟨a9, rfl⟩, ⟨y9, rfl⟩, rfl⟩ := hcut
         have he : ((er : Int) != 0) = true := by have := hG.out.1; simpa using this
         clear f1 f2 f3 f4 f5 f6 f7
         repeat' (first | go_skip | go_guarded | go_step)
         go_ret3
         have := Hah.out
         rw [HN.out, many_stop (e := er) hst.out] at this
         rw [← this]
         exact ⟨rfl, hbr.trans (hbx.mono hbr.size)⟩
       | inr p =>
        obtain ⟨v, r⟩ := p
        go_cut [11, 12, 13] (fun u11 u12 u13 wx => u12 = .int .i64 (((l.drop (q + 1)).length - r.length : Nat) : Int) ∧ u13 = .int .i64 0 ∧ IsInt v.1 ∧ IsInt v.2.1 ∧ Below wr.heap.size wr wx ∧ Box wr wx v u11)
        case first =>
         go_region_held3 (fun w' => Below wr.heap.size wr w' ∧ w'.cell? ⟨b, o + q, none⟩ = some (bv x)) (first | exact ⟨(Below.refl _ _).drew, hcx⟩ | exact held1_call hbw (by assumption) hbq (by rfl) | exact held1_alloc hbw (by assumption) _ | exact held1_alloc hbw hs7 _ | exact held1_set hbw (held1_set hbw (held1_set hbw (held1_set hbw (by assumption) (by simp)) (by simp)) (by simp)) (by simp))
          (first | (go_at_call 117; refine (C1.out _ (by assumption)).mono ?_; rintro e w7 ⟨hbq, hi1, hi2, A9, c9, cs9, rfl, hsq9, hrp9⟩; have hs7 := held1_call hbw (by assumption) hbq (by rfl); obtain ⟨hcq, hfq⟩ := bcell hbq; replace hsq9 := Lib.hid hsq9; replace hrp9 := Lib.hid hrp9; replace hi1 := Lib.hid hi1; replace hi2 := Lib.hid hi2; dsimp only))
         all_goals
          repeat' ((fail_if_success at_builtin); first | go_skip | go_guarded | go_step)
          go_meet
         case rel =>
          refine ⟨by simp, rfl, hi1.out, hi2.out, And.left (b := _ = some (bv x)) (by assumption), ?_⟩
          exact box_after (by simp) hbq.size hsq9.out hrp9.out
         case rel =>
          have q0 : w7.cell? ⟨wr.heap.size, 0, none⟩ = some (.int .i64 0) := by rw [hcq _ _ (by simp)]; simp [go_sem]
          have q1 : w7.cell? ⟨wr.heap.size, 1, none⟩ = some (.int .i64 0) := by rw [hcq _ _ (by simp)]; simp [go_sem]
          have q2 : w7.cell? ⟨wr.heap.size, 2, none⟩ = some (.string ⟨#[]⟩) := by rw [hcq _ _ (by simp)]; simp [go_sem]
          have q3 : w7.cell? ⟨wr.heap.size, 3, none⟩ = some (.slice none 0 0) := by rw [hcq _ _ (by simp)]; simp [go_sem]
          refine ⟨by simp, rfl, hi1.out, hi2.out, And.left (b := _ = some (bv x)) (by assumption), ?_⟩
          exact box_before (Nat.le_refl _) (by simp) hbq.size q0 q1 q2 q3 hsq9.out hrp9.out
        case rest =>
         obtain ⟨rfl, rfl, hi1, hi2, hbx, g9, A9, c9, cs9, rfl, hg1, hg2, q0, q1, q2, q3, hs9, hr9⟩ := hcut
         have hown := Hown.out.below (hbx.mono (Nat.le_refl _))
         have Hs9 := Lib.hid hs9; clear hs9
         have Hr9 := Lib.hid hr9; clear hr9
         clear f1 f2 f3 f4 f5 f6 f7
         repeat' ((fail_if_success at_builtin); first | go_skip | go_guarded | go_step)
         obtain ⟨k9, hk1, hk2, rfl⟩ := hG.out
         simp only [List.length_drop] at hk2
         refine wp_app1 hown Tryz.underlying79 fld_info (by omega) ?_
         intro v1 w9 hown9 hg9
         have hks := kept_step Hown.out hbx hg9
         clear hown
         have hkk : ((List.drop (q + 1) l).length - (List.drop k9 (List.drop (q + 1) l)).length : Nat) = k9 := by simp only [List.length_drop]; omega
         rw [hkk]
         have f1 : IntKind.i64.wrap ((k9 : Int) + 1) = (k9 : Int) + 1 := IntWalk.i64_in _ (by omega)
         have f2 : IntKind.i64.wrap ((q : Int) + ((k9 : Int) + 1)) = (q : Int) + ((k9 : Int) + 1) := IntWalk.i64_in _ (by omega)
         have f3 : IntKind.u64.wrap ((i : Int) + 1) = (i : Int) + 1 := IntWalk.u64_in _ (by have := HT.out; omega)
         have Hown9 := Lib.hid hown9; clear hown9
         have Hg9 := Lib.hid hg9; clear hg9
         have Hks := Lib.hid hks; clear hks
         repeat' (first | go_skip | go_guarded | go_step)
         go_roundw
         case rel =>
          refine ⟨i + 1, q + 1 + k9, f.append (.cons v.1 v.2.1 v.2.2.1 v.2.2.2 .nil), cs ++ [.int .i64 v.1, .int .i64 v.2.1, .string v.2.2.1, .slice A9 v.2.2.2.length c9], by omega, by congr 1, by congr 1; omega, by omega, by omega, by rw [Flds.append_length]; simp [Flds.length]; omega, ?_, ?_, ?_⟩
          ·rw [Flds.append_length]; exact Hown9.out
          ·exact RepP.append (RepP.map Hks.out.1 Hks.out.2.1 Hrep.out) ⟨A9, c9, [], cs9, rfl, hi1, hi2, Hs9.out.map Hks.out.2.2.1 Hks.out.2.2.2, RepP.map Hks.out.2.2.1 Hks.out.2.2.2 Hr9.out, rfl⟩
          ·have := Hah.out
           rw [HN.out, many_step hst.out] at this
           rw [show N - (i + 1) = N - i - 1 from by omega, show q + 1 + k9 = q + 1 + k9 from rfl, ← List.drop_drop]
           exact this
         case measure => simp [intOf]; omega
   ·have hN : i = N := by omega
    have HN := Lib.hid hN; clear hN
    repeat' (first | go_skip | go_guarded | go_step)
    go_ret3
    obtain ⟨A9, c9, rfl⟩ := Hown.out.slice_form
    have := Hah.out
    rw [HN.out, Nat.sub_self] at this
    simp only [many, ahead, append_nil] at this
    rw [← this]
    refine ⟨A9, c9, cs, ?_, Hown.out, Hrep.out.imp fun b hb => hb.1⟩
    rw [List.length_drop, show l.length - (l.length - q) = q from by omega]
    rfl
 ·have h0' : ((e : Int) != 0) = true := by simp; omega
  rw [if_pos h0]
  go_enter Tryz.func75, Tryz.ntmps75
  repeat' (first | go_skip | go_guarded | go_step)
  refine C.out.mono ?_
  rintro e w' ⟨rfl, rfl⟩
  dsimp only
  repeat' (first | go_skip | go_guarded | go_step)
  go_ret3
  exact ⟨rfl, Below.refl _ _⟩
theorem read_all : ∀ F, ReadOK F
 | 0 => fun d l A n c w B hF => by omega
 | F + 1 => read_body F (read_all F)
def RetFields (w : World) : Nat ⊕ Flds → Ending → World → Prop
 | .inl er, e, w' => e = .returned (.tuple #[.slice none 0 0, .int .i64 (er : Int)]) ∧ Below w.heap.size w w'
 | .inr f, e, w' => ∃ A c cs, e = .returned (.tuple #[.slice A f.length c, .int .i64 0]) ∧ Own w w' 98 4 (.slice A f.length c) f.length cs ∧ RepP w' (Fresh w w') f cs
theorem fields_any (l : List UInt8) (A : Option Addr) (n c : Nat) (w : World) (B : Nat) (hl : l.length = n) (hm : n ≤ 1000000000) (hc : n ≤ c) (hB : B ≤ w.heap.size) (hs : Seq w B 1 A n (l.map bv)) :
  Calls Tryz.prog 35 #[.slice A n c] w (RetFields w (fieldsS l)) := by
 subst hl
 have C := read_all (l.length + 1) 1 l A _ c w B (by omega) rfl hm hc hB hs (by omega)
 have hG := rd_good (l.length + 1) 1 l (by omega)
 unfold fieldsS
 generalize rd (l.length + 1) 1 l = T at C hG ⊢
 replace C := Lib.hid C
 cases T with
 | inl er =>
  have he : ((er : Int) != 0) = true := by have := hG.1; simpa using this
  go_enter Tryz.func35, Tryz.ntmps35
  repeat' (first | go_skip | go_guarded | go_step)
  refine C.out.mono ?_
  rintro e w' ⟨rfl, hb⟩
  dsimp only
  repeat' (first | go_skip | go_guarded | go_step)
  go_ret2
  exact ⟨rfl, hb⟩
 | inr p =>
  obtain ⟨f, r⟩ := p
  obtain ⟨k, hk1, hk2, rfl⟩ := hG
  dsimp only
  have hkk : (l.length - (l.drop k).length : Nat) = k := by simp only [List.length_drop]; omega
  replace hkk := Lib.hid hkk
  by_cases hz : k < l.length
  ·have hz1 : (l.drop k).length ≠ 0 := by simp only [List.length_drop]; omega
   rw [if_pos hz1]
   clear hz1
   go_enter Tryz.func35, Tryz.ntmps35
   repeat' (first | go_skip | go_guarded | go_step)
   refine C.out.mono ?_
   rintro e w' ⟨A3, c3, cs3, rfl, hown, hrep⟩
   rw [hkk.out]
   have Hown := Lib.hid hown; clear hown
   have Hrep := Lib.hid hrep; clear hrep
   dsimp only
   have hzz : ((k : Int) < (l.length : Int)) := by omega
   repeat' (first | go_skip | go_guarded | go_step)
   go_ret2
   exact ⟨rfl, Hown.out.2⟩
  ·have hz1 : ¬ (l.drop k).length ≠ 0 := by simp only [List.length_drop]; omega
   rw [if_neg hz1]
   clear hz1
   go_enter Tryz.func35, Tryz.ntmps35
   repeat' (first | go_skip | go_guarded | go_step)
   refine C.out.mono ?_
   rintro e w' ⟨A3, c3, cs3, rfl, hown, hrep⟩
   rw [hkk.out]
   have Hown := Lib.hid hown; clear hown
   have Hrep := Lib.hid hrep; clear hrep
   dsimp only
   have hzz : ¬ ((k : Int) < (l.length : Int)) := by omega
   repeat' (first | go_skip | go_guarded | go_step)
   go_ret2
   exact ⟨A3, c3, cs3, rfl, Hown.out, Hrep.out⟩
end Go.Proofs.YtgdapkglofchjaaGreatDoor
