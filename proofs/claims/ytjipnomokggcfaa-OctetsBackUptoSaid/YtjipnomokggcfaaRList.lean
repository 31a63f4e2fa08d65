/- the document's take and list: contracts. -/
import Derived.Test.YtjipnomokggcfaaBox
namespace Go.Proofs.Ytjipnomokggcfaa
open Go.RowKit
theorem Below.setCells4 {B : Nat} {a w : World} {g : Nat} (h : Below B a w) (hg : B ≤ g) (x0 x1 x2 x3 : Value) : Below B a ((((w.setCell ⟨g, 0, none⟩ x0).setCell ⟨g, 1, none⟩ x1).setCell ⟨g, 2, none⟩ x2).setCell ⟨g, 3, none⟩ x3) :=
  (((h.setCell hg _).setCell hg _).setCell hg _).setCell hg _
theorem far4 {w w7 W0 : World} {g : Nat} (h0 : W0.heap.size = g + 1) (hw : w.heap.size ≤ g) (x0 x1 x2 x3 : Value) :
    (∀ p : Addr, Fresh W0 w7 p.block → ((((w7.setCell ⟨g, 0, none⟩ x0).setCell ⟨g, 1, none⟩ x1).setCell ⟨g, 2, none⟩ x2).setCell ⟨g, 3, none⟩ x3).cell? p = w7.cell? p) ∧
    (∀ b, Fresh W0 w7 b → Fresh w ((((w7.setCell ⟨g, 0, none⟩ x0).setCell ⟨g, 1, none⟩ x1).setCell ⟨g, 2, none⟩ x2).setCell ⟨g, 3, none⟩ x3) b) := by
  refine ⟨fun p hp => ?_, fun b hb => ⟨by have := hb.1; omega, by have := hb.2; simp [World.setCell]; omega⟩⟩
  have := hp.1
  rw [World.cell?_setCell_far _ _ _ _ (by dsimp only; omega), World.cell?_setCell_far _ _ _ _ (by dsimp only; omega), World.cell?_setCell_far _ _ _ _ (by dsimp only; omega), World.cell?_setCell_far _ _ _ _ (by dsimp only; omega)]
def RetList (w : World) (l : List UInt8) : Nat ⊕ (Flds × List UInt8) → Ending → World → Prop
  | .inl er, e, w' => (∃ k : Nat, k ≤ l.length ∧ e = .returned (.tuple #[.slice none 0 0, .int .i64 (k : Int), .int .i64 (er : Int)])) ∧ Below w.heap.size w w'
  | .inr (f, r), e, w' => ∃ A c cs, e = .returned (.tuple #[.slice A f.length c, .int .i64 ((l.length - r.length : Nat) : Int), .int .i64 0]) ∧ Own w w' 27 4 (.slice A f.length c) f.length cs ∧ RepP w' (Fresh w w') f cs
def RetTake (w : World) (l : List UInt8) : Nat ⊕ (FV × List UInt8) → Ending → World → Prop
  | .inl er, e, w' => Below w.heap.size w w' ∧ ∃ k x s A n c kk, e = .returned (.tuple #[.agg (fcells k x s A n c), .int .i64 kk, .int .i64 (er : Int)])
  | .inr (v, r'), e, w' => Below w.heap.size w w' ∧ IsInt v.1 ∧ IsInt v.2.1 ∧ ∃ A c csub, e = .returned (.tuple #[.agg (fcells v.1 v.2.1 v.2.2.1 A v.2.2.2.length c), .int .i64 ((l.length - r'.length : Nat) : Int), .int .i64 0]) ∧
      SeqP w' (Fresh w w') 4 A v.2.2.2.length csub ∧ RepP w' (Fresh w w') v.2.2.2 csub
def ListOK (F : Nat) : Prop :=
  ∀ (d q : Nat) (l : List UInt8) (A : Option Addr) (n c : Nat) (w : World) (B : Nat), q ≤ l.length → (l.drop q).length < F → l.length = n → n ≤ 1000000000 → n ≤ c → B ≤ w.heap.size → Seq w B 1 A n (l.map bv) → d ≤ 129 →
    Calls Try.prog 36 #[.slice A n c, .int .i64 (q : Int), .int .i64 (d : Int)] w (RetList w l (rd F d (l.drop q)))
set_option maxRecDepth 100000 in
set_option maxHeartbeats 1000000 in
theorem rtake_any (F : Nat) (hR : ListOK F) (d q : Nat) (l : List UInt8) (A : Option Addr) (n c : Nat) (w : World) (B : Nat) (hq : q ≤ l.length) (hF : (l.drop q).length ≤ F) (hl : l.length = n) (hm : n ≤ 1000000000) (hc : n ≤ c) (hB : B ≤ w.heap.size)
    (hs : Seq w B 1 A n (l.map bv)) (hd : d ≤ 129) :
    Calls Try.prog 39 #[.slice A n c, .int .i64 (q : Int), .int .i64 (d : Int)] w (RetTake w l (step (one (rd F (d + 1))) (decide (128 < d)) (l.drop q))) := by
  subst hl
  have HR := Lib.hid hR; clear hR
  unfold step
  by_cases hd1 : 128 < d
  · rw [if_pos (by simpa using hd1)]
    go_enter Try.func39, Try.ntmps39
    repeat' ((fail_if_success at_builtin); (first | go_skip | go_guarded | go_step))
    refine bodyPost_ret (v := .tuple #[.agg #[.int .i64 0, .int .i64 0, .string ByteArray.empty, .slice none 0 0], .int .i64 ((q : Int)), .int .i64 13]) (by simp only [results, Try.results39]; go_simp; first | rfl | exact ⟨rfl, rfl⟩) rfl ?_
    exact ⟨(Below.refl _ _).alloc (Nat.le_refl _) _, _, _, _, _, _, _, _, rfl⟩
  · rw [if_neg (by simpa using hd1)]
    by_cases hq1 : q = l.length
    · have hq2 : (decide (l.length ≤ q)) = true := by simp; omega
      rw [List.drop_of_length_le (by omega)]
      go_enter Try.func39, Try.ntmps39
      repeat' ((fail_if_success at_builtin); (first | go_skip | go_guarded | go_step))
      refine bodyPost_ret (v := .tuple #[.agg #[.int .i64 0, .int .i64 0, .string ByteArray.empty, .slice none 0 0], .int .i64 ((q : Int)), .int .i64 4]) (by simp only [results, Try.results39]; go_simp; first | rfl | exact ⟨rfl, rfl⟩) rfl ?_
      exact ⟨(Below.refl _ _).alloc (Nat.le_refl _) _, _, _, _, _, _, _, _, rfl⟩
    · have hq2 : (decide (l.length ≤ q)) = false := by simp; omega
      have hq3 : q < l.length := by omega
      obtain ⟨b, o, rfl, hbB, hcell⟩ := hs.2 (by omega)
      obtain ⟨x, hx⟩ : ∃ x, l[q]? = some x := ⟨l[q]'hq3, List.getElem?_eq_getElem hq3⟩
      have hcx0 := hcell q (bv x) (by simp [hx])
      have hbw : b < w.heap.size := by omega
      have hcx := fun ob => (((Below.refl w.heap.size w).alloc (Nat.le_refl _) ob).cell (p := ⟨b, o + q, none⟩) hbw).trans hcx0
      simp only [bv] at hcx
      clear hcell hcx0
      have hx256 : (x.toNat : Int) < 256 := by have := x.toNat_lt; omega
      have hdrop : l.drop q = x :: l.drop (q + 1) := by
        obtain ⟨_, he⟩ := List.getElem?_eq_some_iff.1 hx
        rw [List.drop_eq_getElem_cons hq3, he]
      clear hx hq1
      rw [hdrop] at hF
      rw [hdrop]
      clear hdrop
      dsimp only
      simp only [List.length_cons] at hF
      by_cases hx2 : 2 < x.toNat
      · rw [if_pos hx2]
        go_enter Try.func39, Try.ntmps39
        have f7 : IntKind.i64.wrap (x.toNat : Int) = (x.toNat : Int) := IntWalk.i64_in _ (by omega)
        have hx3 : (2 : Int) < (x.toNat : Int) := by omega
        have f3 : IntKind.i64.wrap ((q : Int) + 1) = (q : Int) + 1 := IntWalk.i64_in _ (by omega)
        repeat' ((fail_if_success at_builtin); (first | go_skip | go_guarded | go_step))
        refine bodyPost_ret (v := .tuple #[.agg #[.int .i64 0, .int .i64 0, .string ByteArray.empty, .slice none 0 0], .int .i64 ((q : Int) + 1), .int .i64 5]) (by simp only [results, Try.results39]; go_simp; first | rfl | exact ⟨rfl, rfl⟩) rfl ?_
        exact ⟨(Below.refl _ _).alloc (Nat.le_refl _) _, _, _, _, _, _, _, _, rfl⟩
      · rw [if_neg hx2]
        have hcut := Seq.cut hs (k := q + 1) (cap := c) (by omega) hc
        simp only [Nat.mul_one] at hcut
        rw [← List.map_drop] at hcut
        simp only [Option.map_some, Addr.add_lit] at hcut
        have f3 : IntKind.i64.wrap ((q : Int) + 1) = (q : Int) + 1 := IntWalk.i64_in _ (by omega)
        have f4 : ((q : Int) + 1).toNat = q + 1 := by omega
        have f7 : IntKind.i64.wrap (x.toNat : Int) = (x.toNat : Int) := IntWalk.i64_in _ (by omega)
        have f1 : (0 : Int) ≤ (q : Int) + 1 := by omega
        have f2 : (q : Int) + 1 ≤ (l.length : Int) := by omega
        have h3 : x.toNat = 0 ∨ x.toNat = 1 ∨ x.toNat = 2 := by omega
        unfold one
        rcases h3 with h | h | h
        · rw [if_pos h]
          simp only [h] at hcx f7 hx256
          have hT := takeI_int (l.drop (q + 1))
          have hK : (takeI (l.drop (q + 1))).2.2 = 0 → (takeI (l.drop (q + 1))).2.1 ≤ (l.drop (q + 1)).length := fun h => (takeU_len (l := l.drop (q + 1)) h).2
          have C := fun w' (hb : Below w.heap.size w w') => rTakeInt_any _ _ (c - (q + 1)) (l.drop (q + 1)) w' B (by simp) (by omega) (hcut.below (hb.mono hB))
          generalize takeI (l.drop (q + 1)) = T at C hT hK ⊢
          obtain ⟨t1, t2, t3⟩ := T
          unfold itrip at C
          dsimp only at C hT hK ⊢
          replace C := Lib.hid C
          have HT := Lib.hid hT; clear hT
          have HK := Lib.hid hK; clear hK
          go_enter Try.func39, Try.ntmps39
          repeat' ((fail_if_success at_builtin); (first | go_skip | go_guarded | go_step))
          refine (C.out _ ((Below.refl _ _).alloc (Nat.le_refl _) _)).mono ?_
          rintro e w' ⟨rfl, rfl⟩
          dsimp only
          repeat' ((fail_if_success at_builtin); (first | go_skip | go_guarded | go_step))
          have hb2 := fun ob => (Below.refl w.heap.size w).alloc (Nat.le_refl _) ob
          by_cases h0 : t3 = 0
          · subst h0
            rw [if_neg (by simp)]
            have hk := HK.out rfl
            simp only [List.length_drop] at hk
            refine bodyPost_ret (v := .tuple #[.agg #[.int .i64 0, .int .i64 t1, .string ByteArray.empty, .slice none 0 0], .int .i64 (wrap64 ((q : Int) + 1 + (t2 : Int))), .int .i64 0]) (by simp only [results, Try.results39]; go_simp; first | rfl | exact ⟨rfl, rfl⟩) rfl ?_
            refine ⟨hb2 _, ⟨by omega, by omega⟩, HT.out, none, 0, [], ?_, SeqP.nil_, rfl⟩
            rw [show wrap64 ((q : Int) + 1 + (t2 : Int)) = (q : Int) + 1 + (t2 : Int) from IntWalk.wrap64_in _ (by omega)]
            rw [List.length_drop, List.length_drop, show l.length - (l.length - (q + 1) - t2) = q + 1 + t2 from by omega]
            rfl
          · rw [if_pos h0]
            refine bodyPost_ret (v := .tuple #[.agg #[.int .i64 0, .int .i64 t1, .string ByteArray.empty, .slice none 0 0], .int .i64 (wrap64 ((q : Int) + 1 + (t2 : Int))), .int .i64 (t3 : Int)]) (by simp only [results, Try.results39]; go_simp; first | rfl | exact ⟨rfl, rfl⟩) rfl ?_
            exact ⟨hb2 _, _, _, _, _, _, _, _, rfl⟩
        · rw [if_neg (by omega), if_pos h]
          simp only [h] at hcx f7 hx256
          have hK : (takeS (l.drop (q + 1))).2.2 = 0 → (takeS (l.drop (q + 1))).2.1 ≤ (l.drop (q + 1)).length := fun h => (takeS_len (l := l.drop (q + 1)) h).2
          have C := fun w' (hb : Below w.heap.size w w') => rTakeStr_any _ _ (c - (q + 1)) (l.drop (q + 1)) w' B (by simp) (by omega) (by omega) (hcut.below (hb.mono hB))
          generalize takeS (l.drop (q + 1)) = T at C hK ⊢
          obtain ⟨t1, t2, t3⟩ := T
          unfold strip at C
          dsimp only at C hK ⊢
          generalize ByteArray.mk t1.toArray = st at C ⊢
          replace C := Lib.hid C
          have HK := Lib.hid hK; clear hK
          go_enter Try.func39, Try.ntmps39
          repeat' ((fail_if_success at_builtin); (first | go_skip | go_guarded | go_step))
          refine (C.out _ ((Below.refl _ _).alloc (Nat.le_refl _) _)).mono ?_
          rintro e w' ⟨rfl, rfl⟩
          dsimp only
          repeat' ((fail_if_success at_builtin); (first | go_skip | go_guarded | go_step))
          have hb2 := fun ob => (Below.refl w.heap.size w).alloc (Nat.le_refl _) ob
          by_cases h0 : t3 = 0
          · subst h0
            rw [if_neg (by simp)]
            have hk := HK.out rfl
            simp only [List.length_drop] at hk
            refine bodyPost_ret (v := .tuple #[.agg #[.int .i64 1, .int .i64 0, .string st, .slice none 0 0], .int .i64 (wrap64 ((q : Int) + 1 + (t2 : Int))), .int .i64 0]) (by simp only [results, Try.results39]; go_simp) rfl ?_
            refine ⟨hb2 _, ⟨by dsimp only; omega, by dsimp only; omega⟩, ⟨by dsimp only; omega, by dsimp only; omega⟩, none, 0, [], ?_, SeqP.nil_, rfl⟩
            rw [show wrap64 ((q : Int) + 1 + (t2 : Int)) = (q : Int) + 1 + (t2 : Int) from IntWalk.wrap64_in _ (by omega)]
            rw [List.length_drop, List.length_drop, show l.length - (l.length - (q + 1) - t2) = q + 1 + t2 from by omega]
            rfl
          · rw [if_pos h0]
            refine bodyPost_ret (v := .tuple #[.agg #[.int .i64 1, .int .i64 0, .string st, .slice none 0 0], .int .i64 (wrap64 ((q : Int) + 1 + (t2 : Int))), .int .i64 (t3 : Int)]) (by simp only [results, Try.results39]; go_simp) rfl ?_
            exact ⟨hb2 _, _, _, _, _, _, _, _, rfl⟩
        · rw [if_neg (by omega), if_neg (by omega)]
          simp only [h] at hcx f7 hx256
          have f5 : IntKind.i64.wrap ((d : Int) + 1) = (d : Int) + 1 := IntWalk.i64_in _ (by omega)
          have C := fun w' (hb : Below w.heap.size w w') => HR.out (d + 1) (q + 1) l _ _ c w' B (by omega) (by omega) rfl hm hc (Nat.le_trans hB hb.size) (hs.below (hb.mono hB)) (by omega)
          have hG := rd_good F (d + 1) (l.drop (q + 1)) (by omega)
          generalize rd F (d + 1) (l.drop (q + 1)) = T at C hG ⊢
          replace C := Lib.hid C
          go_enter Try.func39, Try.ntmps39
          repeat' ((fail_if_success at_builtin); (first | go_skip | go_guarded | go_step))
          have hb2 := fun o1 => (Below.refl w.heap.size w).alloc (Nat.le_refl _) o1
          refine (C.out _ (hb2 _)).mono ?_
          cases T with
          | inl er =>
            rintro e w' ⟨⟨k9, hk9, rfl⟩, hb⟩
            have hw : w.heap.size < w'.heap.size := by have := hb.size; simp at this; omega
            obtain ⟨hc1, hf1⟩ := bcell hb
            have q0 : w'.cell? ⟨w.heap.size, 0, none⟩ = some (.int .i64 0) := by rw [hc1 _ _ (by simp)]; simp [go_sem]
            have q1 : w'.cell? ⟨w.heap.size, 1, none⟩ = some (.int .i64 0) := by rw [hc1 _ _ (by simp)]; simp [go_sem]
            have q2 : w'.cell? ⟨w.heap.size, 2, none⟩ = some (.string ⟨#[]⟩) := by rw [hc1 _ _ (by simp)]; simp [go_sem]
            have q3 : w'.cell? ⟨w.heap.size, 3, none⟩ = some (.slice none 0 0) := by rw [hc1 _ _ (by simp)]; simp [go_sem]
            have z0 : ∀ j, w'.frozen? ⟨w.heap.size, j, none⟩ = false := fun j => by rw [hf1 _ _ (by simp)]; simp [go_sem]
            clear hc1 hf1
            have hb9 := (hb2 _).trans (hb.mono (hb2 _).size)
            dsimp only
            repeat' ((fail_if_success at_builtin); (first | go_skip | go_guarded | go_step))
            dsimp only
            refine bodyPost_ret (v := .tuple #[.agg #[.int .i64 2, .int .i64 0, .string ByteArray.empty, .slice none 0 0], .int .i64 (k9 : Int), .int .i64 (er : Int)]) (by simp only [results, Try.results39]; go_simp; first | rfl | exact ⟨rfl, rfl⟩) rfl ?_
            exact ⟨Below.setCells4 hb9 (by simp) _ _ _ _, _, _, _, _, _, _, _, rfl⟩
          | inr p =>
            obtain ⟨f, r⟩ := p
            rintro e w' ⟨A3, c3, cs3, rfl, hown, hrep⟩
            have hb := hown.2
            have hw : w.heap.size < w'.heap.size := by have := hb.size; simp at this; omega
            obtain ⟨hc1, hf1⟩ := bcell hb
            have q0 : w'.cell? ⟨w.heap.size, 0, none⟩ = some (.int .i64 0) := by rw [hc1 _ _ (by simp)]; simp [go_sem]
            have q1 : w'.cell? ⟨w.heap.size, 1, none⟩ = some (.int .i64 0) := by rw [hc1 _ _ (by simp)]; simp [go_sem]
            have q2 : w'.cell? ⟨w.heap.size, 2, none⟩ = some (.string ⟨#[]⟩) := by rw [hc1 _ _ (by simp)]; simp [go_sem]
            have q3 : w'.cell? ⟨w.heap.size, 3, none⟩ = some (.slice none 0 0) := by rw [hc1 _ _ (by simp)]; simp [go_sem]
            have z0 : ∀ j, w'.frozen? ⟨w.heap.size, j, none⟩ = false := fun j => by rw [hf1 _ _ (by simp)]; simp [go_sem]
            clear hc1 hf1
            have hb9 := (hb2 _).trans (hb.mono (hb2 _).size)
            have hseq3 := hown.seqF
            have Hown := Lib.hid hown; clear hown
            have Hrep := Lib.hid hrep; clear hrep
            have Hseq := Lib.hid hseq3; clear hseq3
            dsimp only
            repeat' ((fail_if_success at_builtin); (first | go_skip | go_guarded | go_step))
            dsimp only
            refine bodyPost_ret (v := .tuple #[.agg #[.int .i64 2, .int .i64 0, .string ByteArray.empty, .slice A3 f.length c3], .int .i64 ((l.length - r.length : Nat) : Int), .int .i64 0]) (by simp only [results, Try.results39]; go_simp; first | rfl | exact ⟨rfl, rfl⟩) rfl ?_
            obtain ⟨g1, g2⟩ := far4 (w := w) (w7 := w') (W0 := w.alloc (.cells #[.int .i64 0, .int .i64 0, .string ⟨#[]⟩, .slice none 0 0] 27)) (g := w.heap.size) (by simp) (by omega) (.int .i64 2) (.int .i64 0) (.string ⟨#[]⟩) (.slice A3 f.length c3)
            exact ⟨Below.setCells4 hb9 (by omega) _ _ _ _, ⟨by dsimp only; omega, by dsimp only; omega⟩, ⟨by dsimp only; omega, by dsimp only; omega⟩, A3, c3, cs3, rfl, Hseq.out.map g1 g2, RepP.map g1 g2 Hrep.out⟩
end Go.Proofs.Ytjipnomokggcfaa
