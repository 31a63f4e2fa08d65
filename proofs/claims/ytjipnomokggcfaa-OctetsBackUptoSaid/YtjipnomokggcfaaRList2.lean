/- the document's list: its contract. -/
import Derived.Test.YtjipnomokggcfaaRList
namespace Go.Proofs.Ytjipnomokggcfaa
open Go.RowKit
set_option maxRecDepth 100000 in
set_option maxHeartbeats 2000000 in
theorem rlist_body (F : Nat) (hR : ListOK F) : ListOK (F + 1) := by
  intro d q0 l A n c w B hq0 hF hl hm hc hB hs hd
  subst hl
  have HR := Lib.hid hR; clear hR
  by_cases hnil : l.length = 0
  · have : l = [] := List.length_eq_zero_iff.1 hnil
    subst this
    have : q0 = 0 := by simpa using hq0
    subst this
    have C := fun A' c' => rTakeUint_any A' 0 c' [] w B rfl (by omega) (SeqP.empty A')
    rw [show takeU [] = (0, 0, 4) from rfl] at C
    unfold trip at C
    dsimp only at C
    have hr : rd (F + 1) d (List.drop 0 []) = .inl 4 := rfl
    rw [hr]
    replace C := Lib.hid C
    simp only [List.length_nil] at *
    go_enter Try.func36, Try.ntmps36
    repeat' ((fail_if_success at_builtin); (first | go_skip | go_guarded | go_step))
    refine (C.out _ _).mono ?_
    rintro e w' ⟨rfl, rfl⟩
    dsimp only
    repeat' ((fail_if_success at_builtin); (first | go_skip | go_guarded | go_step))
    go_ret3
    exact ⟨⟨0, by omega, rfl⟩, Below.refl _ _⟩
  obtain ⟨b, o, rfl, hbB, _⟩ := hs.2 (by omega)
  have hcut := Seq.cut hs (k := q0) (cap := c) (by omega) hc
  simp only [Nat.mul_one] at hcut
  rw [← List.map_drop] at hcut
  simp only [Option.map_some, Addr.add_lit] at hcut
  unfold rd
  have hT := takeU_lt (l.drop q0)
  have hK := @takeU_len (l.drop q0)
  have C := rTakeUint_any _ _ (c - q0) (l.drop q0) w B (by simp) (by omega) hcut
  generalize takeU (l.drop q0) = T at hT hK C ⊢
  obtain ⟨N, k, e⟩ := T
  unfold trip at C
  dsimp only at hT hK C ⊢
  have HT := Lib.hid hT; clear hT
  have HK := Lib.hid hK; clear hK
  replace C := Lib.hid C
  have f1 : (0 : Int) ≤ (q0 : Int) := by omega
  have f2 : (q0 : Int) ≤ (l.length : Int) := by omega
  by_cases h0 : e = 0
  · subst h0
    simp only [Int.natCast_zero] at C
    have hk := HK.out rfl
    simp only [List.length_drop] at hk
    replace C := C.out
    rw [if_neg (by omega)] at C
    replace C := Lib.hid C
    rw [if_neg (by simp)]
    have f3 : IntKind.i64.wrap ((q0 : Int) + (k : Int)) = (q0 : Int) + (k : Int) := IntWalk.i64_in _ (by omega)
    rw [List.drop_drop]
    generalize hM : many (one (rd F (d + 1))) (decide (128 < d)) N (l.drop (q0 + k)) = M
    have HM := Lib.hid hM; clear hM
    go_enter Try.func36, Try.ntmps36
    repeat' ((fail_if_success at_builtin); (first | go_skip | go_guarded | go_step))
    refine C.out.mono ?_
    rintro e w' ⟨rfl, rfl⟩
    dsimp only
    repeat' ((fail_if_success at_builtin); (first | go_skip | go_guarded | go_step))
    go_loopw [1, 12, 13] (fun u1 u12 u13 wr => ∃ (i q : Nat) (f : Flds) (cs : List Value), i ≤ N ∧ u13 = .int .u64 (i : Int) ∧ u1 = .int .i64 (q : Int) ∧ q ≤ l.length ∧ q0 + 1 ≤ q ∧ i ≤ q ∧ f.length = i ∧
        Own w wr 27 4 u12 f.length cs ∧ RepP wr (Kept w wr u12) f cs ∧ ahead f (many (one (rd F (d + 1))) (decide (128 < d)) (N - i) (l.drop q)) = M) (fun u1 _ _ _ => l.length - (intOf u1).toNat)
    case atStart => exact ⟨0, q0 + k, .nil, [], by omega, rfl, rfl, by omega, by omega, by omega, rfl, Own.nil_ _ _ _, rfl, by rw [Nat.sub_zero, HM.out]; cases M <;> rfl⟩
    case round =>
      obtain ⟨i, q, f, cs, hi, rfl, rfl, hq, hq1, hiq, hfi, hown, hrep, hah⟩ := hrel
      have Hown := Lib.hid hown; clear hown
      have Hrep := Lib.hid hrep; clear hrep
      have Hah := Lib.hid hah; clear hah
      have hbr := Hown.out.2
      clear f1 f2 f3
      by_cases hlt : i < N
      · have hN : N - i = (N - i - 1) + 1 := by omega
        have HN := Lib.hid hN; clear hN
        have C1 := fun (w2 : World) (hb2 : Below w.heap.size w w2) => rtake_any F HR.out d q l _ _ c w2 B hq (by simp at hF ⊢; omega) rfl hm hc (Nat.le_trans hB hb2.size) (hs.below (hb2.mono hB)) hd
        replace C1 := Lib.hid C1
        have hG := step_good (o := one (rd F (d + 1))) (deep := decide (128 < d)) (l := l.drop q) (fun x r hr => one_good (rd_good F (d + 1) r (by simp at hr hF ⊢; omega)))
        generalize hst : step (one (rd F (d + 1))) (decide (128 < d)) (l.drop q) = T1 at C1 hG
        replace hst := Lib.hid hst
        replace hG := Lib.hid hG
        repeat' ((fail_if_success at_builtin); (first | go_skip | go_guarded | go_step))
        refine (C1.out _ hbr).mono ?_
        cases T1 with
        | inl er =>
          rintro e w7 ⟨hb7, k9, x9, s9, A9, n9, c9, kk9, rfl⟩
          have he : ((er : Int) != 0) = true := by have := hG.out.1; simpa using this
          dsimp only
          repeat' ((fail_if_success at_builtin); (first | go_skip | go_guarded | go_step))
          go_ret3
          have := Hah.out
          rw [HN.out, many_stop (e := er) hst.out] at this
          rw [← this]
          exact ⟨⟨q, hq, rfl⟩, Below.box (hbr.trans (hb7.mono hbr.size)) (Nat.le_refl _) _⟩
        | inr p =>
          obtain ⟨v, r⟩ := p
          obtain ⟨k9, hk1, hk2, rfl⟩ := hG.out
          simp only [List.length_drop] at hk2
          have hkk : (l.length - (List.drop k9 (List.drop q l)).length : Nat) = q + k9 := by simp only [List.length_drop]; omega
          rintro e w7 ⟨hb7, hi1, hi2, A9, c9, cs9, rfl, hs9, hr9⟩
          rw [hkk]
          clear hkk
          have hbx := Below.box hb7 (Nat.le_refl _) (.cells (fcells v.1 v.2.1 v.2.2.1 A9 v.2.2.2.length c9) 27)
          have g1 : ∀ p : Addr, Fresh wr w7 p.block → (w7.alloc (.cells (fcells v.1 v.2.1 v.2.2.1 A9 v.2.2.2.length c9) 27)).cell? p = w7.cell? p := fun p hp => ((Below.refl w7.heap.size w7).alloc (Nat.le_refl _) _).cell hp.2
          have g2 : ∀ b, Fresh wr w7 b → Fresh wr (w7.alloc (.cells (fcells v.1 v.2.1 v.2.2.1 A9 v.2.2.2.length c9) 27)) b := fun b hb => ⟨hb.1, by have := hb.2; simp; omega⟩
          have Hs9 := Lib.hid (hs9.map g1 g2); clear hs9
          have Hr9 := Lib.hid (RepP.map g1 g2 hr9); clear hr9
          clear g1 g2
          have hown := Hown.out.below hbx
          have Hbx := Lib.hid hbx; clear hbx
          dsimp only
          repeat' ((fail_if_success at_builtin); (first | go_skip | go_guarded | go_step))
          refine wp_app1 hown Try.underlying22 fld_info (by omega) ?_
          intro v1 w9 hown9 hg9
          have hks := kept_step Hown.out Hbx.out hg9
          clear hown
          have f3 : IntKind.u64.wrap ((i : Int) + 1) = (i : Int) + 1 := IntWalk.u64_in _ (by have := HT.out; omega)
          have Hown9 := Lib.hid hown9; clear hown9
          have Hks := Lib.hid hks; clear hks
          clear hg9
          repeat' ((fail_if_success at_builtin); (first | go_skip | go_guarded | go_step))
          go_roundw
          case rel =>
            refine ⟨i + 1, q + k9, f.append (.cons v.1 v.2.1 v.2.2.1 v.2.2.2 .nil), cs ++ [.int .i64 v.1, .int .i64 v.2.1, .string v.2.2.1, .slice A9 v.2.2.2.length c9], by omega, by congr 1, rfl, by omega, by omega, by omega, by rw [Flds.append_length]; simp [Flds.length]; omega, ?_, ?_, ?_⟩
            · rw [Flds.append_length]; exact Hown9.out
            · exact RepP.append (RepP.map Hks.out.1 Hks.out.2.1 Hrep.out) ⟨A9, c9, [], cs9, rfl, hi1, hi2, Hs9.out.map Hks.out.2.2.1 Hks.out.2.2.2, RepP.map Hks.out.2.2.1 Hks.out.2.2.2 Hr9.out, rfl⟩
            · have := Hah.out
              rw [HN.out, many_step hst.out] at this
              rw [show N - (i + 1) = N - i - 1 from by omega, ← List.drop_drop]
              exact this
          case measure => simp [intOf]; omega
      · have hN : i = N := by omega
        have HN := Lib.hid hN; clear hN
        repeat' ((fail_if_success at_builtin); (first | go_skip | go_guarded | go_step))
        go_ret3
        obtain ⟨A9, c9, rfl⟩ := Hown.out.slice_form
        have := Hah.out
        rw [HN.out, Nat.sub_self] at this
        simp only [many, ahead, append_nil] at this
        rw [← this]
        refine ⟨A9, c9, cs, ?_, Hown.out, Hrep.out.imp fun b hb => hb.1⟩
        rw [List.length_drop, show l.length - (l.length - q) = q from by omega]
        rfl
  · have h0' : ((e : Int) != 0) = true := by simp; omega
    rw [if_pos h0]
    go_enter Try.func36, Try.ntmps36
    repeat' ((fail_if_success at_builtin); (first | go_skip | go_guarded | go_step))
    refine C.out.mono ?_
    rintro e w' ⟨rfl, rfl⟩
    dsimp only
    repeat' ((fail_if_success at_builtin); (first | go_skip | go_guarded | go_step))
    go_ret3
    exact ⟨⟨q0, hq0, rfl⟩, Below.refl _ _⟩
end Go.Proofs.Ytjipnomokggcfaa
