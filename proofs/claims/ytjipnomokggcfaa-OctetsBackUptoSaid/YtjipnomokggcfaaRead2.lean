/- read: its contract. -/
import Derived.Test.YtjipnomokggcfaaBox
import Derived.Deep.DeepCutAuto
namespace Go.Proofs.Ytjipnomokggcfaa
open Go.RowKit
/-- one old cell is as it was -/
def Held1 (wr : World) (b o : Nat) (u : Value) (w1 : World) : Prop := Below wr.heap.size wr w1 ∧ w1.cell? ⟨b, o, none⟩ = some u
theorem held1_call {wr w1 w2 : World} {b o B2 : Nat} {u : Value} (hb : b < wr.heap.size) (h : Below wr.heap.size wr w1 ∧ w1.cell? ⟨b, o, none⟩ = some u) (hc : Below B2 w1 w2) (hB2 : B2 = w1.heap.size) :
    Below wr.heap.size wr w2 ∧ w2.cell? ⟨b, o, none⟩ = some u := by
  subst hB2
  exact ⟨h.1.trans (hc.mono h.1.size), (hc.cell (p := ⟨b, o, none⟩) (Nat.lt_of_lt_of_le hb h.1.size)).trans h.2⟩
theorem held1_alloc {wr w1 : World} {b o : Nat} {u : Value} (hb : b < wr.heap.size) (h : Below wr.heap.size wr w1 ∧ w1.cell? ⟨b, o, none⟩ = some u) (x : Obj) :
    Below wr.heap.size wr (w1.alloc x) ∧ (w1.alloc x).cell? ⟨b, o, none⟩ = some u :=
  held1_call hb h ((Below.refl _ _).alloc (Nat.le_refl _) x) rfl
theorem held1_set {wr w1 : World} {b o : Nat} {u x : Value} {p : Addr} (hb : b < wr.heap.size) (h : Below wr.heap.size wr w1 ∧ w1.cell? ⟨b, o, none⟩ = some u) (hp : wr.heap.size ≤ p.block) :
    Below wr.heap.size wr (w1.setCell p x) ∧ (w1.setCell p x).cell? ⟨b, o, none⟩ = some u :=
  ⟨h.1.setCell hp x, by rw [World.cell?_setCell_far _ _ _ _ (by dsimp only; omega)]; exact h.2⟩
set_option maxRecDepth 100000 in
set_option maxHeartbeats 6000000 in
theorem read_body (F : Nat) (hR : ReadOK F) : ReadOK (F + 1) := by
  intro d l A n c w B hF hl hm hc hB hs hd
  subst hl
  have HR := Lib.hid hR; clear hR
  unfold rd
  have hT := takeU_lt l
  have hK := @takeU_len l
  have C := takeUint_any A _ c l w B rfl hm hs
  generalize takeU l = T at hT hK C ⊢
  obtain ⟨N, k, e⟩ := T
  unfold trip at C
  dsimp only at hT hK C ⊢
  have HT := Lib.hid hT; clear hT
  have HK := Lib.hid hK; clear hK
  replace C := Lib.hid C
  by_cases h0 : e = 0
  · subst h0
    simp only [Int.natCast_zero] at C
    have hk := HK.out rfl
    rw [if_neg (by simp)]
    generalize hM : many (one (rd F (d + 1))) (decide (128 < d)) N (l.drop k) = M
    have HM := Lib.hid hM; clear hM
    go_enter Try.func35, Try.ntmps35
    repeat' ((fail_if_success at_builtin); (first | go_skip | go_guarded | go_step))
    refine C.out.mono ?_
    rintro e w' ⟨rfl, rfl⟩
    dsimp only
    repeat' ((fail_if_success at_builtin); (first | go_skip | go_guarded | go_step))
    go_loopw [8, 10, 24] (fun u8 u10 u24 wr => ∃ (i q : Nat) (f : Flds) (cs : List Value), i ≤ N ∧ u24 = .int .u64 (i : Int) ∧ u8 = .int .i64 (q : Int) ∧ q ≤ l.length ∧ i ≤ q ∧ f.length = i ∧
        Own w wr 27 4 u10 f.length cs ∧ RepP wr (Kept w wr u10) f cs ∧ ahead f (many (one (rd F (d + 1))) (decide (128 < d)) (N - i) (l.drop q)) = M) (fun u8 _ _ _ => l.length - (intOf u8).toNat)
    case atStart => exact ⟨0, k, .nil, [], by omega, rfl, rfl, hk.2, by omega, rfl, Own.nil_ _ _ _, rfl, by rw [Nat.sub_zero, HM.out]; cases M <;> rfl⟩
    case round =>
      obtain ⟨i, q, f, cs, hi, rfl, rfl, hq, hiq, hfi, hown, hrep, hah⟩ := hrel
      have Hown := Lib.hid hown; clear hown
      have Hrep := Lib.hid hrep; clear hrep
      have Hah := Lib.hid hah; clear hah
      have hbr := Hown.out.2
      by_cases hlt : i < N
      · by_cases hd1 : 128 < d
        · have hN : N - i = (N - i - 1) + 1 := by omega
          have HN := Lib.hid hN; clear hN
          repeat' ((fail_if_success at_builtin); (first | go_skip | go_guarded | go_step))
          go_ret3
          have := Hah.out
          rw [HN.out, many_stop (e := 13) (by unfold step; rw [if_pos (by simpa using hd1)])] at this
          rw [← this]
          exact ⟨rfl, hbr⟩
        · have hN : N - i = (N - i - 1) + 1 := by omega
          have HN := Lib.hid hN; clear hN
          have hdd : decide (128 < d) = false := by simpa using hd1
          have Hdd := Lib.hid hdd; clear hdd
          by_cases hq1 : q = l.length
          · have hq2 : ((q : Int) == (l.length : Int)) = true := by simp; omega
            have Hq1 := Lib.hid hq1; clear hq1
            repeat' ((fail_if_success at_builtin); (first | go_skip | go_guarded | go_step))
            go_ret3
            have := Hah.out
            rw [HN.out, many_stop (e := 4) (by unfold step; rw [if_neg (by rw [Hdd.out]; simp), List.drop_of_length_le (by have := Hq1.out; omega)])] at this
            rw [← this]
            exact ⟨rfl, hbr⟩
          · have hq2 : ((q : Int) == (l.length : Int)) = false := by simp; omega
            have hq3 : q < l.length := by omega
            clear hq1
            obtain ⟨b, o, rfl, hbB, hcell⟩ := hs.2 (by omega)
            obtain ⟨x, hx⟩ : ∃ x, l[q]? = some x := ⟨l[q]'hq3, List.getElem?_eq_getElem hq3⟩
            have hc0 := hcell q (bv x) (by simp [hx])
            have hcx : wr.cell? ⟨b, o + q, none⟩ = some (bv x) := (hbr.cell (p := ⟨b, o + q, none⟩) (by dsimp only; omega)).trans hc0
            have hbw : b < wr.heap.size := by have := hbr.size; omega
            clear hcell hc0
            have hx256 : (x.toNat : Int) < 256 := by have := x.toNat_lt; omega
            have hdrop : l.drop q = x :: l.drop (q + 1) := by
              obtain ⟨_, he⟩ := List.getElem?_eq_some_iff.1 hx
              rw [List.drop_eq_getElem_cons hq3, he]
            have Hdrop := Lib.hid hdrop; clear hdrop hx
            by_cases hx2 : 2 < (x.toNat : Int)
            · repeat' ((fail_if_success at_builtin); (first | go_skip | go_guarded | go_step))
              go_ret3
              have := Hah.out
              rw [HN.out, many_stop (e := 5) (by unfold step; rw [if_neg (by rw [Hdd.out]; simp), Hdrop.out]; dsimp only; rw [if_pos (by omega)])] at this
              rw [← this]
              exact ⟨rfl, hbr⟩
            · repeat' ((fail_if_success at_builtin); (first | go_skip | go_guarded | go_step))
              have hxl : x.toNat ≤ 2 := by omega
              have hcut := Seq.cut (hs.below (hbr.mono hB)) (k := q + 1) (cap := c) (by omega) hc
              simp only [Nat.mul_one] at hcut
              rw [← List.map_drop] at hcut
              simp only [Option.map_some, Addr.add_lit] at hcut
              have C1 := fun (w2 : World) (hb3 : Below wr.heap.size wr w2 ∧ w2.cell? ⟨b, o + q, none⟩ = some (bv x)) => have hb2 := hb3.1; readOne_any F HR.out x d (l.drop (q + 1)) (if c = q + 1 then some ⟨b, o, none⟩ else some ⟨b, o + (q + 1), none⟩) (l.length - (q + 1)) (c - (q + 1)) w2 B (by simp; omega) (by simp) (by omega) (by omega) (Nat.le_trans (Nat.le_trans hB hbr.size) hb2.size)
                (Seq.below hcut (hb2.mono (Nat.le_trans hB hbr.size))) (by omega) hxl
              replace C1 := Lib.hid C1
              clear hcut
              have hG := one_good (c := x) (rd_good F (d + 1) (l.drop (q + 1)) (by simp; omega))
              have hst : step (one (rd F (d + 1))) (decide (128 < d)) (l.drop q) = one (rd F (d + 1)) x (l.drop (q + 1)) := by
                unfold step
                rw [if_neg (by rw [Hdd.out]; simp), Hdrop.out]
                dsimp only
                rw [if_neg (by omega)]
              have f1 : (0 : Int) ≤ (q : Int) + 1 := by omega
              have f2 : (q : Int) + 1 ≤ (l.length : Int) := by omega
              have f3 : IntKind.i64.wrap ((q : Int) + 1) = (q : Int) + 1 := IntWalk.i64_in _ (by omega)
              have f4 : ((q : Int) + 1).toNat = q + 1 := by omega
              have f5 : (0 : Int) ≤ (q : Int) := by omega
              have f7 : IntKind.i64.wrap (x.toNat : Int) = (x.toNat : Int) := IntWalk.i64_in _ (by omega)
              have f6 : (q : Int) < (l.length : Int) := by omega
              generalize one (rd F (d + 1)) x (l.drop (q + 1)) = T1 at C1 hG hst
              replace hst := Lib.hid hst
              replace hG := Lib.hid hG
              cases T1 with
              | inl er =>
                go_cut [11, 12, 13] (fun u11 u12 u13 wx => Below wr.heap.size wr wx ∧ (∃ a, u11 = .pointer a) ∧ (∃ y, u12 = .int .i64 y) ∧ u13 = .int .i64 (er : Int))
                case first =>
                  go_region_held3 (fun w' => Below wr.heap.size wr w' ∧ w'.cell? ⟨b, o + q, none⟩ = some (bv x)) (first | exact ⟨(Below.refl _ _).drew, hcx⟩ | exact held1_call hbw (by assumption) hbq (by rfl) | exact held1_alloc hbw (by assumption) _ | exact held1_alloc hbw hs7 _ | exact held1_set hbw (held1_set hbw (held1_set hbw (held1_set hbw (by assumption) (by simp)) (by simp)) (by simp)) (by simp))
                    (first | (go_at_call 38; refine (C1.out _ (by assumption)).mono ?_; rintro e w7 ⟨hbq, k9, x9, s9, A9, n9, c9, kk9, rfl⟩; have hs7 := held1_call hbw (by assumption) hbq (by rfl); obtain ⟨hcq, hfq⟩ := bcell hbq; dsimp only))
                  all_goals
                    repeat' ((fail_if_success at_builtin); (first | go_skip | go_guarded | go_step))
                    go_meet
                    case rel => exact ⟨And.left (a := Below wr.heap.size wr _) (b := _ = some (bv x)) (by assumption), ⟨_, rfl⟩, ⟨_, rfl⟩, rfl⟩
                case rest =>
                  obtain ⟨hbx, ⟨a9, rfl⟩, ⟨y9, rfl⟩, rfl⟩ := hcut
                  have he : ((er : Int) != 0) = true := by have := hG.out.1; simpa using this
                  clear f1 f2 f3 f4 f5 f6 f7
                  repeat' ((fail_if_success at_builtin); (first | go_skip | go_guarded | go_step))
                  go_ret3
                  have := Hah.out
                  rw [HN.out, many_stop (e := er) hst.out] at this
                  rw [← this]
                  exact ⟨rfl, hbr.trans (hbx.mono hbr.size)⟩
              | inr p =>
                obtain ⟨v, r⟩ := p
                go_cut [11, 12, 13] (fun u11 u12 u13 wx => u12 = .int .i64 (((l.drop (q + 1)).length - r.length : Nat) : Int) ∧ u13 = .int .i64 0 ∧ IsInt v.1 ∧ IsInt v.2.1 ∧ Below wr.heap.size wr wx ∧ Box wr wx v u11)
                case first =>
                  go_region_held3 (fun w' => Below wr.heap.size wr w' ∧ w'.cell? ⟨b, o + q, none⟩ = some (bv x)) (first | exact ⟨(Below.refl _ _).drew, hcx⟩ | exact held1_call hbw (by assumption) hbq (by rfl) | exact held1_alloc hbw (by assumption) _ | exact held1_alloc hbw hs7 _ | exact held1_set hbw (held1_set hbw (held1_set hbw (held1_set hbw (by assumption) (by simp)) (by simp)) (by simp)) (by simp))
                    (first | (go_at_call 38; refine (C1.out _ (by assumption)).mono ?_; rintro e w7 ⟨hbq, hi1, hi2, A9, c9, cs9, rfl, hsq9, hrp9⟩; have hs7 := held1_call hbw (by assumption) hbq (by rfl); obtain ⟨hcq, hfq⟩ := bcell hbq; replace hsq9 := Lib.hid hsq9; replace hrp9 := Lib.hid hrp9; replace hi1 := Lib.hid hi1; replace hi2 := Lib.hid hi2; dsimp only))
                  all_goals
                    repeat' ((fail_if_success at_builtin); (first | go_skip | go_guarded | go_step))
                    go_meet
                  case rel =>
                    refine ⟨by simp, rfl, hi1.out, hi2.out, And.left (b := _ = some (bv x)) (by assumption), ?_⟩
                    exact box_after (by simp) hbq.size hsq9.out hrp9.out
                  case rel =>
                    have q0 : w7.cell? ⟨wr.heap.size, 0, none⟩ = some (.int .i64 0) := by rw [hcq _ _ (by simp)]; simp [go_sem]
                    have q1 : w7.cell? ⟨wr.heap.size, 1, none⟩ = some (.int .i64 0) := by rw [hcq _ _ (by simp)]; simp [go_sem]
                    have q2 : w7.cell? ⟨wr.heap.size, 2, none⟩ = some (.string ⟨#[]⟩) := by rw [hcq _ _ (by simp)]; simp [go_sem]
                    have q3 : w7.cell? ⟨wr.heap.size, 3, none⟩ = some (.slice none 0 0) := by rw [hcq _ _ (by simp)]; simp [go_sem]
                    refine ⟨by simp, rfl, hi1.out, hi2.out, And.left (b := _ = some (bv x)) (by assumption), ?_⟩
                    exact box_before (Nat.le_refl _) (by simp) hbq.size q0 q1 q2 q3 hsq9.out hrp9.out
                case rest =>
                  obtain ⟨rfl, rfl, hi1, hi2, hbx, g9, A9, c9, cs9, rfl, hg1, hg2, q0, q1, q2, q3, hs9, hr9⟩ := hcut
                  have hown := Hown.out.below (hbx.mono (Nat.le_refl _))
                  have Hs9 := Lib.hid hs9; clear hs9
                  have Hr9 := Lib.hid hr9; clear hr9
                  clear f1 f2 f3 f4 f5 f6 f7
                  repeat' ((fail_if_success at_builtin); (first | go_skip | go_guarded | go_step))
                  obtain ⟨k9, hk1, hk2, rfl⟩ := hG.out
                  simp only [List.length_drop] at hk2
                  refine wp_app1 hown Try.underlying22 fld_info (by omega) ?_
                  intro v1 w9 hown9 hg9
                  have hks := kept_step Hown.out hbx hg9
                  clear hown
                  have hkk : ((List.drop (q + 1) l).length - (List.drop k9 (List.drop (q + 1) l)).length : Nat) = k9 := by simp only [List.length_drop]; omega
                  rw [hkk]
                  have f1 : IntKind.i64.wrap ((k9 : Int) + 1) = (k9 : Int) + 1 := IntWalk.i64_in _ (by omega)
                  have f2 : IntKind.i64.wrap ((q : Int) + ((k9 : Int) + 1)) = (q : Int) + ((k9 : Int) + 1) := IntWalk.i64_in _ (by omega)
                  have f3 : IntKind.u64.wrap ((i : Int) + 1) = (i : Int) + 1 := IntWalk.u64_in _ (by have := HT.out; omega)
                  have Hown9 := Lib.hid hown9; clear hown9
                  have Hg9 := Lib.hid hg9; clear hg9
                  have Hks := Lib.hid hks; clear hks
                  repeat' ((fail_if_success at_builtin); (first | go_skip | go_guarded | go_step))
                  go_roundw
                  case rel =>
                    refine ⟨i + 1, q + 1 + k9, f.append (.cons v.1 v.2.1 v.2.2.1 v.2.2.2 .nil), cs ++ [.int .i64 v.1, .int .i64 v.2.1, .string v.2.2.1, .slice A9 v.2.2.2.length c9], by omega, by congr 1, by congr 1; omega, by omega, by omega, by rw [Flds.append_length]; simp [Flds.length]; omega, ?_, ?_, ?_⟩
                    · rw [Flds.append_length]; exact Hown9.out
                    · exact RepP.append (RepP.map Hks.out.1 Hks.out.2.1 Hrep.out) ⟨A9, c9, [], cs9, rfl, hi1, hi2, Hs9.out.map Hks.out.2.2.1 Hks.out.2.2.2, RepP.map Hks.out.2.2.1 Hks.out.2.2.2 Hr9.out, rfl⟩
                    · have := Hah.out
                      rw [HN.out, many_step hst.out] at this
                      rw [show N - (i + 1) = N - i - 1 from by omega, show q + 1 + k9 = q + 1 + k9 from rfl, ← List.drop_drop]
                      exact this
                  case measure => simp [intOf]; omega
      · have hN : i = N := by omega
        have HN := Lib.hid hN; clear hN
        repeat' ((fail_if_success at_builtin); (first | go_skip | go_guarded | go_step))
        go_ret3
        obtain ⟨A9, c9, rfl⟩ := Hown.out.slice_form
        have := Hah.out
        rw [HN.out, Nat.sub_self] at this
        simp only [many, ahead, append_nil] at this
        rw [← this]
        refine ⟨A9, c9, cs, ?_, Hown.out, Hrep.out.imp fun b hb => hb.1⟩
        rw [List.length_drop, show l.length - (l.length - q) = q from by omega]
        rfl
  · have h0' : ((e : Int) != 0) = true := by simp; omega
    rw [if_pos h0]
    go_enter Try.func35, Try.ntmps35
    repeat' ((fail_if_success at_builtin); (first | go_skip | go_guarded | go_step))
    refine C.out.mono ?_
    rintro e w' ⟨rfl, rfl⟩
    dsimp only
    repeat' ((fail_if_success at_builtin); (first | go_skip | go_guarded | go_step))
    go_ret3
    exact ⟨rfl, Below.refl _ _⟩
end Go.Proofs.Ytjipnomokggcfaa
