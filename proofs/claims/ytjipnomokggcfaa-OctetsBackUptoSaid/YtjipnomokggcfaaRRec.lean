/- ref.field, ref.Record: contracts. -/
import Derived.Test.YtjipnomokggcfaaRec
namespace Go.Proofs.Ytjipnomokggcfaa
open Go.RowKit
def FieldOK (k x : Int) (s : ByteArray) (sub : Flds) : Prop :=
  ∀ (A : Option Addr) (c : Nat) (csub : List Value) (w : World) (B d : Nat), B ≤ w.heap.size → Seq w B 4 A sub.length csub → RepF w B sub csub → s.size + sub.size ≤ 1000000000 → IsInt x → vone d k x s sub = 0 →
    Calls Try.prog 34 #[.agg (fcells k x s A sub.length c)] w (RetBytes w (enc1 k x s sub))
set_option maxRecDepth 100000 in
set_option maxHeartbeats 400000 in
theorem field_body (k x : Int) (s : ByteArray) (sub : Flds) (ih : ∀ i k' x' s' sub', sub.get? i = some (k', x', s', sub') → FieldOK k' x' s' sub') : FieldOK k x s sub := by
  intro A c csub w B d hB hseq hrep hsz hx hfine
  have Ih := Lib.hid ih; clear ih
  have hlen := Flds.length_le_size sub
  have hel := encs_le hrep (by omega)
  have hul := Lib.uvarint_length64 (x := sub.length) (by omega)
  have Hel := Lib.hid hel; clear hel
  have Hul := Lib.hid hul; clear hul
  have hn : IntKind.u64.wrap (sub.length : Int) = (sub.length : Int) := IntWalk.u64_in _ (by omega)
  have hvf := vone_fine hfine
  have hkk := clean_kind hvf.2.1
  have Hvf := Lib.hid hvf; clear hvf hfine
  have Hx := Lib.hid hx; clear hx
  have Hkk := Lib.hid hkk; clear hkk
  have hba := (Below.refl w.heap.size w).alloc (Nat.le_refl _) (.cells (fcells k x s A sub.length c) 27)
  have Hba := Lib.hid hba; clear hba
  have hlit := fun b => Own.lit (cs := #[.int .u8 b]) (e := 5) (sz := 1) (n := 1) (Below.refl _ (w.alloc (.cells (fcells k x s A sub.length c) 27))) rfl (by omega)
  simp only [World.size_alloc] at hlit
  have Hlit := Lib.hid hlit; clear hlit
  rcases Hkk.out with rfl | rfl | rfl
  · go_enter Try.func34, Try.ntmps34
    repeat' ((fail_if_success at_builtin); (first | go_skip | go_guarded | go_step))
    refine (rPutInt_any x _ Hx.out.1 Hx.out.2).mono ?_
    rintro e w3 ⟨A3, c3, rfl, h3⟩
    dsimp only
    repeat' ((fail_if_success at_builtin); (first | go_skip | go_guarded | go_step))
    refine wp_appS ((Hlit.out 0).below h3.2) Try.underlying30 u8_info h3.seq (bv_one _) ?_ ?_
    · have := Lib.uvarint_length64 (Lib.zigzag_lt Hx.out.1 Hx.out.2)
      omega
    intro v4 w4 hown4 _
    repeat' ((fail_if_success at_builtin); (first | go_skip | go_guarded | go_step))
    go_ret
    have := Bytes.app (l := [0]) (m := Lib.uvarint (Lib.zigzag x)) hown4 rfl
    exact Bytes.ret (Own.up Hba.out this)
  · go_enter Try.func34, Try.ntmps34
    repeat' ((fail_if_success at_builtin); (first | go_skip | go_guarded | go_step))
    refine (rPutStr_any s _ (by omega)).mono ?_
    rintro e w3 ⟨A3, c3, rfl, h3⟩
    dsimp only
    repeat' ((fail_if_success at_builtin); (first | go_skip | go_guarded | go_step))
    refine wp_appS ((Hlit.out 1).below h3.2) Try.underlying30 u8_info h3.seq (bv_one _) ?_ ?_
    · have h4 : s.data.toList.length = s.size := by simp
      have := Lib.uvarint_length64 (x := s.size) (by omega)
      simp only [List.length_append, h4]
      omega
    intro v4 w4 hown4 _
    repeat' ((fail_if_success at_builtin); (first | go_skip | go_guarded | go_step))
    go_ret
    have := Bytes.app (l := [1]) (m := Lib.uvarint s.size ++ s.data.toList) hown4 rfl
    exact Bytes.ret (Own.up Hba.out this)
  · go_enter Try.func34, Try.ntmps34
    repeat' ((fail_if_success at_builtin); (first | go_skip | go_guarded | go_step))
    refine (rPutUint_any sub.length _ (U64.mk (by omega))).mono ?_
    rintro e w3 ⟨A3, c3, rfl, h3⟩
    dsimp only
    repeat' ((fail_if_success at_builtin); (first | go_skip | go_guarded | go_step))
    refine wp_appS ((Hlit.out 2).below h3.2) Try.underlying30 u8_info h3.seq (bv_one _) ?_ ?_
    · have := Hul.out
      omega
    intro v4 w4 hown4 _
    have h4 := Bytes.app (l := [2]) (m := Lib.uvarint sub.length) hown4 rfl
    clear hown4
    have hc4 := fun o => h4.2.cell (p := ⟨w.heap.size, o, none⟩) (by simp)
    have hbox4 : w4.cell? ⟨w.heap.size, 3, none⟩ = some (.slice A sub.length c) := by rw [hc4]; simp [go_sem]
    clear hc4
    repeat' ((fail_if_success at_builtin); (first | go_skip | go_guarded | go_step))
    go_loopw [3, 4] (fun u3 u4 wr => ∃ i : Nat, i ≤ sub.length ∧ u4 = .int .i64 (i : Int) ∧ Bytes (w.alloc (.cells (fcells 2 x s A sub.length c) 27)) wr u3 (([2] ++ Lib.uvarint sub.length) ++ encs (sub.take i))) (fun _ u4 _ => sub.length - (intOf u4).toNat)
    case atStart => exact ⟨0, by omega, rfl, by rw [take_zero]; simpa [encs] using h4⟩
    case round =>
      obtain ⟨i, hi, rfl, hown⟩ := hrel
      clear h4 hbox4 h3
      have hcb := fun o => hown.2.cell (p := ⟨w.heap.size, o, none⟩) (by simp)
      have hbox : wr.cell? ⟨w.heap.size, 3, none⟩ = some (.slice A sub.length c) := by rw [hcb]; simp [go_sem]
      clear hcb
      by_cases hlt : i < sub.length
      · obtain ⟨⟨k', x', s', sub'⟩, hg⟩ := Flds.get?_lt sub i hlt
        obtain ⟨b, o, hA, hbB, hcell⟩ := hseq.2 (by omega)
        rw [hA] at hbox
        obtain ⟨A', c', csub', g1, g2, g3, g4, hk', hx', hseq', hrep'⟩ := hrep.at_ hg
        have hbw := Hba.out.trans (hown.2.mono (by simp))
        have hcell' := fun j u hu => (hbw.cell (p := ⟨b, o + j, none⟩) (by simp; omega)).trans (hcell j u hu)
        have e1 := hcell' _ _ g1
        have e2 := hcell' _ _ g2
        rw [← Nat.add_assoc] at e2
        have e3 := hcell' _ _ g3
        rw [← Nat.add_assoc] at e3
        have e4 := hcell' _ _ g4
        rw [← Nat.add_assoc] at e4
        clear hcell hcell' g1 g2 g3 g4
        have hsz' := Flds.get?_size sub i hg
        have C := Ih.out i k' x' s' sub' hg A' c' csub' wr B (d + 1) (Nat.le_trans hB hbw.size) (hseq'.below (hbw.mono hB)) (hrep'.below (hbw.mono hB)) (by omega) hx' (Hvf.out.2.2.one hg)
        have Hc := Lib.hid C; clear C
        have Htake := Lib.hid (encs_take hg)
        have Hg := Lib.hid hg; clear hg
        have HA := Lib.hid hA; clear hA
        repeat' ((fail_if_success at_builtin); (first | go_skip | go_guarded | go_step))
        refine Hc.out.mono ?_
        rintro e w5 ⟨A5, c5, rfl, h5⟩
        dsimp only
        repeat' ((fail_if_success at_builtin); (first | go_skip | go_guarded | go_step))
        refine wp_appS (hown.below h5.2) Try.underlying30 u8_info h5.seq (bv_one _) ?_ ?_
        · have h1 := Hul.out
          have h2 := Hel.out
          have h4 := encs_take_le sub (i + 1)
          rw [Htake.out] at h4
          simp only [List.length_append, List.length_cons, List.length_nil] at h1 h2 h4 ⊢
          omega
        intro v6 w6 hown6 _
        repeat' ((fail_if_success at_builtin); (first | go_skip | go_guarded | go_step))
        go_roundw
        case rel =>
          refine ⟨i + 1, by omega, by go_num, ?_⟩
          rw [Htake.out, ← List.append_assoc]
          exact Bytes.app hown6 rfl
        case measure => simp [intOf]; omega
      · repeat' ((fail_if_success at_builtin); (first | go_skip | go_guarded | go_step))
        go_ret
        rw [take_all sub i (by omega)] at hown
        exact Bytes.ret (Own.up Hba.out hown)
theorem field_sub : ∀ (f : Flds) (i : Nat) (k x : Int) (s : ByteArray) (sub : Flds), f.get? i = some (k, x, s, sub) → FieldOK k x s sub
  | .nil, i, _, _, _, _, h => by simp [Flds.get?] at h
  | .cons k x s sub r, 0, _, _, _, _, h => by
    simp only [Flds.get?, Option.some.injEq, Prod.mk.injEq] at h
    obtain ⟨rfl, rfl, rfl, rfl⟩ := h
    exact field_body k x s sub (field_sub sub)
  | .cons _ _ _ _ r, i + 1, k, x, s, sub, h => field_sub r i k x s sub h
theorem field_any (k x : Int) (s : ByteArray) (sub : Flds) : FieldOK k x s sub := field_body k x s sub (field_sub sub)

theorem fix_at : ∀ (f : Flds) (n i : Nat) {k x : Int} {s : ByteArray} {sub : Flds}, i < n → f.get? i = some (k, x, s, sub) →
    (f.fix n).get? i = if vone 1 k x s sub = 0 then some (k, x, s, sub) else some (0, 0, ByteArray.empty, .nil)
  | _, 0, i, _, _, _, _, h, _ => by omega
  | .nil, _ + 1, i, _, _, _, _, _, h => by simp [Flds.get?] at h
  | .cons k x s sub r, n + 1, 0, _, _, _, _, _, h => by
    simp only [Flds.get?, Option.some.injEq, Prod.mk.injEq] at h
    obtain ⟨rfl, rfl, rfl, rfl⟩ := h
    simp only [Flds.fix]
    split <;> rfl
  | .cons k x s sub r, n + 1, i + 1, _, _, _, _, hi, h => by
    have := fix_at r n i (by omega) h
    simp only [Flds.fix]
    split <;> simpa only [Flds.get?] using this
theorem enc_fix {f : Flds} {n i : Nat} {k x : Int} {s : ByteArray} {sub : Flds} (hi : i < n) (h : f.get? i = some (k, x, s, sub)) :
    encs ((f.fix n).take (i + 1)) = encs ((f.fix n).take i) ++ (if vone 1 k x s sub = 0 then enc1 k x s sub else [0, 0]) := by
  have := fix_at f n i hi h
  by_cases hv : vone 1 k x s sub = 0
  · rw [if_pos hv] at this ⊢
    exact encs_take this
  · rw [if_neg hv] at this ⊢
    rw [encs_take this]
    congr 1
    have h0 : Lib.uvarint (Lib.zigzag 0) = [0] := by
      rw [show Lib.zigzag 0 = 0 from rfl, Lib.uvarint_small (by omega)]; rfl
    unfold enc1
    rw [if_pos rfl, h0]
theorem encs_fix_le {w : World} {B : Nat} : ∀ {f : Flds} {cs : List Value} (n : Nat), RepF w B f cs → f.size < 18446744073709551616 → (encs (f.fix n)).length ≤ 11 * f.size
  | f, _, 0, h, hs => by rw [fix_zero]; exact encs_le h hs
  | .nil, _, _ + 1, _, _ => by simp [Flds.fix, encs]
  | .cons k x s sub r, cs, n + 1, h, hsz => by
    obtain ⟨A, c, cs', csub, rfl, hk, hx, hs, hsub, hr⟩ := h
    simp only [Flds.size] at hsz ⊢
    have hl := Flds.length_le_size sub
    have h1 := encs_le hsub (by omega)
    have h2 := encs_fix_le n hr (by omega)
    have h3 := enc1_le (k := k) (s := s) (sub := sub) hx (by omega) (by omega)
    simp only [Flds.fix]
    split
    · rw [encs_cons, List.length_append]
      omega
    · rw [encs_cons, List.length_append]
      have := enc1_le (k := 0) (x := 0) (s := ByteArray.empty) (sub := .nil) ⟨by omega, by omega⟩ (by decide) (by decide)
      have h0 : ByteArray.empty.size = 0 := rfl
      have h0' : (encs .nil).length = 0 := rfl
      rw [h0, h0'] at this
      have := Flds.length_le_size sub
      omega
set_option maxRecDepth 100000 in
set_option maxHeartbeats 400000 in
theorem rRecord_any (f : Flds) (A : Option Addr) (c : Nat) (cs : List Value) (w : World) (B : Nat) (hB : B ≤ w.heap.size) (hseq : Seq w B 4 A f.length cs) (hrep : RepF w B f cs) (hsz : f.size ≤ 1000000000) :
    Calls Try.prog 14 #[.slice A f.length c] w (RetBytes w (Lib.uvarint f.length ++ encs (f.fix f.length))) := by
  have hlen := Flds.length_le_size f
  have hel := encs_fix_le f.length hrep (by omega)
  have hul := Lib.uvarint_length64 (x := f.length) (by omega)
  have Hel := Lib.hid hel; clear hel
  have Hul := Lib.hid hul; clear hul
  have hn : IntKind.u64.wrap (f.length : Int) = (f.length : Int) := IntWalk.u64_in _ (by omega)
  obtain ⟨F, hF⟩ : ∃ F, F = f.fix f.length := ⟨_, rfl⟩
  have HF := Lib.hid hF; clear hF
  rw [← HF.out] at Hel ⊢
  go_enter Try.func14, Try.ntmps14
  repeat' ((fail_if_success at_builtin); (first | go_skip | go_guarded | go_step))
  refine (rPutUint_any f.length _ (U64.mk (by omega))).mono ?_
  rintro e w1 ⟨A1, c1, rfl, h⟩
  dsimp only
  repeat' ((fail_if_success at_builtin); (first | go_skip | go_guarded | go_step))
  go_loopw [3, 4] (fun u3 u4 wr => ∃ i : Nat, i ≤ f.length ∧ u4 = .int .i64 (i : Int) ∧ Bytes w wr u3 (Lib.uvarint f.length ++ encs (F.take i))) (fun _ u4 _ => f.length - (intOf u4).toNat)
  case atStart => exact ⟨0, by omega, rfl, by rw [take_zero]; simpa [encs] using h⟩
  case round =>
    obtain ⟨i, hi, rfl, hown⟩ := hrel
    clear h
    by_cases hlt : i < f.length
    · obtain ⟨⟨k, x, s, sub⟩, hg⟩ := Flds.get?_lt f i hlt
      obtain ⟨b, o, rfl, hbB, hcell⟩ := hseq.2 (by omega)
      obtain ⟨A', c', csub', g1, g2, g3, g4, hk', hx', hseq', hrep'⟩ := hrep.at_ hg
      have hcell' := fun j u hu => (hown.2.cell (p := ⟨b, o + j, none⟩) (by simp; omega)).trans (hcell j u hu)
      have e1 := hcell' _ _ g1
      have e2 := hcell' _ _ g2
      rw [← Nat.add_assoc] at e2
      have e3 := hcell' _ _ g3
      rw [← Nat.add_assoc] at e3
      have e4 := hcell' _ _ g4
      rw [← Nat.add_assoc] at e4
      clear hcell hcell' g1 g2 g3 g4
      have hsz' := Flds.get?_size f i hg
      have hbw : b < wr.heap.size := by have := hown.2.size; omega
      have He : Hid (vone 1 k x s sub = 0 ↔ ((vone 1 k x s sub : Int) != 0) = false) := by unfold Hid; simp
      have C := rValid_any k x s sub A' c' csub' wr B (Nat.le_trans hB hown.2.size) (hseq'.below (hown.2.mono hB)) (hrep'.below (hown.2.mono hB)) (by omega)
      have Hc := Lib.hid C; clear C
      have C2 := fun (w2 : World) (h : Below wr.heap.size wr w2) hv => field_any k x s sub A' c' csub' w2 B 1 (Nat.le_trans (Nat.le_trans hB hown.2.size) h.size) (hseq'.below ((hown.2.trans (h.mono hown.2.size)).mono hB)) (hrep'.below ((hown.2.trans (h.mono hown.2.size)).mono hB)) (by omega) hx' hv
      have Hc2 := Lib.hid C2; clear C2
      have htake := enc_fix (n := f.length) hlt hg
      rw [← HF.out] at htake
      have Htake := Lib.hid htake; clear htake
      have Hx' := Lib.hid hx'; clear hx' hk'
      have Hg := Lib.hid hg; clear hg
      have hb : ∀ m, m ≤ 10 → ((Lib.uvarint f.length ++ encs (F.take i)).length + m) * 1 ≤ 140737488355328 := by
        intro m hm
        have h1 := Hul.out
        have h2 := Hel.out
        have h3 := encs_take_le F i
        rw [List.length_append]; omega
      have Hb := Lib.hid hb; clear hb
      repeat' ((fail_if_success at_builtin); (first | go_skip | go_guarded | go_step))
      refine Hc.out.mono ?_
      rintro e w2 ⟨rfl, hb2⟩
      obtain ⟨hc2, hf2⟩ := bcell hb2
      dsimp only
      rcases Bool.eq_false_or_eq_true ((vone 1 k x s sub : Int) != 0) with e0 | e0
      · repeat' ((fail_if_success at_builtin); (first | go_skip | go_guarded | go_step))
        refine wp_appL (m := 2) (hown.below hb2) Try.underlying30 u8_info (Hb.out 2 (by omega)) ?_
        intro v3 w3 hown3 _
        repeat' ((fail_if_success at_builtin); (first | go_skip | go_guarded | go_step))
        go_roundw
        case rel =>
          refine ⟨i + 1, by omega, by go_num, ?_⟩
          have hne : vone 1 k x s sub ≠ 0 := by
            have := He.out
            rw [e0] at this
            simpa using this
          rw [Htake.out, if_neg hne, ← List.append_assoc]
          exact Bytes.app (m := [0, 0]) hown3 rfl
        case measure => simp [intOf]; omega
      · have he : vone 1 k x s sub = 0 := He.out.2 e0
        have Hhe := Lib.hid he; clear he
        repeat' ((fail_if_success at_builtin); (first | go_skip | go_guarded | go_step))
        refine (Hc2.out w2 hb2 Hhe.out).mono ?_
        rintro e w4 ⟨A4, c4, rfl, h4⟩
        dsimp only
        repeat' ((fail_if_success at_builtin); (first | go_skip | go_guarded | go_step))
        refine wp_appS ((hown.below hb2).below h4.2) Try.underlying30 u8_info h4.seq (bv_one _) ?_ ?_
        · have h1 := Hul.out
          have h2 := Hel.out
          have h4 := encs_take_le F (i + 1)
          rw [Htake.out, if_pos Hhe.out] at h4
          simp only [List.length_append] at h1 h2 h4 ⊢
          omega
        intro v5 w5 hown5 _
        repeat' ((fail_if_success at_builtin); (first | go_skip | go_guarded | go_step))
        go_roundw
        case rel =>
          refine ⟨i + 1, by omega, by go_num, ?_⟩
          rw [Htake.out, if_pos Hhe.out, ← List.append_assoc]
          exact Bytes.app hown5 rfl
        case measure => simp [intOf]; omega
    · repeat' ((fail_if_success at_builtin); (first | go_skip | go_guarded | go_step))
      go_ret
      have hl := fix_length f f.length
      rw [← HF.out] at hl
      rw [take_all F i (by omega)] at hown
      exact hown.ret
end Go.Proofs.Ytjipnomokggcfaa
