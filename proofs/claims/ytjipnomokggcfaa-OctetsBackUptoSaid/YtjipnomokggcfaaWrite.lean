/- write, Record of both: contracts. -/
import Derived.Test.YtjipnomokggcfaaVal2
namespace Go.Proofs.Ytjipnomokggcfaa
open Go.RowKit
def WriteOK (f : Flds) : Prop :=
  ∀ (A : Option Addr) (c : Nat) (cs : List Value) (w : World) (B d : Nat), B ≤ w.heap.size → Seq w B 4 A f.length cs → RepF w B f cs → f.size ≤ 1000000000 → Fine d f →
    Calls Try.prog 33 #[.slice A f.length c] w (RetBytes w (Lib.uvarint f.length ++ encs f))
set_option maxRecDepth 100000 in
set_option maxHeartbeats 400000 in
theorem write_body (f : Flds) (ih : ∀ i k x s sub, f.get? i = some (k, x, s, sub) → WriteOK sub) : WriteOK f := by
  intro A c cs w B d hB hseq hrep hsz hfine
  have Ih := Lib.hid ih; clear ih
  have hlen := Flds.length_le_size f
  have hel := encs_le hrep (by omega)
  have hul := Lib.uvarint_length64 (x := f.length) (by omega)
  have Hel := Lib.hid hel; clear hel
  have Hul := Lib.hid hul; clear hul
  have hn : IntKind.u64.wrap (f.length : Int) = (f.length : Int) := IntWalk.u64_in _ (by omega)
  go_enter Try.func33, Try.ntmps33
  repeat' ((fail_if_success at_builtin); (first | go_skip | go_guarded | go_step))
  refine (putUint_any f.length _ (U64.mk (by omega))).mono ?_
  rintro e w1 ⟨A1, c1, rfl, h⟩
  dsimp only
  repeat' ((fail_if_success at_builtin); (first | go_skip | go_guarded | go_step))
  go_loopw [3, 12] (fun u3 u12 wr => ∃ i : Nat, i ≤ f.length ∧ u12 = .int .i64 (i : Int) ∧ Bytes w wr u3 (Lib.uvarint f.length ++ encs (f.take i))) (fun _ u12 _ => f.length - (intOf u12).toNat)
  case atStart => exact ⟨0, by omega, rfl, by rw [take_zero]; simpa [encs] using h⟩
  case round =>
    obtain ⟨i, hi, rfl, hown⟩ := hrel
    clear h
    by_cases hlt : i < f.length
    · obtain ⟨⟨k, x, s, sub⟩, hg⟩ := Flds.get?_lt f i hlt
      obtain ⟨b, o, rfl, hbB, hcell⟩ := hseq.2 (by omega)
      obtain ⟨A', c', csub', g1, g2, g3, g4, hk', hx', hseq', hrep'⟩ := hrep.at_ hg
      have hcell' := fun j u hu => (hown.2.cell (p := ⟨b, o + j, none⟩) (by simp; omega)).trans (hcell j u hu)
      have e1 := hcell' _ _ g1
      have e2 := hcell' _ _ g2
      rw [← Nat.add_assoc] at e2
      have e3 := hcell' _ _ g3
      rw [← Nat.add_assoc] at e3
      have e4 := hcell' _ _ g4
      rw [← Nat.add_assoc] at e4
      clear hcell hcell' g1 g2 g3 g4
      have hsz' := Flds.get?_size f i hg
      have hvf := vone_fine (hfine.one hg)
      have hkk := clean_kind hvf.2.1
      have Hvf := Lib.hid hvf; clear hvf
      have Hx' := Lib.hid hx'; clear hx' hk'
      have Hsub := Lib.hid (Ih.out i k x s sub hg)
      have Htake := Lib.hid (encs_take hg)
      have Hg := Lib.hid hg; clear hg
      have hb : ((Lib.uvarint f.length ++ encs (f.take i)).length + 1) * 1 ≤ 140737488355328 := by
        have h1 := Hul.out
        have h2 := Hel.out
        have h3 := encs_take_le f i
        rw [List.length_append]; omega
      have Hb := Lib.hid hb; clear hb
      have Hkk := Lib.hid hkk; clear hkk
      rcases Hkk.out with rfl | rfl | rfl
      · repeat' ((fail_if_success at_builtin); (first | go_skip | go_guarded | go_step))
        refine wp_app1 (hown.alloc _) Try.underlying30 u8_info Hb.out ?_
        intro v2 w2 hown2 hg2
        obtain ⟨hc2, hf2⟩ := hown.far hg2 (b := wr.heap.size) (Nat.le_refl _) (by simp; omega)
        have hown2 : Bytes w w2 v2 ((Lib.uvarint f.length ++ encs (f.take i)) ++ [0]) := Bytes.snoc hown2 rfl
        repeat' ((fail_if_success at_builtin); (first | go_skip | go_guarded | go_step))
        refine (putInt_any x _ Hx'.out.1 Hx'.out.2).mono ?_
        rintro e w3 ⟨A3, c3, rfl, h3⟩
        dsimp only
        repeat' ((fail_if_success at_builtin); (first | go_skip | go_guarded | go_step))
        refine wp_appS (hown2.below h3.2) Try.underlying30 u8_info (h3.seq) (bv_one _) ?_ ?_
        · have h1 := Hul.out
          have h2 := Hel.out
          have h4 := encs_take_le f (i + 1)
          rw [Htake.out] at h4
          unfold enc1 at h4
          simp only [List.length_append, List.length_cons, List.length_nil, ↓reduceIte] at h1 h2 h4 ⊢
          omega
        intro v4 w4 hown4 _
        repeat' ((fail_if_success at_builtin); (first | go_skip | go_guarded | go_step))
        go_roundw
        case rel =>
          refine ⟨i + 1, by omega, by go_num, ?_⟩
          rw [Htake.out]
          have := Bytes.app hown4 rfl
          unfold enc1
          simpa only [↓reduceIte, Int.reduceEq, List.append_assoc, List.cons_append, List.nil_append] using this
        case measure => simp [intOf]; omega
      · repeat' ((fail_if_success at_builtin); (first | go_skip | go_guarded | go_step))
        refine wp_app1 (hown.alloc _) Try.underlying30 u8_info Hb.out ?_
        intro v2 w2 hown2 hg2
        obtain ⟨hc2, hf2⟩ := hown.far hg2 (b := wr.heap.size) (Nat.le_refl _) (by simp; omega)
        have hown2 : Bytes w w2 v2 ((Lib.uvarint f.length ++ encs (f.take i)) ++ [1]) := Bytes.snoc hown2 rfl
        repeat' ((fail_if_success at_builtin); (first | go_skip | go_guarded | go_step))
        refine (putStr_any s _ (by omega)).mono ?_
        rintro e w3 ⟨A3, c3, rfl, h3⟩
        dsimp only
        repeat' ((fail_if_success at_builtin); (first | go_skip | go_guarded | go_step))
        refine wp_appS (hown2.below h3.2) Try.underlying30 u8_info (h3.seq) (bv_one _) ?_ ?_
        · have h1 := Hul.out
          have h2 := Hel.out
          have h4 := encs_take_le f (i + 1)
          rw [Htake.out] at h4
          unfold enc1 at h4
          simp only [List.length_append, List.length_cons, List.length_nil, ↓reduceIte, Int.reduceEq] at h1 h2 h4 ⊢
          omega
        intro v4 w4 hown4 _
        repeat' ((fail_if_success at_builtin); (first | go_skip | go_guarded | go_step))
        go_roundw
        case rel =>
          refine ⟨i + 1, by omega, by go_num, ?_⟩
          rw [Htake.out]
          have := Bytes.app hown4 rfl
          unfold enc1
          simpa only [↓reduceIte, Int.reduceEq, List.append_assoc, List.cons_append, List.nil_append] using this
        case measure => simp [intOf]; omega
      · repeat' ((fail_if_success at_builtin); (first | go_skip | go_guarded | go_step))
        refine wp_app1 (hown.alloc _) Try.underlying30 u8_info Hb.out ?_
        intro v2 w2 hown2 hg2
        obtain ⟨hc2, hf2⟩ := hown.far hg2 (b := wr.heap.size) (Nat.le_refl _) (by simp; omega)
        have hown2 : Bytes w w2 v2 ((Lib.uvarint f.length ++ encs (f.take i)) ++ [2]) := Bytes.snoc hown2 rfl
        repeat' ((fail_if_success at_builtin); (first | go_skip | go_guarded | go_step))
        refine (Hsub.out A' c' csub' _ B (d + 1) ?_ ?_ ?_ (by omega) Hvf.out.2.2).mono ?_
        · exact Nat.le_trans hB hown2.2.size
        · exact hseq'.below (hown2.2.mono hB)
        · exact hrep'.below (hown2.2.mono hB)
        rintro e w3 ⟨A3, c3, rfl, h3⟩
        dsimp only
        repeat' ((fail_if_success at_builtin); (first | go_skip | go_guarded | go_step))
        refine wp_appS (hown2.below h3.2) Try.underlying30 u8_info (h3.seq) (bv_one _) ?_ ?_
        · have h1 := Hul.out
          have h2 := Hel.out
          have h4 := encs_take_le f (i + 1)
          rw [Htake.out] at h4
          unfold enc1 at h4
          simp only [List.length_append, List.length_cons, List.length_nil, ↓reduceIte, Int.reduceEq] at h1 h2 h4 ⊢
          omega
        intro v4 w4 hown4 _
        repeat' ((fail_if_success at_builtin); (first | go_skip | go_guarded | go_step))
        go_roundw
        case rel =>
          refine ⟨i + 1, by omega, by go_num, ?_⟩
          rw [Htake.out]
          have := Bytes.app hown4 rfl
          unfold enc1
          simpa only [↓reduceIte, Int.reduceEq, List.append_assoc, List.cons_append, List.nil_append] using this
        case measure => simp [intOf]; omega
    · repeat' ((fail_if_success at_builtin); (first | go_skip | go_guarded | go_step))
      go_ret
      rw [take_all f i (by omega)] at hown
      exact hown.ret
theorem write_sub : ∀ (f : Flds) (i : Nat) (k x : Int) (s : ByteArray) (sub : Flds), f.get? i = some (k, x, s, sub) → WriteOK sub
  | .nil, i, _, _, _, _, h => by simp [Flds.get?] at h
  | .cons k x s sub r, 0, _, _, _, _, h => by
    simp only [Flds.get?, Option.some.injEq, Prod.mk.injEq] at h
    obtain ⟨rfl, rfl, rfl, rfl⟩ := h
    exact write_body sub (write_sub sub)
  | .cons _ _ _ _ r, i + 1, k, x, s, sub, h => write_sub r i k x s sub h
theorem write_any (f : Flds) : WriteOK f := write_body f (write_sub f)
end Go.Proofs.Ytjipnomokggcfaa
