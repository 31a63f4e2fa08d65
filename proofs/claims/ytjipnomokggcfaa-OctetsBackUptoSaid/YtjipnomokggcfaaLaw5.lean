/- The law on one form: its walk. -/
import Derived.Test.YtjipnomokggcfaaLaw4
import Derived.Test.YtjipnomokggcfaaBackP
namespace Go.Proofs.Ytjipnomokggcfaa
open Go.RowKit
theorem Own.nilcap {W0 w : World} {e : TypeId} {size n c : Nat} {A : Option Addr} {xs : List Value} (H : Own W0 w e size (.slice A n c) n xs) (h : A = none) : c = 0 := by
  rcases H.1.2 with ⟨hv, h0⟩ | ⟨g, cap, cur, hv, _⟩
  · injection hv
  · injection hv with h1; rw [h] at h1; cases h1
theorem Seq.upto {w : World} {B n : Nat} {A : Option Addr} {l : List UInt8} (h : Seq w B 1 A n (l.map bv)) {j : Nat} (hj : j ≤ n) : Seq w B 1 A j ((l.take j).map bv) := by
  have hn : l.length = n := by have := h.1; rw [List.length_map] at this; omega
  refine ⟨by rw [List.length_map, List.length_take]; omega, fun h0 => ?_⟩
  obtain ⟨b, o, e, hb, hc⟩ := h.2 (by omega)
  refine ⟨b, o, e, hb, fun i u hu => hc i u ?_⟩
  rw [List.map_take, List.getElem?_take] at hu
  split at hu
  · exact hu
  · cases hu
theorem fieldsS_ne {l : List UInt8} {e : Nat} (h : fieldsS l = .inl e) : e ≠ 0 := by
  unfold fieldsS at h
  have hg := rd_good (l.length + 1) 1 l (by omega)
  split at h
  · rename_i e' he
    rw [he] at hg
    simp only [Sum.inl.injEq] at h
    subst h
    exact hg.1
  · split at h
    · simp only [Sum.inl.injEq] at h; omega
    · cases h
/-- the loop's verdict: no field so far has an error -/
def AllV (f : Flds) (i : Nat) : Prop := ∀ j k x s sub, j < i → f.get? j = some (k, x, s, sub) → vone 1 k x s sub = 0
theorem fine_allv : ∀ {f : Flds}, AllV f f.length → Fine 1 f
  | .nil, _ => rfl
  | .cons k x s sub r, h => by
    have h0 := h 0 k x s sub (by simp [Flds.length]) rfl
    unfold Fine
    rw [vld_cons, if_pos h0]
    exact fine_allv fun j k' x' s' sub' hj hg => h (j + 1) k' x' s' sub' (by simp only [Flds.length]; omega) hg
theorem AllV.next {f : Flds} {i : Nat} {k x : Int} {s : ByteArray} {sub : Flds} (h : AllV f i) (hg : f.get? i = some (k, x, s, sub)) (hv : vone 1 k x s sub = 0) : AllV f (i + 1) := by
  intro j k' x' s' sub' hj hg'
  by_cases h1 : j < i
  · exact h j k' x' s' sub' h1 hg'
  · obtain rfl : j = i := by omega
    rw [hg] at hg'
    simp only [Option.some.injEq, Prod.mk.injEq] at hg'
    obtain ⟨rfl, rfl, rfl, rfl⟩ := hg'
    exact hv
set_option maxRecDepth 100000 in
set_option maxHeartbeats 2000000 in
theorem back_law (f : Flds) (A : Option Addr) (c : Nat) (cs : List Value) (Ab : Option Addr) (n cb : Nat) (l : List UInt8) (cut : Nat) (w : World) (hnil : A = none → c = 0) (hseq : Seq w w.heap.size 4 A f.length cs) (hrep : RepF w w.heap.size f cs) (hsz : f.size ≤ 10000000)
    (hl : l.length = n) (hcb : n ≤ cb) (hm : n ≤ 9223372036854775807) (hs : Seq w w.heap.size 1 Ab n (l.map bv)) (hcut : cut < 65536) :
    Calls Try.prog 8 #[.slice A f.length c, .slice Ab n cb, .int .u16 (cut : Int)] w (Holds w) := by
  subst hl
  have hlen := Flds.length_le_size f
  by_cases hn : 200 < f.length
  · go_enter Try.func8, Try.ntmps8
    repeat' ((fail_if_success at_builtin); (first | go_skip | go_guarded | go_step))
    refine (lives_any _).mono ?_
    rintro e w1 ⟨rfl, hb⟩
    dsimp only
    repeat' ((fail_if_success at_builtin); (first | go_skip | go_guarded | go_step))
    go_ret
    exact ⟨rfl, hb⟩
  by_cases hn2 : 2000 < l.length
  · go_enter Try.func8, Try.ntmps8
    repeat' ((fail_if_success at_builtin); (first | go_skip | go_guarded | go_step))
    refine (lives_any _).mono ?_
    rintro e w1 ⟨rfl, hb⟩
    dsimp only
    repeat' ((fail_if_success at_builtin); (first | go_skip | go_guarded | go_step))
    go_ret
    exact ⟨rfl, hb⟩
  have hso := sound_rep hrep (by omega)
  have hfl := encs_fix_le f.length hrep (by omega)
  have hu := Lib.uvarint_length64 (x := f.length) (by omega)
  have hup := uvarint_pos f.length
  have Hg := fix_fine f f.length (Nat.le_refl _)
  have Hgs := sound_fix f f.length hso
  have Hgl := fix_length f f.length
  have D1 := fields_enc Hg Hgs (by omega)
  have D2 := fun j => @fields_prefix _ j Hg Hgs (by omega)
  rw [Hgl] at D1 D2
  have D3 := fix_of_fine f f.length
  have hLl : (Lib.uvarint f.length ++ encs (f.fix f.length)).length ≤ 200000000 := by rw [List.length_append]; omega
  have hLp : 1 ≤ (Lib.uvarint f.length ++ encs (f.fix f.length)).length := by rw [List.length_append]; omega
  have R1 := fun (w1 : World) (hb : Below w.heap.size w w1) => record_any f A c cs w1 w.heap.size hnil hb.size (hseq.below hb) (hrep.below hb) (by omega)
  generalize Lib.uvarint f.length ++ encs (f.fix f.length) = L at R1 D1 D2 hLl hLp
  generalize f.fix f.length = g at *
  replace D2 := Lib.hid D2
  replace D3 := Lib.hid D3
  replace R1 := Lib.hid R1
  clear hfl hu hup
  go_enter Try.func8, Try.ntmps8
  repeat' ((fail_if_success at_builtin); (first | go_skip | go_guarded | go_step))
  go_loopw [7, 8] (fun u7 u8 wr => ∃ (i : Nat) (bb : Bool), i ≤ f.length ∧ u8 = .int .i64 (i : Int) ∧ u7 = .bool bb ∧ (bb = true → AllV f i) ∧ Below w.heap.size w wr) (fun _ u8 _ => f.length - (intOf u8).toNat)
  case atStart => exact ⟨0, true, by omega, rfl, rfl, fun _ j _ _ _ _ hj => absurd hj (by omega), Below.refl _ _⟩
  case round =>
    obtain ⟨i, bb, hi, rfl, rfl, hbb, hbr⟩ := hrel
    by_cases hlt : i < f.length
    · have i0 : (0 : Int) ≤ (i : Int) := by omega
      have i1 : (i : Int) < (f.length : Int) := by omega
      cases bb with
      | false =>
        repeat' ((fail_if_success at_builtin); (first | go_skip | go_guarded | go_step))
        go_roundw
        case rel => exact ⟨i + 1, false, by omega, by go_num, rfl, fun h => (by cases h), hbr⟩
        case measure => simp [intOf]; omega
      | true =>
        have hbb := hbb rfl
        obtain ⟨⟨k, x, s, sub⟩, hg⟩ := Flds.get?_lt f i hlt
        obtain ⟨b, o, rfl, hbB, hcell⟩ := hseq.2 (by omega)
        obtain ⟨A', c', csub', g1, g2, g3, g4, hk', hx', hseq', hrep'⟩ := hrep.at_ hg
        have hcell' := fun j u hu => (hbr.cell (p := ⟨b, o + j, none⟩) hbB).trans (hcell j u hu)
        have e1 := hcell' _ _ g1
        have e2 := hcell' _ _ g2
        rw [← Nat.add_assoc] at e2
        have e3 := hcell' _ _ g3
        rw [← Nat.add_assoc] at e3
        have e4 := hcell' _ _ g4
        rw [← Nat.add_assoc] at e4
        clear hcell hcell' g1 g2 g3 g4
        have hsz' := Flds.get?_size f i hg
        have C1 := fun (w2 : World) (h : Below w.heap.size w w2) => Valid_any k x s sub A' c' csub' w2 w.heap.size h.size (hseq'.below h) (hrep'.below h) (by omega)
        replace C1 := Lib.hid C1
        replace hseq := Lib.hid hseq
        replace hrep := Lib.hid hrep
        replace hs := Lib.hid hs
        clear hseq' hrep' hk' hx'
        repeat' ((fail_if_success at_builtin); (first | go_skip | go_guarded | go_step))
        refine (C1.out _ hbr).mono ?_
        rintro e w1 ⟨rfl, hb1⟩
        dsimp only
        have hw : (((vone 1 k x s sub : Nat) : Int) == 0) = true → vone 1 k x s sub = 0 := fun h => by have := beq_iff_eq.1 h; omega
        repeat' ((fail_if_success at_builtin); (first | go_skip | go_guarded | go_step))
        go_roundw
        case rel => exact ⟨i + 1, _, by omega, by go_num, rfl, fun h => hbb.next hg (hw h), hbr.trans (hb1.mono hbr.size)⟩
        case measure => simp [intOf]; omega
    · obtain rfl : i = f.length := by omega
      replace hbb := fun h => D3.out (fine_allv (hbb h))
      replace hseq := Lib.hid hseq
      replace hrep := Lib.hid hrep
      replace hs := Lib.hid hs
      repeat' ((fail_if_success at_builtin); (first | go_skip | go_guarded | go_step))
      refine (R1.out wr hbr).mono ?_
      rintro e w1 ⟨A1, c1, rfl, h1⟩
      have b1 := hbr.trans (h1.2.mono hbr.size)
      dsimp only
      have F1 := fields_any L A1 _ c1 w1 w1.heap.size rfl (by omega) (Own.cap_le h1) (Nat.le_refl _) h1.seq
      rw [D1] at F1
      replace F1 := Lib.hid F1
      repeat' ((fail_if_success at_builtin); (first | go_skip | go_guarded | go_step))
      refine F1.out.mono ?_
      rintro e w2 ⟨A2, c2, cs2, rfl, h2, r2⟩
      have b2 := b1.trans (h2.2.mono b1.size)
      dsimp only
      have hc1 := Own.cap_le h1
      have m0 : (0 : Int) ≤ (cut : Int) % (L.length : Int) := by omega
      have m1 : (cut : Int) % (L.length : Int) ≤ (c1 : Int) := by
        have := Int.emod_lt_of_pos (cut : Int) (b := (L.length : Int)) (by omega)
        omega
      have mlt : cut % L.length < L.length := Nat.mod_lt _ (by omega)
      have F3 := fun (w' : World) (hb : Below w1.heap.size w1 w') => fields_any (L.take (cut % L.length)) A1 (cut % L.length) c1 w' w1.heap.size (by rw [List.length_take]; omega) (by omega) (by omega) hb.size (Seq.upto (h1.seq.below hb) (by omega))
      rw [D2.out _ mlt] at F3
      have hnl := D3
      have s2 := h2.seq
      have r2' : RepF w2 w2.heap.size g cs2 := r2.imp fun b hb => hb.2
      rw [Hgl] at s2
      have F4 := fun (w' : World) (hb : Below w.heap.size w w') => fields_any l Ab _ cb w' w.heap.size rfl (by omega) hcb hb.size (hs.out.below hb)
      have h12 := h2.2
      have SM := fun (hg : g = f) => same_any f A c cs A2 c2 cs2 w2 w2.heap.size (Nat.le_refl _) ((hseq.out.below b2).more b2.size) ((hrep.out.below b2).more b2.size) s2 (hg ▸ r2') (by omega)
      clear h1 h2 r2 r2' s2
      replace F3 := Lib.hid F3
      replace F4 := Lib.hid F4
      replace SM := Lib.hid SM
      cases bb with
      | true =>
        obtain rfl := hbb rfl
        repeat' ((fail_if_success at_builtin); (first | go_skip | go_guarded | go_step))
        refine (SM.out rfl).mono ?_
        rintro e w3 ⟨rfl, hb3⟩
        have h13 := h12.trans (hb3.mono h12.size)
        have b3 := b2.trans (hb3.mono b2.size)
        dsimp only
        repeat' ((fail_if_success at_builtin); (first | go_skip | go_guarded | go_step))
        refine (F3.out w3 h13).mono ?_
        rintro e w4 ⟨rfl, hb4⟩
        have b4 := b3.trans (hb4.mono b3.size)
        dsimp only
        repeat' ((fail_if_success at_builtin); (first | go_skip | go_guarded | go_step))
        have G4 := F4.out w4 b4
        cases hT : fieldsS l with
        | inl er =>
          rw [hT] at G4
          have her : ¬ ((er : Int) = 0) := by have := fieldsS_ne hT; omega
          replace G4 := Lib.hid G4
          refine G4.out.mono ?_
          rintro e w5 ⟨rfl, hb5⟩
          have b5 := b4.trans (hb5.mono b4.size)
          dsimp only
          repeat' ((fail_if_success at_builtin); (first | go_skip | go_guarded | go_step))
          refine (lives_any _).mono ?_
          rintro e w6 ⟨rfl, hb6⟩
          dsimp only
          repeat' ((fail_if_success at_builtin); (first | go_skip | go_guarded | go_step))
          go_ret
          exact ⟨rfl, b5.trans (hb6.mono b5.size)⟩
        | inr m =>
          rw [hT] at G4
          have hmb := fields_back hT
          have hms := fieldsS_small hT
          replace hmb := Lib.hid hmb
          replace G4 := Lib.hid G4
          refine G4.out.mono ?_
          rintro e w5 ⟨A5, c5, cs5, rfl, h5, r5⟩
          have b5 := b4.trans (h5.2.mono b4.size)
          have R2 := record_any m A5 c5 cs5 w5 w5.heap.size (fun h => Own.nilcap h5 h) (Nat.le_refl _) h5.seq (r5.imp fun b hb => hb.2) (by omega)
          rw [fix_of_fine m _ hmb.out.2, ← hmb.out.1] at R2
          replace R2 := Lib.hid R2
          clear h5 r5
          dsimp only
          repeat' ((fail_if_success at_builtin); (first | go_skip | go_guarded | go_step))
          refine R2.out.mono ?_
          rintro e w6 ⟨A6, c6, rfl, h6⟩
          have b6 := b5.trans (h6.2.mono b5.size)
          have E6 := bytesEq_any A6 Ab _ c6 _ cb l l w6 w6.heap.size h6.seq ((hs.out.below b6).more b6.size)
          rw [BEq.rfl] at E6
          replace E6 := Lib.hid E6
          clear h6
          dsimp only
          repeat' ((fail_if_success at_builtin); (first | go_skip | go_guarded | go_step))
          refine E6.out.mono ?_
          rintro e w7 ⟨rfl, rfl⟩
          dsimp only
          repeat' ((fail_if_success at_builtin); (first | go_skip | go_guarded | go_step))
          refine (lives_any _).mono ?_
          rintro e w8 ⟨rfl, hb8⟩
          dsimp only
          repeat' ((fail_if_success at_builtin); (first | go_skip | go_guarded | go_step))
          go_ret
          exact ⟨rfl, b6.trans (hb8.mono b6.size)⟩
      | false =>
        repeat' ((fail_if_success at_builtin); (first | go_skip | go_guarded | go_step))
        refine (F3.out w2 h12).mono ?_
        rintro e w4 ⟨rfl, hb4⟩
        have b4 := b2.trans (hb4.mono b2.size)
        dsimp only
        repeat' ((fail_if_success at_builtin); (first | go_skip | go_guarded | go_step))
        have G4 := F4.out w4 b4
        cases hT : fieldsS l with
        | inl er =>
          rw [hT] at G4
          have her : ¬ ((er : Int) = 0) := by have := fieldsS_ne hT; omega
          replace G4 := Lib.hid G4
          refine G4.out.mono ?_
          rintro e w5 ⟨rfl, hb5⟩
          have b5 := b4.trans (hb5.mono b4.size)
          dsimp only
          repeat' ((fail_if_success at_builtin); (first | go_skip | go_guarded | go_step))
          refine (lives_any _).mono ?_
          rintro e w6 ⟨rfl, hb6⟩
          dsimp only
          repeat' ((fail_if_success at_builtin); (first | go_skip | go_guarded | go_step))
          go_ret
          exact ⟨rfl, b5.trans (hb6.mono b5.size)⟩
        | inr m =>
          rw [hT] at G4
          have hmb := fields_back hT
          have hms := fieldsS_small hT
          replace hmb := Lib.hid hmb
          replace G4 := Lib.hid G4
          refine G4.out.mono ?_
          rintro e w5 ⟨A5, c5, cs5, rfl, h5, r5⟩
          have b5 := b4.trans (h5.2.mono b4.size)
          have R2 := record_any m A5 c5 cs5 w5 w5.heap.size (fun h => Own.nilcap h5 h) (Nat.le_refl _) h5.seq (r5.imp fun b hb => hb.2) (by omega)
          rw [fix_of_fine m _ hmb.out.2, ← hmb.out.1] at R2
          replace R2 := Lib.hid R2
          clear h5 r5
          dsimp only
          repeat' ((fail_if_success at_builtin); (first | go_skip | go_guarded | go_step))
          refine R2.out.mono ?_
          rintro e w6 ⟨A6, c6, rfl, h6⟩
          have b6 := b5.trans (h6.2.mono b5.size)
          have E6 := bytesEq_any A6 Ab _ c6 _ cb l l w6 w6.heap.size h6.seq ((hs.out.below b6).more b6.size)
          rw [BEq.rfl] at E6
          replace E6 := Lib.hid E6
          clear h6
          dsimp only
          repeat' ((fail_if_success at_builtin); (first | go_skip | go_guarded | go_step))
          refine E6.out.mono ?_
          rintro e w7 ⟨rfl, rfl⟩
          dsimp only
          repeat' ((fail_if_success at_builtin); (first | go_skip | go_guarded | go_step))
          refine (lives_any _).mono ?_
          rintro e w8 ⟨rfl, hb8⟩
          dsimp only
          repeat' ((fail_if_success at_builtin); (first | go_skip | go_guarded | go_step))
          go_ret
          exact ⟨rfl, b6.trans (hb8.mono b6.size)⟩
end Go.Proofs.Ytjipnomokggcfaa
