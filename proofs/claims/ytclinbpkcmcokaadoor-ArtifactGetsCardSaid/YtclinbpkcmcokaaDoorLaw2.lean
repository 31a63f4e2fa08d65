/- The law on Get, List, Expire: its walk. -/
import Derived.Test.YtclinbpkcmcokaaDoorArtList
import Derived.Test.YtclinbpkcmcokaaDoorLaw1
namespace Go.Proofs.YtclinbpkcmcokaaDoor
open Go.RowKit
set_option maxRecDepth 100000 in
set_option maxHeartbeats 2000000 in
theorem gets_law (l : List Art) (names : List ByteArray) (now : Int) (A An : Option Addr) (c cn : Nat) (w : World) (hR : Ready w) (hs : SeqA w w.heap.size A l) (hl : l.length ≤ 9223372036854775807) (ht : ∀ a ∈ l, Text a)
    (hsn : Seq w w.heap.size 1 An names.length (names.map Value.string)) (hnl : names.length ≤ 9223372036854775807) (htn : ∀ s ∈ names, s.size ≤ 9223372036854775807) :
    Calls Tryd.prog 6 #[.slice A l.length c, .slice An names.length cn, .int .i64 now] w (Holds w) := by
  have C1 := few_any l A c w w.heap.size (Nat.le_refl _) hs hl ht
  have CA := fun (w' : World) (hb : Below w.heap.size w w') => awake_any w' (hR.below hb)
  have CG := fun (hf : fewA l = true) (x : ByteArray) (w' : World) (hb : Below w.heap.size w w') => get_any ⟨#[114]⟩ x now l A c w' w.heap.size hb.size (hs.below hb) (by have := few_len hf; omega) (few_shrt hf)
  have CR := fun (hf : fewA l = true) (x : ByteArray) (w' : World) (hb : Below w.heap.size w w') => rget_any ⟨#[114]⟩ x now l A c w' w.heap.size hb.size (hs.below hb) (by have := few_len hf; omega) (few_shrt hf)
  have CL := fun (hf : fewA l = true) (hn : names.length ≤ 20) (w' : World) (hb : Below w.heap.size w w') => list_any ⟨#[114]⟩ now names l A An c cn w' w.heap.size hb.size (hs.below hb) (by have := few_len hf; omega) (few_shrt hf) (hsn.below hb) (by omega)
  have CM := fun (hf : fewA l = true) (hn : names.length ≤ 20) (w' : World) (hb : Below w.heap.size w w') => rlist_any ⟨#[114]⟩ now names l A An c cn w' w.heap.size hb.size (hs.below hb) (by have := few_len hf; omega) (few_shrt hf) (hsn.below hb) (by omega)
  have CE := fun (hf : fewA l = true) (w' : World) (hb : Below w.heap.size w w') => expire_any now l A c w' w.heap.size hb.size (hs.below hb) (by have := few_len hf; omega)
  have CF := fun (hf : fewA l = true) (w' : World) (hb : Below w.heap.size w w') => rexpire_any now l A c w' w.heap.size hb.size (hs.below hb) (by have := few_len hf; omega)
  have hfl := @few_len l
  replace C1 := Lib.hid C1
  replace CA := Lib.hid CA
  replace CG := Lib.hid CG
  replace CR := Lib.hid CR
  replace CL := Lib.hid CL
  replace CM := Lib.hid CM
  replace CE := Lib.hid CE
  replace CF := Lib.hid CF
  clear hs hR ht
  go_enter Tryd.func6, Tryd.ntmps6
  repeat' ((fail_if_success at_builtin); (first | go_skip | go_guarded | go_step))
  refine C1.out.mono ?_
  rintro e w1 ⟨rfl, hb⟩
  dsimp only
  cases hf : fewA l with
  | false =>
    repeat' ((fail_if_success at_builtin); (first | go_skip | go_guarded | go_step))
    refine (CA.out _ hb).mono ?_
    rintro e wz ⟨rfl, hbz⟩
    dsimp only
    repeat' ((fail_if_success at_builtin); (first | go_skip | go_guarded | go_step))
    go_ret
    exact ⟨rfl, hb.trans (hbz.mono hb.size)⟩
  | true =>
    by_cases hn : 20 < names.length
    · repeat' ((fail_if_success at_builtin); (first | go_skip | go_guarded | go_step))
      refine (CA.out _ hb).mono ?_
      rintro e wz ⟨rfl, hbz⟩
      dsimp only
      repeat' ((fail_if_success at_builtin); (first | go_skip | go_guarded | go_step))
      go_ret
      exact ⟨rfl, hb.trans (hbz.mono hb.size)⟩
    · replace CG := Lib.hid (CG.out hf)
      replace CR := Lib.hid (CR.out hf)
      replace CL := Lib.hid (CL.out hf (by omega))
      replace CM := Lib.hid (CM.out hf (by omega))
      replace CE := Lib.hid (CE.out hf)
      replace CF := Lib.hid (CF.out hf)
      have hfl := hfl hf
      repeat' ((fail_if_success at_builtin); (first | go_skip | go_guarded | go_step))
      go_loopw [8] (fun u8 wr => ∃ i : Nat, i ≤ names.length ∧ u8 = .int .i64 (i : Int) ∧ Below w.heap.size w wr) (fun u8 _ => names.length - (intOf u8).toNat)
      case atStart => exact ⟨0, by omega, rfl, hb⟩
      case round =>
        clear hb
        obtain ⟨i, hi, rfl, hbr⟩ := hrel
        by_cases hlt : i < names.length
        · obtain ⟨b, o, rfl, hbB, hcell⟩ := hsn.2 (by omega)
          have hci : names[i]? = some names[i] := List.getElem?_eq_getElem hlt
          have e1 := (hbr.cell (p := ⟨b, o + i, none⟩) (by dsimp only; omega)).trans (hcell i (.string names[i]) (by rw [List.getElem?_map, hci]; rfl))
          have hxs := htn names[i] (List.getElem_mem hlt)
          have hbw : b < wr.heap.size := by have := hbr.size; omega
          clear hcell
          generalize names[i] = x at *
          clear hci
          have i0 : (0 : Int) ≤ (i : Int) := by omega
          have i1 : (i : Int) < (names.length : Int) := by omega
          by_cases hx : 1300 < x.size
          · repeat' ((fail_if_success at_builtin); (first | go_skip | go_guarded | go_step))
            refine (CA.out _ hbr).mono ?_
            rintro e wz ⟨rfl, hbz⟩
            dsimp only
            repeat' ((fail_if_success at_builtin); (first | go_skip | go_guarded | go_step))
            go_ret
            exact ⟨rfl, hbr.trans (hbz.mono hbr.size)⟩
          · repeat' ((fail_if_success at_builtin); (first | go_skip | go_guarded | go_step))
            refine (CG.out x wr hbr).mono ?_
            rintro e w2 ⟨rfl, hb2⟩
            have hb2' := hbr.trans (hb2.mono hbr.size)
            have e2 := (hb2.cell (p := ⟨b, o + i, none⟩) hbw).trans e1
            have hbw2 : b < w2.heap.size := Nat.lt_of_lt_of_le hbw hb2.size
            clear hb2 e1
            have CR1 := Lib.hid (CR.out x)
            generalize getA l ⟨#[114]⟩ x now = y at *
            dsimp only
            repeat' ((fail_if_success at_builtin); (first | go_skip | go_guarded | go_step))
            generalize hw3 : World.alloc w2 _ = w3
            have c0 : w3.cell? ⟨w2.heap.size, 0, none⟩ = some (.string y.1.run) := by rw [← hw3]; simp [go_sem]
            have c1 : w3.cell? ⟨w2.heap.size, 1, none⟩ = some (.string y.1.job) := by rw [← hw3]; simp [go_sem]
            have c2 : w3.cell? ⟨w2.heap.size, 2, none⟩ = some (.int .i64 y.1.att) := by rw [← hw3]; simp [go_sem]
            have c3 : w3.cell? ⟨w2.heap.size, 3, none⟩ = some (.string y.1.nm) := by rw [← hw3]; simp [go_sem]
            have c4 : w3.cell? ⟨w2.heap.size, 4, none⟩ = some (.int .u64 y.1.dig) := by rw [← hw3]; simp [go_sem]
            have c5 : w3.cell? ⟨w2.heap.size, 5, none⟩ = some (.int .i64 y.1.size) := by rw [← hw3]; simp [go_sem]
            have c6 : w3.cell? ⟨w2.heap.size, 6, none⟩ = some (.int .i64 y.1.created) := by rw [← hw3]; simp [go_sem]
            have c7 : w3.cell? ⟨w2.heap.size, 7, none⟩ = some (.int .i64 y.1.expires) := by rw [← hw3]; simp [go_sem]
            have hb3 : Below w2.heap.size w2 w3 := by rw [← hw3]; exact (Below.refl _ _).alloc (Nat.le_refl _) _
            have k3 : w2.heap.size < w3.heap.size := by rw [← hw3]; simp
            clear hw3
            have e3 := (hb3.cell (p := ⟨b, o + i, none⟩) hbw2).trans e2
            have hb3' := hb2'.trans (hb3.mono hb2'.size)
            clear hb3 e2
            refine (CR1.out w3 hb3').mono ?_
            rintro e w4 ⟨rfl, hb4⟩
            have d0 := (hb4.cell (p := ⟨w2.heap.size, 0, none⟩) k3).trans c0
            have d1 := (hb4.cell (p := ⟨w2.heap.size, 1, none⟩) k3).trans c1
            have d2 := (hb4.cell (p := ⟨w2.heap.size, 2, none⟩) k3).trans c2
            have d3 := (hb4.cell (p := ⟨w2.heap.size, 3, none⟩) k3).trans c3
            have d4 := (hb4.cell (p := ⟨w2.heap.size, 4, none⟩) k3).trans c4
            have d5 := (hb4.cell (p := ⟨w2.heap.size, 5, none⟩) k3).trans c5
            have d6 := (hb4.cell (p := ⟨w2.heap.size, 6, none⟩) k3).trans c6
            have d7 := (hb4.cell (p := ⟨w2.heap.size, 7, none⟩) k3).trans c7
            clear c0 c1 c2 c3 c4 c5 c6 c7
            have hb4' := hb3'.trans (hb4.mono hb3'.size)
            have k4 : w2.heap.size < w4.heap.size := Nat.lt_of_lt_of_le k3 hb4.size
            have f0 := fun ob => (((Below.refl w4.heap.size w4).alloc (Nat.le_refl _) ob).cell (p := ⟨w2.heap.size, 0, none⟩) k4).trans d0
            have f1 := fun ob => (((Below.refl w4.heap.size w4).alloc (Nat.le_refl _) ob).cell (p := ⟨w2.heap.size, 1, none⟩) k4).trans d1
            have f2 := fun ob => (((Below.refl w4.heap.size w4).alloc (Nat.le_refl _) ob).cell (p := ⟨w2.heap.size, 2, none⟩) k4).trans d2
            have f3 := fun ob => (((Below.refl w4.heap.size w4).alloc (Nat.le_refl _) ob).cell (p := ⟨w2.heap.size, 3, none⟩) k4).trans d3
            have f4 := fun ob => (((Below.refl w4.heap.size w4).alloc (Nat.le_refl _) ob).cell (p := ⟨w2.heap.size, 4, none⟩) k4).trans d4
            have f5 := fun ob => (((Below.refl w4.heap.size w4).alloc (Nat.le_refl _) ob).cell (p := ⟨w2.heap.size, 5, none⟩) k4).trans d5
            have f6 := fun ob => (((Below.refl w4.heap.size w4).alloc (Nat.le_refl _) ob).cell (p := ⟨w2.heap.size, 6, none⟩) k4).trans d6
            have f7 := fun ob => (((Below.refl w4.heap.size w4).alloc (Nat.le_refl _) ob).cell (p := ⟨w2.heap.size, 7, none⟩) k4).trans d7
            clear hb4 k3 CR1 e3 d0 d1 d2 d3 d4 d5 d6 d7
            dsimp only
            repeat' ((fail_if_success at_builtin); (first | go_skip | go_guarded | go_step))
            go_roundw
            case rel => exact ⟨i + 1, by omega, by go_num, hb4'.alloc hb4'.size _⟩
            case measure => simp [intOf]; omega
        · repeat' ((fail_if_success at_builtin); (first | go_skip | go_guarded | go_step))
          refine (CL.out wr hbr).mono ?_
          rintro e w2 ⟨A2, c2, rfl, hs2, hb2⟩
          have hb2' := hbr.trans (hb2.mono hbr.size)
          dsimp only
          repeat' ((fail_if_success at_builtin); (first | go_skip | go_guarded | go_step))
          refine (CM.out w2 hb2').mono ?_
          rintro e w3 ⟨A3, c3, rfl, hs3, hb3⟩
          have hb3' := hb2'.trans (hb3.mono hb2'.size)
          have hs2 := hs2.below hb3
          have hlo : (if listE l ⟨#[114]⟩ now names = 0 then listO l ⟨#[114]⟩ now names else []).length ≤ 1000000 := by
            split
            · unfold listO; rw [List.length_map]; omega
            · simp
          generalize (if listE l ⟨#[114]⟩ now names = 0 then listO l ⟨#[114]⟩ now names else []) = LO at *
          generalize listE l ⟨#[114]⟩ now names = LE at *
          have C6 := sameO_any LO A2 A3 c2 c3 w3 w2.heap.size w3.heap.size hb3.size (Nat.le_refl _) hs2 hs3 hlo
          clear hb2 hb3 hs2 hs3
          replace C6 := Lib.hid C6
          dsimp only
          repeat' ((fail_if_success at_builtin); (first | go_skip | go_guarded | go_step))
          refine C6.out.mono ?_
          rintro e w4 ⟨rfl, hb4⟩
          have hb4' := hb3'.trans (hb4.mono hb3'.size)
          clear hb4 C6
          dsimp only
          repeat' ((fail_if_success at_builtin); (first | go_skip | go_guarded | go_step))
          refine (CE.out w4 hb4').mono ?_
          rintro e w5 ⟨A5, c5, rfl, h5⟩
          have hb5' := hb4'.trans (h5.2.mono hb4'.size)
          dsimp only
          repeat' ((fail_if_success at_builtin); (first | go_skip | go_guarded | go_step))
          refine (CF.out w5 hb5').mono ?_
          rintro e w6 ⟨A6, c6, rfl, h6⟩
          have hb6' := hb5'.trans (h6.2.mono hb5'.size)
          have hfil : (l.filter (alive now)).length ≤ 1000000 := by have := List.length_filter_le (alive now) l; omega
          have C7 := same_any (l.filter (alive now)) A5 A6 c5 c6 w6 w5.heap.size w6.heap.size h6.2.size (Nat.le_refl _) (h5.seq.below h6.2) h6.seq hfil
          replace C7 := Lib.hid C7
          clear h5 h6
          dsimp only
          repeat' ((fail_if_success at_builtin); (first | go_skip | go_guarded | go_step))
          refine C7.out.mono ?_
          rintro e w7 ⟨rfl, hb7⟩
          have hb7' := hb6'.trans (hb7.mono hb6'.size)
          dsimp only
          repeat' ((fail_if_success at_builtin); (first | go_skip | go_guarded | go_step))
          refine (CA.out _ hb7').mono ?_
          rintro e wz ⟨rfl, hbz⟩
          dsimp only
          repeat' ((fail_if_success at_builtin); (first | go_skip | go_guarded | go_step))
          go_ret
          exact ⟨rfl, hb7'.trans (hbz.mono hb7'.size)⟩
end Go.Proofs.YtclinbpkcmcokaaDoor
