/- The law on keeping: its walk. -/
import Derived.Test.YtclinbpkcmcokaaDoorKeepP
namespace Go.Proofs.YtclinbpkcmcokaaDoor
open Go.RowKit
set_option maxRecDepth 100000 in
set_option maxHeartbeats 4000000 in
theorem keeps_law (l : List Art) (now : Int) (A : Option Addr) (c : Nat) (w : World) (hR : Ready w) (hs : SeqA w w.heap.size A l) (hl : l.length ≤ 9223372036854775807) (ht : ∀ a ∈ l, Text a) :
    Calls Tryd.prog 5 #[.slice A l.length c, .int .i64 now] w (Holds w) := by
  have C1 := few_any l A c w w.heap.size (Nat.le_refl _) hs hl ht
  have CA := fun (w' : World) (hb : Below w.heap.size w w') => awake_any w' (hR.below hb)
  have hfl := @few_len l
  have hfs := @few_shrt l
  replace C1 := Lib.hid C1
  replace CA := Lib.hid CA
  replace hR := Lib.hid hR
  clear ht
  go_enter Tryd.func5, Tryd.ntmps5
  repeat' ((fail_if_success at_builtin); (first | go_skip | go_guarded | go_step))
  refine C1.out.mono ?_
  rintro e w1 ⟨rfl, hb⟩
  dsimp only
  cases hf : fewA l with
  | false =>
    repeat' ((fail_if_success at_builtin); (first | go_skip | go_guarded | go_step))
    refine (CA.out _ hb).mono ?_
    rintro e wz ⟨rfl, hbz⟩
    dsimp only
    repeat' ((fail_if_success at_builtin); (first | go_skip | go_guarded | go_step))
    go_ret
    exact ⟨rfl, hb.trans (hbz.mono hb.size)⟩
  | true =>
    have hfl := hfl hf
    have hfs := Lib.hid (hfs hf)
    by_cases hn : 20 < l.length
    · repeat' ((fail_if_success at_builtin); (first | go_skip | go_guarded | go_step))
      refine (CA.out _ hb).mono ?_
      rintro e wz ⟨rfl, hbz⟩
      dsimp only
      repeat' ((fail_if_success at_builtin); (first | go_skip | go_guarded | go_step))
      go_ret
      exact ⟨rfl, hb.trans (hbz.mono hb.size)⟩
    · repeat' ((fail_if_success at_builtin); (first | go_skip | go_guarded | go_step))
      go_loopw [5, 6, 7] (fun u5 u6 u7 wr => ∃ (i : Nat) (ks : List Art), i ≤ l.length ∧ u7 = .int .i64 (i : Int) ∧ OwnA w wr u5 ks ∧ OwnA w wr u6 ks ∧ (u5.ownBlock = none ∨ u5.ownBlock ≠ u6.ownBlock) ∧ Uniq ks ∧ (∀ k ∈ ks, Shrt k) ∧ ks.length ≤ i) (fun _ _ u7 _ => l.length - (intOf u7).toNat)
      case atStart => exact ⟨0, [], by omega, rfl, (Own.nil_ _ _ _).below hb, (Own.nil_ _ _ _).below hb, .inl rfl, fun i j x y h => by simp at h, by simp, by simp⟩
      case round =>
        clear hb
        obtain ⟨i, ks, hi, rfl, h5, h6, hne, huq, hks, hkl⟩ := hrel
        have hbr := h5.2
        obtain ⟨A5, c5, rfl⟩ := h5.slice_form
        by_cases hlt : i < l.length
        · have hshx := hfs.out l[i] (List.getElem_mem hlt)
          obtain ⟨b, o, rfl, hbB, hcell⟩ := hs.2 (by omega)
          have hci : l[i]? = some l[i] := List.getElem?_eq_getElem hlt
          have hcell' := fun j u hu => (hbr.cell (p := ⟨b, o + (i * 8 + j), none⟩) (by dsimp only; omega)).trans (hcell (i * 8 + j) u (flat_at acl_len hci hu))
          clear hcell
          generalize l[i] = x at *
          have e0 := hcell' 0 _ rfl
          have e1 := hcell' 1 _ rfl
          have e2 := hcell' 2 _ rfl
          have e3 := hcell' 3 _ rfl
          have e4 := hcell' 4 _ rfl
          have e5 := hcell' 5 _ rfl
          have e6 := hcell' 6 _ rfl
          have e7 := hcell' 7 _ rfl
          simp only [← Nat.add_assoc, Nat.add_zero] at e0 e1 e2 e3 e4 e5 e6 e7
          clear hcell'
          have i0 : (0 : Int) ≤ (i : Int) := by omega
          have i1 : (i : Int) < (l.length : Int) := by omega
          clear hci
          have hbw : b < wr.heap.size := by have := hbr.size; omega
          have P := put_own ks x A5 c5 wr wr.heap.size (hR.out.below hbr) (Nat.le_refl _) h5.nilcap h5.seq (by omega) hks hshx
          replace P := Lib.hid P
          replace huq := Lib.hid huq
          replace hks := Lib.hid hks
          repeat' ((fail_if_success at_builtin); (first | go_skip | go_guarded | go_step))
          refine P.out.mono ?_
          rintro e w2 ⟨A2, c2, rfl, h2⟩
          have hb2 := h2.2
          have hbr2 := hbr.trans (hb2.mono hbr.size)
          have f0 := (hb2.cell (p := ⟨b, o + i * 8, none⟩) hbw).trans e0
          have f1 := (hb2.cell (p := ⟨b, o + i * 8 + 1, none⟩) hbw).trans e1
          have f2 := (hb2.cell (p := ⟨b, o + i * 8 + 2, none⟩) hbw).trans e2
          have f3 := (hb2.cell (p := ⟨b, o + i * 8 + 3, none⟩) hbw).trans e3
          have f4 := (hb2.cell (p := ⟨b, o + i * 8 + 4, none⟩) hbw).trans e4
          have f5 := (hb2.cell (p := ⟨b, o + i * 8 + 5, none⟩) hbw).trans e5
          have f6 := (hb2.cell (p := ⟨b, o + i * 8 + 6, none⟩) hbw).trans e6
          have f7 := (hb2.cell (p := ⟨b, o + i * 8 + 7, none⟩) hbw).trans e7
          have g6 := h6.below hb2
          clear e0 e1 e2 e3 e4 e5 e6 e7 P
          dsimp only
          by_cases he : errA ks x = 0
          · have hpk : putA ks x = ks ++ [stored x] := by unfold putA; rw [if_pos he]
            have hr := errA_range he
            simp only [badR, Bool.or_eq_false_iff, decide_eq_false_iff_not] at hr
            obtain ⟨⟨⟨⟨⟨r1, r2⟩, r3⟩, r4⟩, r5⟩, r6⟩ := hr
            have hw : IntKind.i64.wrap (x.created + 604800000) = x.created + 604800000 := IntWalk.i64_in _ (by omega)
            have huq2 := uniq_snoc (b := stored x) huq.out (err_no he) rfl rfl
            have hks2 : ∀ k ∈ ks ++ [stored x], Shrt k := by
              intro k hk
              rcases List.mem_append.1 hk with hk | hk
              · exact hks.out k hk
              · rw [List.mem_singleton.1 hk]; exact hshx
            replace huq2 := Lib.hid huq2
            replace hks2 := Lib.hid hks2
            rw [he]
            rw [hpk] at h2 ⊢
            have hll : (ks ++ [stored x]).length = ks.length + 1 := by rw [List.length_append]; rfl
            have hb88 : (ks.length + 1) * 88 ≤ 140737488355328 := by omega
            have hlt6 : ∀ bb, (u6.ownBlock = some bb) → bb < wr.heap.size := fun bb h => (h6.1.lt bb h).2
            have hge2 : ∀ bb, ((Value.slice A2 (ks ++ [stored x]).length c2).ownBlock = some bb) → wr.heap.size ≤ bb ∧ bb < w2.heap.size := fun bb h => h2.1.lt bb h
            have hne2 : (Value.slice A2 (ks ++ [stored x]).length c2).ownBlock = none ∨ (Value.slice A2 (ks ++ [stored x]).length c2).ownBlock ≠ u6.ownBlock := by
              cases hq : (Value.slice A2 (ks ++ [stored x]).length c2).ownBlock with
              | none => exact .inl rfl
              | some bb =>
                refine .inr fun h => ?_
                have h1 := hlt6 bb h.symm
                have h2 := hge2 bb hq
                omega
            have h2w := h2.up hbr
            have g6a := g6.alloc (.cells (acells (stored x)) 30)
            replace hlt6 := Lib.hid hlt6
            replace hge2 := Lib.hid hge2
            repeat' ((fail_if_success at_builtin); (first | go_skip | go_guarded | go_step))
            refine wp_app1 g6a Tryd.underlying22 art_info hb88 ?_
            intro v9 w9 h9 hg9
            have h10 := Own.beside ((h2w.alloc _).alloc _) hg9 hne2 h9.2
            have hd9 : (Value.slice A2 (ks ++ [stored x]).length c2).ownBlock = none ∨ (Value.slice A2 (ks ++ [stored x]).length c2).ownBlock ≠ v9.ownBlock := by
              cases hq : (Value.slice A2 (ks ++ [stored x]).length c2).ownBlock with
              | none => exact .inl rfl
              | some bb =>
                refine .inr fun h => ?_
                have h2 := hge2.out bb hq
                rcases hg9.at_ with ha | ha
                · rw [ha] at h
                  have h1 := hlt6.out bb h.symm
                  omega
                · rw [ha] at h
                  injection h with h
                  simp at h
                  omega
            have h11 : OwnA w w9 v9 (ks ++ [stored x]) := by
              unfold OwnA
              rw [List.length_append, List.flatMap_append, List.flatMap_cons, List.flatMap_nil, List.append_nil]
              exact h9
            clear h9 hg9 hlt6 hge2 h2 h2w g6 g6a
            have h12 : OwnA w w9 (.slice A2 (ks.length + 1) c2) (ks ++ [stored x]) := by rw [← hll]; exact h10
            rw [hll] at hd9
            clear h10
            repeat' ((fail_if_success at_builtin); (first | go_skip | go_guarded | go_step))
            go_roundw
            case rel => exact ⟨i + 1, ks ++ [stored x], by omega, by go_num, h12, h11, hd9, huq2.out, hks2.out, by rw [hll]; omega⟩
            case measure => simp [intOf]; omega
          · have hpk : putA ks x = ks := by unfold putA; rw [if_neg he]
            rw [hpk] at h2 ⊢
            have hq : ¬ (((errA ks x : Nat) : Int) = 0) := by omega
            have h5' := h5.below hb2
            have C6 := same_any ks A2 A5 c2 c5 w2 w2.heap.size w2.heap.size (Nat.le_refl _) (Nat.le_refl _) h2.seq h5'.seq (by omega)
            replace C6 := Lib.hid C6
            clear f0 f1 f2 f3 f4 f5 f6 f7 h2
            repeat' ((fail_if_success at_builtin); (first | go_skip | go_guarded | go_step))
            refine C6.out.mono ?_
            rintro e w3 ⟨rfl, hb3⟩
            have h53 := h5'.below hb3
            have h63 := g6.below hb3
            dsimp only
            repeat' ((fail_if_success at_builtin); (first | go_skip | go_guarded | go_step))
            go_roundw
            case rel => exact ⟨i + 1, ks, by omega, by go_num, h53, h63, hne, huq.out, hks.out, by omega⟩
            case measure => simp [intOf]; omega
        · obtain ⟨A6, c6, rfl⟩ := h6.slice_form
          have CE := expire_any now ks A5 c5 wr wr.heap.size (Nat.le_refl _) h5.seq (by omega)
          replace CE := Lib.hid CE
          replace hks := Lib.hid hks
          replace huq := Lib.hid huq
          clear hs
          repeat' ((fail_if_success at_builtin); (first | go_skip | go_guarded | go_step))
          refine CE.out.mono ?_
          rintro e w2 ⟨A2, c2, rfl, h2⟩
          have hb2 := h2.2
          have hs5 := (h5.seq.below hb2).more hb2.size
          have hs6 := (h6.seq.below hb2).more hb2.size
          have hsr := h2.seq
          have hbr2 := hbr.trans (hb2.mono hbr.size)
          have hfle : (ks.filter (alive now)).length ≤ 1000000 := by have := List.length_filter_le (alive now) ks; omega
          have hksf : ∀ k ∈ ks.filter (alive now), Shrt k := fun k hk => hks.out k (List.mem_filter.1 hk).1
          have CG := fun (s1 s2 : ByteArray) (w' : World) (hb : Below w2.heap.size w2 w') => get_any s1 s2 now ks A5 c5 w' w2.heap.size hb.size (hs5.below hb) (by omega) hks.out
          have CH := fun (s1 s2 : ByteArray) (w' : World) (hb : Below w2.heap.size w2 w') => get_any s1 s2 now (ks.filter (alive now)) A2 c2 w' w2.heap.size hb.size (hsr.below hb) hfle hksf
          replace CG := Lib.hid CG
          replace CH := Lib.hid CH
          clear CE h2 hsr hksf hb2 hs5 h5 h6
          dsimp only
          repeat' ((fail_if_success at_builtin); (first | go_skip | go_guarded | go_step))
          go_loopw [12] (fun u12 wx => ∃ i : Nat, i ≤ ks.length ∧ u12 = .int .i64 (i : Int) ∧ Below w2.heap.size w2 wx) (fun u12 _ => ks.length - (intOf u12).toNat)
          case atStart => exact ⟨0, by omega, rfl, Below.refl _ _⟩
          case round =>
            obtain ⟨i, hi, rfl, hbx⟩ := hrel
            by_cases hlt : i < ks.length
            · have hbx1 := hbr2.trans (hbx.mono hbr2.size)
              have hshx := hks.out ks[i] (List.getElem_mem hlt)
              obtain ⟨b, o, rfl, hbB, hcell⟩ := hs6.2 (by omega)
              have hci : ks[i]? = some ks[i] := List.getElem?_eq_getElem hlt
              have hcell' := fun j u hu => (hbx.cell (p := ⟨b, o + (i * 8 + j), none⟩) (by dsimp only; omega)).trans (hcell (i * 8 + j) u (flat_at acl_len hci hu))
              clear hcell
              generalize ks[i] = x at *
              have e0 := hcell' 0 _ rfl
              have e1 := hcell' 1 _ rfl
              have e2 := hcell' 2 _ rfl
              have e3 := hcell' 3 _ rfl
              have e4 := hcell' 4 _ rfl
              have e5 := hcell' 5 _ rfl
              have e6 := hcell' 6 _ rfl
              have e7 := hcell' 7 _ rfl
              simp only [← Nat.add_assoc, Nat.add_zero] at e0 e1 e2 e3 e4 e5 e6 e7
              clear hcell'
              have i0 : (0 : Int) ≤ (i : Int) := by omega
              have i1 : (i : Int) < (ks.length : Int) := by omega
              have hGA := get_all huq.out hci now
              have hGR := get_rest huq.out hci now
              have K1 := fun w' => rname_any x.run x.job x.nm w' hshx.2.1 hshx.2.2
              have hkk : x.job ++ slash ++ x.nm = key x := rfl
              rw [hkk] at K1
              have CGx := CG.out x.run (key x)
              have CHx := CH.out x.run (key x)
              by_cases hexp : x.expires ≤ now
              · skip
                rw [if_pos hexp] at hGA hGR
                rw [hGA] at CGx
                rw [hGR] at CHx
                replace CGx := Lib.hid CGx
                replace CHx := Lib.hid CHx
                replace K1 := Lib.hid K1
                clear hGA hGR hkk hci
                repeat' ((fail_if_success at_builtin); (first | go_skip | go_guarded | go_step))
                generalize hw3 : World.alloc wr _ = w3
                have c0 : w3.cell? ⟨wr.heap.size, 0, none⟩ = some (.string x.run) := by rw [← hw3]; simp [go_sem]
                have c1 : w3.cell? ⟨wr.heap.size, 1, none⟩ = some (.string x.job) := by rw [← hw3]; simp [go_sem]
                have c2 : w3.cell? ⟨wr.heap.size, 2, none⟩ = some (.int .i64 x.att) := by rw [← hw3]; simp [go_sem]
                have c3 : w3.cell? ⟨wr.heap.size, 3, none⟩ = some (.string x.nm) := by rw [← hw3]; simp [go_sem]
                have c4 : w3.cell? ⟨wr.heap.size, 4, none⟩ = some (.int .u64 x.dig) := by rw [← hw3]; simp [go_sem]
                have c5 : w3.cell? ⟨wr.heap.size, 5, none⟩ = some (.int .i64 x.size) := by rw [← hw3]; simp [go_sem]
                have c6 : w3.cell? ⟨wr.heap.size, 6, none⟩ = some (.int .i64 x.created) := by rw [← hw3]; simp [go_sem]
                have c7 : w3.cell? ⟨wr.heap.size, 7, none⟩ = some (.int .i64 x.expires) := by rw [← hw3]; simp [go_sem]
                have hb3 : Below wr.heap.size wr w3 := by rw [← hw3]; exact (Below.refl _ _).alloc (Nat.le_refl _) _
                have k3 : wr.heap.size < w3.heap.size := by rw [← hw3]; simp
                clear hw3 e0 e1 e2 e3 e4 e5 e6 e7
                have hbx3 := hbx.trans (hb3.mono hbx.size)
                clear hb3
                refine (K1.out w3).mono ?_
                rintro e w4 ⟨rfl, hb4⟩
                have d0 := (hb4.cell (p := ⟨wr.heap.size, 0, none⟩) k3).trans c0
                have d1 := (hb4.cell (p := ⟨wr.heap.size, 1, none⟩) k3).trans c1
                have d2 := (hb4.cell (p := ⟨wr.heap.size, 2, none⟩) k3).trans c2
                have d3 := (hb4.cell (p := ⟨wr.heap.size, 3, none⟩) k3).trans c3
                have d4 := (hb4.cell (p := ⟨wr.heap.size, 4, none⟩) k3).trans c4
                have d5 := (hb4.cell (p := ⟨wr.heap.size, 5, none⟩) k3).trans c5
                have d6 := (hb4.cell (p := ⟨wr.heap.size, 6, none⟩) k3).trans c6
                have d7 := (hb4.cell (p := ⟨wr.heap.size, 7, none⟩) k3).trans c7
                clear c0 c1 c2 c3 c4 c5 c6 c7
                have k4 : wr.heap.size < w4.heap.size := Nat.lt_of_lt_of_le k3 hb4.size
                have hbx4 := hbx3.trans (hb4.mono hbx3.size)
                clear hb4 k3 K1
                dsimp only
                repeat' ((fail_if_success at_builtin); (first | go_skip | go_guarded | go_step))
                refine (CGx.out w4 hbx4).mono ?_
                rintro e w5 ⟨rfl, hb5⟩
                have c0 := (hb5.cell (p := ⟨wr.heap.size, 0, none⟩) k4).trans d0
                have c1 := (hb5.cell (p := ⟨wr.heap.size, 1, none⟩) k4).trans d1
                have c2 := (hb5.cell (p := ⟨wr.heap.size, 2, none⟩) k4).trans d2
                have c3 := (hb5.cell (p := ⟨wr.heap.size, 3, none⟩) k4).trans d3
                have c4 := (hb5.cell (p := ⟨wr.heap.size, 4, none⟩) k4).trans d4
                have c5 := (hb5.cell (p := ⟨wr.heap.size, 5, none⟩) k4).trans d5
                have c6 := (hb5.cell (p := ⟨wr.heap.size, 6, none⟩) k4).trans d6
                have c7 := (hb5.cell (p := ⟨wr.heap.size, 7, none⟩) k4).trans d7
                clear d0 d1 d2 d3 d4 d5 d6 d7
                have k5 : wr.heap.size < w5.heap.size := Nat.lt_of_lt_of_le k4 hb5.size
                have hbx5 := hbx4.trans (hb5.mono hbx4.size)
                clear hb5 k4 CGx
                have f0 := fun ob => (((Below.refl w5.heap.size w5).alloc (Nat.le_refl _) ob).cell (p := ⟨wr.heap.size, 0, none⟩) k5).trans c0
                have f1 := fun ob => (((Below.refl w5.heap.size w5).alloc (Nat.le_refl _) ob).cell (p := ⟨wr.heap.size, 1, none⟩) k5).trans c1
                have f2 := fun ob => (((Below.refl w5.heap.size w5).alloc (Nat.le_refl _) ob).cell (p := ⟨wr.heap.size, 2, none⟩) k5).trans c2
                have f3 := fun ob => (((Below.refl w5.heap.size w5).alloc (Nat.le_refl _) ob).cell (p := ⟨wr.heap.size, 3, none⟩) k5).trans c3
                have f4 := fun ob => (((Below.refl w5.heap.size w5).alloc (Nat.le_refl _) ob).cell (p := ⟨wr.heap.size, 4, none⟩) k5).trans c4
                have f5 := fun ob => (((Below.refl w5.heap.size w5).alloc (Nat.le_refl _) ob).cell (p := ⟨wr.heap.size, 5, none⟩) k5).trans c5
                have f6 := fun ob => (((Below.refl w5.heap.size w5).alloc (Nat.le_refl _) ob).cell (p := ⟨wr.heap.size, 6, none⟩) k5).trans c6
                have f7 := fun ob => (((Below.refl w5.heap.size w5).alloc (Nat.le_refl _) ob).cell (p := ⟨wr.heap.size, 7, none⟩) k5).trans c7
                clear c0 c1 c2 c3 c4 c5 c6 c7
                dsimp only
                repeat' ((fail_if_success at_builtin); (first | go_skip | go_guarded | go_step))
                generalize hw6 : World.alloc w5 _ = w6
                have g0 : w6.cell? ⟨wr.heap.size, 0, none⟩ = some (.string x.run) := by rw [← hw6]; exact f0 _
                have g1 : w6.cell? ⟨wr.heap.size, 1, none⟩ = some (.string x.job) := by rw [← hw6]; exact f1 _
                have g2 : w6.cell? ⟨wr.heap.size, 2, none⟩ = some (.int .i64 x.att) := by rw [← hw6]; exact f2 _
                have g3 : w6.cell? ⟨wr.heap.size, 3, none⟩ = some (.string x.nm) := by rw [← hw6]; exact f3 _
                have g4 : w6.cell? ⟨wr.heap.size, 4, none⟩ = some (.int .u64 x.dig) := by rw [← hw6]; exact f4 _
                have g5 : w6.cell? ⟨wr.heap.size, 5, none⟩ = some (.int .i64 x.size) := by rw [← hw6]; exact f5 _
                have g6 : w6.cell? ⟨wr.heap.size, 6, none⟩ = some (.int .i64 x.created) := by rw [← hw6]; exact f6 _
                have g7 : w6.cell? ⟨wr.heap.size, 7, none⟩ = some (.int .i64 x.expires) := by rw [← hw6]; exact f7 _
                have y0 : w6.cell? ⟨w5.heap.size, 0, none⟩ = some (.string zeroA.run) := by rw [← hw6]; simp [go_sem]
                have y1 : w6.cell? ⟨w5.heap.size, 1, none⟩ = some (.string zeroA.job) := by rw [← hw6]; simp [go_sem]
                have y2 : w6.cell? ⟨w5.heap.size, 2, none⟩ = some (.int .i64 zeroA.att) := by rw [← hw6]; simp [go_sem]
                have y3 : w6.cell? ⟨w5.heap.size, 3, none⟩ = some (.string zeroA.nm) := by rw [← hw6]; simp [go_sem]
                have y4 : w6.cell? ⟨w5.heap.size, 4, none⟩ = some (.int .u64 zeroA.dig) := by rw [← hw6]; simp [go_sem]
                have y5 : w6.cell? ⟨w5.heap.size, 5, none⟩ = some (.int .i64 zeroA.size) := by rw [← hw6]; simp [go_sem]
                have y6 : w6.cell? ⟨w5.heap.size, 6, none⟩ = some (.int .i64 zeroA.created) := by rw [← hw6]; simp [go_sem]
                have y7 : w6.cell? ⟨w5.heap.size, 7, none⟩ = some (.int .i64 zeroA.expires) := by rw [← hw6]; simp [go_sem]
                have hb56 : Below w5.heap.size w5 w6 := by rw [← hw6]; exact (Below.refl _ _).alloc (Nat.le_refl _) _
                have k6 : wr.heap.size < w6.heap.size := Nat.lt_of_lt_of_le k5 hb56.size
                have k56 : w5.heap.size < w6.heap.size := by rw [← hw6]; simp
                have hbx6 := hbx5.trans (hb56.mono hbx5.size)
                clear hw6 hb56 f0 f1 f2 f3 f4 f5 f6 f7
                refine (CHx.out w6 hbx6).mono ?_
                rintro e w7 ⟨rfl, hb7⟩
                have k7 : wr.heap.size < w7.heap.size := Nat.lt_of_lt_of_le k6 hb7.size
                have k57 : w5.heap.size < w7.heap.size := Nat.lt_of_lt_of_le k56 hb7.size
                have h0 := fun ob => (((Below.refl w7.heap.size w7).alloc (Nat.le_refl _) ob).cell (p := ⟨wr.heap.size, 0, none⟩) k7).trans ((hb7.cell (p := ⟨wr.heap.size, 0, none⟩) k6).trans g0)
                have h1 := fun ob => (((Below.refl w7.heap.size w7).alloc (Nat.le_refl _) ob).cell (p := ⟨wr.heap.size, 1, none⟩) k7).trans ((hb7.cell (p := ⟨wr.heap.size, 1, none⟩) k6).trans g1)
                have h2 := fun ob => (((Below.refl w7.heap.size w7).alloc (Nat.le_refl _) ob).cell (p := ⟨wr.heap.size, 2, none⟩) k7).trans ((hb7.cell (p := ⟨wr.heap.size, 2, none⟩) k6).trans g2)
                have h3 := fun ob => (((Below.refl w7.heap.size w7).alloc (Nat.le_refl _) ob).cell (p := ⟨wr.heap.size, 3, none⟩) k7).trans ((hb7.cell (p := ⟨wr.heap.size, 3, none⟩) k6).trans g3)
                have h4 := fun ob => (((Below.refl w7.heap.size w7).alloc (Nat.le_refl _) ob).cell (p := ⟨wr.heap.size, 4, none⟩) k7).trans ((hb7.cell (p := ⟨wr.heap.size, 4, none⟩) k6).trans g4)
                have h5 := fun ob => (((Below.refl w7.heap.size w7).alloc (Nat.le_refl _) ob).cell (p := ⟨wr.heap.size, 5, none⟩) k7).trans ((hb7.cell (p := ⟨wr.heap.size, 5, none⟩) k6).trans g5)
                have h6 := fun ob => (((Below.refl w7.heap.size w7).alloc (Nat.le_refl _) ob).cell (p := ⟨wr.heap.size, 6, none⟩) k7).trans ((hb7.cell (p := ⟨wr.heap.size, 6, none⟩) k6).trans g6)
                have h7 := fun ob => (((Below.refl w7.heap.size w7).alloc (Nat.le_refl _) ob).cell (p := ⟨wr.heap.size, 7, none⟩) k7).trans ((hb7.cell (p := ⟨wr.heap.size, 7, none⟩) k6).trans g7)
                have z0 := fun ob => (((Below.refl w7.heap.size w7).alloc (Nat.le_refl _) ob).cell (p := ⟨w5.heap.size, 0, none⟩) k57).trans ((hb7.cell (p := ⟨w5.heap.size, 0, none⟩) k56).trans y0)
                have z1 := fun ob => (((Below.refl w7.heap.size w7).alloc (Nat.le_refl _) ob).cell (p := ⟨w5.heap.size, 1, none⟩) k57).trans ((hb7.cell (p := ⟨w5.heap.size, 1, none⟩) k56).trans y1)
                have z2 := fun ob => (((Below.refl w7.heap.size w7).alloc (Nat.le_refl _) ob).cell (p := ⟨w5.heap.size, 2, none⟩) k57).trans ((hb7.cell (p := ⟨w5.heap.size, 2, none⟩) k56).trans y2)
                have z3 := fun ob => (((Below.refl w7.heap.size w7).alloc (Nat.le_refl _) ob).cell (p := ⟨w5.heap.size, 3, none⟩) k57).trans ((hb7.cell (p := ⟨w5.heap.size, 3, none⟩) k56).trans y3)
                have z4 := fun ob => (((Below.refl w7.heap.size w7).alloc (Nat.le_refl _) ob).cell (p := ⟨w5.heap.size, 4, none⟩) k57).trans ((hb7.cell (p := ⟨w5.heap.size, 4, none⟩) k56).trans y4)
                have z5 := fun ob => (((Below.refl w7.heap.size w7).alloc (Nat.le_refl _) ob).cell (p := ⟨w5.heap.size, 5, none⟩) k57).trans ((hb7.cell (p := ⟨w5.heap.size, 5, none⟩) k56).trans y5)
                have z6 := fun ob => (((Below.refl w7.heap.size w7).alloc (Nat.le_refl _) ob).cell (p := ⟨w5.heap.size, 6, none⟩) k57).trans ((hb7.cell (p := ⟨w5.heap.size, 6, none⟩) k56).trans y6)
                have z7 := fun ob => (((Below.refl w7.heap.size w7).alloc (Nat.le_refl _) ob).cell (p := ⟨w5.heap.size, 7, none⟩) k57).trans ((hb7.cell (p := ⟨w5.heap.size, 7, none⟩) k56).trans y7)
                have hbx7 := hbx6.trans (hb7.mono hbx6.size)
                clear hb7 k6 k56 CHx g0 g1 g2 g3 g4 g5 g6 g7 y0 y1 y2 y3 y4 y5 y6 y7
                dsimp only
                repeat' ((fail_if_success at_builtin); (first | go_skip | go_guarded | go_step))
                go_roundw
                case rel => exact ⟨i + 1, by omega, by go_num, hbx7.alloc hbx7.size _⟩
                case measure => simp [intOf]; omega
              · skip
                rw [if_neg hexp] at hGA hGR
                rw [hGA] at CGx
                rw [hGR] at CHx
                replace CGx := Lib.hid CGx
                replace CHx := Lib.hid CHx
                replace K1 := Lib.hid K1
                clear hGA hGR hkk hci
                repeat' ((fail_if_success at_builtin); (first | go_skip | go_guarded | go_step))
                generalize hw3 : World.alloc wr _ = w3
                have c0 : w3.cell? ⟨wr.heap.size, 0, none⟩ = some (.string x.run) := by rw [← hw3]; simp [go_sem]
                have c1 : w3.cell? ⟨wr.heap.size, 1, none⟩ = some (.string x.job) := by rw [← hw3]; simp [go_sem]
                have c2 : w3.cell? ⟨wr.heap.size, 2, none⟩ = some (.int .i64 x.att) := by rw [← hw3]; simp [go_sem]
                have c3 : w3.cell? ⟨wr.heap.size, 3, none⟩ = some (.string x.nm) := by rw [← hw3]; simp [go_sem]
                have c4 : w3.cell? ⟨wr.heap.size, 4, none⟩ = some (.int .u64 x.dig) := by rw [← hw3]; simp [go_sem]
                have c5 : w3.cell? ⟨wr.heap.size, 5, none⟩ = some (.int .i64 x.size) := by rw [← hw3]; simp [go_sem]
                have c6 : w3.cell? ⟨wr.heap.size, 6, none⟩ = some (.int .i64 x.created) := by rw [← hw3]; simp [go_sem]
                have c7 : w3.cell? ⟨wr.heap.size, 7, none⟩ = some (.int .i64 x.expires) := by rw [← hw3]; simp [go_sem]
                have hb3 : Below wr.heap.size wr w3 := by rw [← hw3]; exact (Below.refl _ _).alloc (Nat.le_refl _) _
                have k3 : wr.heap.size < w3.heap.size := by rw [← hw3]; simp
                clear hw3 e0 e1 e2 e3 e4 e5 e6 e7
                have hbx3 := hbx.trans (hb3.mono hbx.size)
                clear hb3
                refine (K1.out w3).mono ?_
                rintro e w4 ⟨rfl, hb4⟩
                have d0 := (hb4.cell (p := ⟨wr.heap.size, 0, none⟩) k3).trans c0
                have d1 := (hb4.cell (p := ⟨wr.heap.size, 1, none⟩) k3).trans c1
                have d2 := (hb4.cell (p := ⟨wr.heap.size, 2, none⟩) k3).trans c2
                have d3 := (hb4.cell (p := ⟨wr.heap.size, 3, none⟩) k3).trans c3
                have d4 := (hb4.cell (p := ⟨wr.heap.size, 4, none⟩) k3).trans c4
                have d5 := (hb4.cell (p := ⟨wr.heap.size, 5, none⟩) k3).trans c5
                have d6 := (hb4.cell (p := ⟨wr.heap.size, 6, none⟩) k3).trans c6
                have d7 := (hb4.cell (p := ⟨wr.heap.size, 7, none⟩) k3).trans c7
                clear c0 c1 c2 c3 c4 c5 c6 c7
                have k4 : wr.heap.size < w4.heap.size := Nat.lt_of_lt_of_le k3 hb4.size
                have hbx4 := hbx3.trans (hb4.mono hbx3.size)
                clear hb4 k3 K1
                dsimp only
                repeat' ((fail_if_success at_builtin); (first | go_skip | go_guarded | go_step))
                refine (CGx.out w4 hbx4).mono ?_
                rintro e w5 ⟨rfl, hb5⟩
                have c0 := (hb5.cell (p := ⟨wr.heap.size, 0, none⟩) k4).trans d0
                have c1 := (hb5.cell (p := ⟨wr.heap.size, 1, none⟩) k4).trans d1
                have c2 := (hb5.cell (p := ⟨wr.heap.size, 2, none⟩) k4).trans d2
                have c3 := (hb5.cell (p := ⟨wr.heap.size, 3, none⟩) k4).trans d3
                have c4 := (hb5.cell (p := ⟨wr.heap.size, 4, none⟩) k4).trans d4
                have c5 := (hb5.cell (p := ⟨wr.heap.size, 5, none⟩) k4).trans d5
                have c6 := (hb5.cell (p := ⟨wr.heap.size, 6, none⟩) k4).trans d6
                have c7 := (hb5.cell (p := ⟨wr.heap.size, 7, none⟩) k4).trans d7
                clear d0 d1 d2 d3 d4 d5 d6 d7
                have k5 : wr.heap.size < w5.heap.size := Nat.lt_of_lt_of_le k4 hb5.size
                have hbx5 := hbx4.trans (hb5.mono hbx4.size)
                clear hb5 k4 CGx
                have f0 := fun ob => (((Below.refl w5.heap.size w5).alloc (Nat.le_refl _) ob).cell (p := ⟨wr.heap.size, 0, none⟩) k5).trans c0
                have f1 := fun ob => (((Below.refl w5.heap.size w5).alloc (Nat.le_refl _) ob).cell (p := ⟨wr.heap.size, 1, none⟩) k5).trans c1
                have f2 := fun ob => (((Below.refl w5.heap.size w5).alloc (Nat.le_refl _) ob).cell (p := ⟨wr.heap.size, 2, none⟩) k5).trans c2
                have f3 := fun ob => (((Below.refl w5.heap.size w5).alloc (Nat.le_refl _) ob).cell (p := ⟨wr.heap.size, 3, none⟩) k5).trans c3
                have f4 := fun ob => (((Below.refl w5.heap.size w5).alloc (Nat.le_refl _) ob).cell (p := ⟨wr.heap.size, 4, none⟩) k5).trans c4
                have f5 := fun ob => (((Below.refl w5.heap.size w5).alloc (Nat.le_refl _) ob).cell (p := ⟨wr.heap.size, 5, none⟩) k5).trans c5
                have f6 := fun ob => (((Below.refl w5.heap.size w5).alloc (Nat.le_refl _) ob).cell (p := ⟨wr.heap.size, 6, none⟩) k5).trans c6
                have f7 := fun ob => (((Below.refl w5.heap.size w5).alloc (Nat.le_refl _) ob).cell (p := ⟨wr.heap.size, 7, none⟩) k5).trans c7
                clear c0 c1 c2 c3 c4 c5 c6 c7
                dsimp only
                repeat' ((fail_if_success at_builtin); (first | go_skip | go_guarded | go_step))
                generalize hw6 : World.alloc w5 _ = w6
                have g0 : w6.cell? ⟨wr.heap.size, 0, none⟩ = some (.string x.run) := by rw [← hw6]; exact f0 _
                have g1 : w6.cell? ⟨wr.heap.size, 1, none⟩ = some (.string x.job) := by rw [← hw6]; exact f1 _
                have g2 : w6.cell? ⟨wr.heap.size, 2, none⟩ = some (.int .i64 x.att) := by rw [← hw6]; exact f2 _
                have g3 : w6.cell? ⟨wr.heap.size, 3, none⟩ = some (.string x.nm) := by rw [← hw6]; exact f3 _
                have g4 : w6.cell? ⟨wr.heap.size, 4, none⟩ = some (.int .u64 x.dig) := by rw [← hw6]; exact f4 _
                have g5 : w6.cell? ⟨wr.heap.size, 5, none⟩ = some (.int .i64 x.size) := by rw [← hw6]; exact f5 _
                have g6 : w6.cell? ⟨wr.heap.size, 6, none⟩ = some (.int .i64 x.created) := by rw [← hw6]; exact f6 _
                have g7 : w6.cell? ⟨wr.heap.size, 7, none⟩ = some (.int .i64 x.expires) := by rw [← hw6]; exact f7 _
                have y0 : w6.cell? ⟨w5.heap.size, 0, none⟩ = some (.string x.run) := by rw [← hw6]; simp [go_sem]
                have y1 : w6.cell? ⟨w5.heap.size, 1, none⟩ = some (.string x.job) := by rw [← hw6]; simp [go_sem]
                have y2 : w6.cell? ⟨w5.heap.size, 2, none⟩ = some (.int .i64 x.att) := by rw [← hw6]; simp [go_sem]
                have y3 : w6.cell? ⟨w5.heap.size, 3, none⟩ = some (.string x.nm) := by rw [← hw6]; simp [go_sem]
                have y4 : w6.cell? ⟨w5.heap.size, 4, none⟩ = some (.int .u64 x.dig) := by rw [← hw6]; simp [go_sem]
                have y5 : w6.cell? ⟨w5.heap.size, 5, none⟩ = some (.int .i64 x.size) := by rw [← hw6]; simp [go_sem]
                have y6 : w6.cell? ⟨w5.heap.size, 6, none⟩ = some (.int .i64 x.created) := by rw [← hw6]; simp [go_sem]
                have y7 : w6.cell? ⟨w5.heap.size, 7, none⟩ = some (.int .i64 x.expires) := by rw [← hw6]; simp [go_sem]
                have hb56 : Below w5.heap.size w5 w6 := by rw [← hw6]; exact (Below.refl _ _).alloc (Nat.le_refl _) _
                have k6 : wr.heap.size < w6.heap.size := Nat.lt_of_lt_of_le k5 hb56.size
                have k56 : w5.heap.size < w6.heap.size := by rw [← hw6]; simp
                have hbx6 := hbx5.trans (hb56.mono hbx5.size)
                clear hw6 hb56 f0 f1 f2 f3 f4 f5 f6 f7
                refine (CHx.out w6 hbx6).mono ?_
                rintro e w7 ⟨rfl, hb7⟩
                have k7 : wr.heap.size < w7.heap.size := Nat.lt_of_lt_of_le k6 hb7.size
                have k57 : w5.heap.size < w7.heap.size := Nat.lt_of_lt_of_le k56 hb7.size
                have h0 := fun ob => (((Below.refl w7.heap.size w7).alloc (Nat.le_refl _) ob).cell (p := ⟨wr.heap.size, 0, none⟩) k7).trans ((hb7.cell (p := ⟨wr.heap.size, 0, none⟩) k6).trans g0)
                have h1 := fun ob => (((Below.refl w7.heap.size w7).alloc (Nat.le_refl _) ob).cell (p := ⟨wr.heap.size, 1, none⟩) k7).trans ((hb7.cell (p := ⟨wr.heap.size, 1, none⟩) k6).trans g1)
                have h2 := fun ob => (((Below.refl w7.heap.size w7).alloc (Nat.le_refl _) ob).cell (p := ⟨wr.heap.size, 2, none⟩) k7).trans ((hb7.cell (p := ⟨wr.heap.size, 2, none⟩) k6).trans g2)
                have h3 := fun ob => (((Below.refl w7.heap.size w7).alloc (Nat.le_refl _) ob).cell (p := ⟨wr.heap.size, 3, none⟩) k7).trans ((hb7.cell (p := ⟨wr.heap.size, 3, none⟩) k6).trans g3)
                have h4 := fun ob => (((Below.refl w7.heap.size w7).alloc (Nat.le_refl _) ob).cell (p := ⟨wr.heap.size, 4, none⟩) k7).trans ((hb7.cell (p := ⟨wr.heap.size, 4, none⟩) k6).trans g4)
                have h5 := fun ob => (((Below.refl w7.heap.size w7).alloc (Nat.le_refl _) ob).cell (p := ⟨wr.heap.size, 5, none⟩) k7).trans ((hb7.cell (p := ⟨wr.heap.size, 5, none⟩) k6).trans g5)
                have h6 := fun ob => (((Below.refl w7.heap.size w7).alloc (Nat.le_refl _) ob).cell (p := ⟨wr.heap.size, 6, none⟩) k7).trans ((hb7.cell (p := ⟨wr.heap.size, 6, none⟩) k6).trans g6)
                have h7 := fun ob => (((Below.refl w7.heap.size w7).alloc (Nat.le_refl _) ob).cell (p := ⟨wr.heap.size, 7, none⟩) k7).trans ((hb7.cell (p := ⟨wr.heap.size, 7, none⟩) k6).trans g7)
                have z0 := fun ob => (((Below.refl w7.heap.size w7).alloc (Nat.le_refl _) ob).cell (p := ⟨w5.heap.size, 0, none⟩) k57).trans ((hb7.cell (p := ⟨w5.heap.size, 0, none⟩) k56).trans y0)
                have z1 := fun ob => (((Below.refl w7.heap.size w7).alloc (Nat.le_refl _) ob).cell (p := ⟨w5.heap.size, 1, none⟩) k57).trans ((hb7.cell (p := ⟨w5.heap.size, 1, none⟩) k56).trans y1)
                have z2 := fun ob => (((Below.refl w7.heap.size w7).alloc (Nat.le_refl _) ob).cell (p := ⟨w5.heap.size, 2, none⟩) k57).trans ((hb7.cell (p := ⟨w5.heap.size, 2, none⟩) k56).trans y2)
                have z3 := fun ob => (((Below.refl w7.heap.size w7).alloc (Nat.le_refl _) ob).cell (p := ⟨w5.heap.size, 3, none⟩) k57).trans ((hb7.cell (p := ⟨w5.heap.size, 3, none⟩) k56).trans y3)
                have z4 := fun ob => (((Below.refl w7.heap.size w7).alloc (Nat.le_refl _) ob).cell (p := ⟨w5.heap.size, 4, none⟩) k57).trans ((hb7.cell (p := ⟨w5.heap.size, 4, none⟩) k56).trans y4)
                have z5 := fun ob => (((Below.refl w7.heap.size w7).alloc (Nat.le_refl _) ob).cell (p := ⟨w5.heap.size, 5, none⟩) k57).trans ((hb7.cell (p := ⟨w5.heap.size, 5, none⟩) k56).trans y5)
                have z6 := fun ob => (((Below.refl w7.heap.size w7).alloc (Nat.le_refl _) ob).cell (p := ⟨w5.heap.size, 6, none⟩) k57).trans ((hb7.cell (p := ⟨w5.heap.size, 6, none⟩) k56).trans y6)
                have z7 := fun ob => (((Below.refl w7.heap.size w7).alloc (Nat.le_refl _) ob).cell (p := ⟨w5.heap.size, 7, none⟩) k57).trans ((hb7.cell (p := ⟨w5.heap.size, 7, none⟩) k56).trans y7)
                have hbx7 := hbx6.trans (hb7.mono hbx6.size)
                clear hb7 k6 k56 CHx g0 g1 g2 g3 g4 g5 g6 g7 y0 y1 y2 y3 y4 y5 y6 y7
                dsimp only
                repeat' ((fail_if_success at_builtin); (first | go_skip | go_guarded | go_step))
                go_roundw
                case rel => exact ⟨i + 1, by omega, by go_num, hbx7.alloc hbx7.size _⟩
                case measure => simp [intOf]; omega
            · have hbx1 := hbr2.trans (hbx.mono hbr2.size)
              repeat' ((fail_if_success at_builtin); (first | go_skip | go_guarded | go_step))
              refine (CA.out _ hbx1).mono ?_
              rintro e wz ⟨rfl, hbz⟩
              dsimp only
              repeat' ((fail_if_success at_builtin); (first | go_skip | go_guarded | go_step))
              go_ret
              exact ⟨rfl, hbx1.trans (hbz.mono hbx1.size)⟩
end Go.Proofs.YtclinbpkcmcokaaDoor
