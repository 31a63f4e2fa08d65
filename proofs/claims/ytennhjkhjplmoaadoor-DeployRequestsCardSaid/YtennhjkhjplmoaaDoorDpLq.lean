/- Deploy: the law about Request and Abandon. -/
import Derived.Test.YtennhjkhjplmoaaDoorDpLb
import Derived.Test.YtennhjkhjplmoaaDoorDpRq
import Derived.Test.YtennhjkhjplmoaaDoorDpRa
import Derived.Test.YtennhjkhjplmoaaDoorHk
namespace Go.Proofs.YtennhjkhjplmoaaDoor
open Go.RowKit
set_option maxRecDepth 100000 in
set_option maxHeartbeats 6000000 in
theorem request_law (l : List Env) (A : Option Addr) (n c : Nat) (s : ByteArray) (r : Ref) (w : World) (h : RSlice rEnv 5 w (fun b => b < w.heap.size) A n c l) (_hOk : ∀ x ∈ l, EnvOk x) :
    Calls Tryd.prog 4 #[.slice A n c, .string s, .agg #[.string r.run, .string r.job]] w fun e w' => e = .returned (.bool true) ∧ Below w.heap.size w w' := by
  go_enter Tryd.func4, Tryd.ntmps4
  go_upto_region 1 with (fail)
  generalize hx_ : World.alloc w _ = wo1
  have hO1 : OwnB w wo1 [(w.heap.size, [.string r.run, .string r.job])] := by rw [← hx_]; exact (OwnB.refl w).new #[.string r.run, .string r.job] _ (g := w.heap.size)
  have hbn : Below w.heap.size w wo1 := by rw [← hx_]; exact (Below.refl _ _).alloc (Nat.le_refl _) _
  have zwo1 : w.heap.size + 0 < wo1.heap.size := by rw [← hx_]; simp <;> omega
  clear hx_
  have c0_0 : wo1.cell? ⟨w.heap.size, 0, none⟩ = some (.string r.run) := hO1.c 0 0
  have c0_1 : wo1.cell? ⟨w.heap.size, 1, none⟩ = some (.string r.job) := hO1.c 0 1
  have cf0 := hO1.fr 0
  clear hbn
  have hb0 := hO1.below
  have C := small_any l A n c wo1 ((h.below rEnv_ok hb0).more rEnv_ok (fun _ hp => Nat.lt_of_lt_of_le hp hb0.size))
  replace C := Lib.hid C
  repeat' ((fail_if_success at_builtin); (first | go_skip | go_guarded | go_step))
  refine C.out.mono ?_
  clear C
  rintro e w1_ ⟨rfl, hw1⟩
  dsimp only
  subst w1_
  cases hs : smallL l with
  | false =>
    repeat' ((fail_if_success at_builtin); (first | go_skip | go_guarded | go_step))
    refine (lives_any _).mono ?_
    rintro e wl ⟨rfl, hbl⟩
    dsimp only
    have hbf := hb0.trans (hbl.mono hb0.size)
    repeat' ((fail_if_success at_builtin); (first | go_skip | go_guarded | go_step))
    go_ret
    exact ⟨rfl, hbf⟩
  | true =>
    by_cases h200 : 200 < s.size
    · have h200i : (200 : Int) < (s.size : Int) := by omega
      repeat' ((fail_if_success at_builtin); (first | go_skip | go_guarded | go_step))
      refine (lives_any _).mono ?_
      rintro e wl ⟨rfl, hbl⟩
      dsimp only
      have hbf := hb0.trans (hbl.mono hb0.size)
      repeat' ((fail_if_success at_builtin); (first | go_skip | go_guarded | go_step))
      go_ret
      exact ⟨rfl, hbf⟩
    · have h200i : ¬ (200 : Int) < (s.size : Int) := by omega
      have hs2 : s.size ≤ 200 := by omega
      have hE := (small_envs hs h).below hb0
      obtain ⟨k1, k2, k3, k4⟩ := small_b hs
      have C := request_any l s r A n c wo1 hE (by omega)
      replace C := Lib.hid C
      repeat' ((fail_if_success at_builtin); (first | go_skip | go_guarded | go_step))
      refine C.out.mono ?_
      clear C
      rintro e w2 ⟨B1, m1, d1, rfl, hb2, hR1⟩
      dsimp only
      have zw2 := hb2.size
      have hO2 : OwnB w w2 [(w.heap.size, [.string r.run, .string r.job])] := hO1.kept hb2
      clear c0_0 c0_1 cf0 hO1
      have c0_0 : w2.cell? ⟨w.heap.size, 0, none⟩ = some (.string r.run) := hO2.c 0 0
      have c0_1 : w2.cell? ⟨w.heap.size, 1, none⟩ = some (.string r.job) := hO2.c 0 1
      have cf0 := hO2.fr 0
      have hE1 := (ew_req hs hs2).envs hR1
      replace hE := hE.below hb2
      clear hR1
      have C := rrequest_any l s r A n c w2 hE (by omega) k2
      replace C := Lib.hid C
      repeat' ((fail_if_success at_builtin); (first | go_skip | go_guarded | go_step))
      refine C.out.mono ?_
      clear C
      rintro e w3 ⟨B2, m2, d2, rfl, hb3, hR2⟩
      dsimp only
      have zw3 := hb3.size
      have hO3 : OwnB w w3 [(w.heap.size, [.string r.run, .string r.job])] := hO2.kept hb3
      clear c0_0 c0_1 cf0 hO2
      have c0_0 : w3.cell? ⟨w.heap.size, 0, none⟩ = some (.string r.run) := hO3.c 0 0
      have c0_1 : w3.cell? ⟨w.heap.size, 1, none⟩ = some (.string r.job) := hO3.c 0 1
      have cf0 := hO3.fr 0
      have hE2 := (ew_req hs hs2).envs hR2
      replace hE := hE.below hb3
      replace hE1 := hE1.below hb3
      clear hR2
      have hbw := hO3.below
      have hpl := hO3.lt 0
      go_upto_region 5 with (fail)
      have hS0 : (Below w3.heap.size w3 w3 ∧ w3.cell? ⟨w.heap.size, 0, none⟩ = some (.string r.run) ∧ w3.cell? ⟨w.heap.size, 1, none⟩ = some (.string r.job)) := ⟨Below.refl _ _, c0_0, c0_1⟩
      have keepS : ∀ v1 v2 : World, (Below w3.heap.size w3 v1 ∧ v1.cell? ⟨w.heap.size, 0, none⟩ = some (.string r.run) ∧ v1.cell? ⟨w.heap.size, 1, none⟩ = some (.string r.job)) → Below v1.heap.size v1 v2 → (Below w3.heap.size w3 v2 ∧ v2.cell? ⟨w.heap.size, 0, none⟩ = some (.string r.run) ∧ v2.cell? ⟨w.heap.size, 1, none⟩ = some (.string r.job)) := fun v1 v2 h hb => ⟨h.1.trans (hb.mono h.1.size), (hb.cell (p := ⟨w.heap.size, _, none⟩) (Nat.lt_of_lt_of_le hpl h.1.size)).trans h.2.1, (hb.cell (p := ⟨w.heap.size, _, none⟩) (Nat.lt_of_lt_of_le hpl h.1.size)).trans h.2.2⟩
      have hS1 : (Below w3.heap.size w3 w3.drew ∧ w3.drew.cell? ⟨w.heap.size, 0, none⟩ = some (.string r.run) ∧ w3.drew.cell? ⟨w.heap.size, 1, none⟩ = some (.string r.job)) := keepS _ _ hS0 ((Below.refl _ _).drew)
      replace keepS := Lib.hid keepS
      clear hS0
      refine wp_region_held_drew (S := fun w' => Below w3.heap.size w3 w' ∧ w'.cell? ⟨w.heap.size, 0, none⟩ = some (.string r.run) ∧ w'.cell? ⟨w.heap.size, 1, none⟩ = some (.string r.job)) (by kernel_rfl) ?_ (fun hHeld => ?_)
      · (try dsimp only)
        exact hS1
      refine tkY 0 (v := ?v71) rfl (.inl ⟨by rfl, ?hy71⟩) ?hr71
      case hy71 => (intro w hSw; (try dsimp only at hSw); go_simp; try with_reducible rfl)
      simp only [Act.put, List.getElem_toArray, List.getElem_cons_zero, List.setIfInBounds_toArray, List.set_cons_zero, List.set_cons_succ]
      refine tkY 1 (v := ?v72) rfl (.inl ⟨by rfl, ?hy72⟩) ?hr72
      case hy72 => (intro w hSw; (try dsimp only at hSw); go_simp; try with_reducible rfl)
      simp only [Act.put, List.getElem_toArray, List.getElem_cons_zero, List.getElem_cons_succ, List.setIfInBounds_toArray, List.set_cons_zero, List.set_cons_succ]
      refine wpAnyH_ready (rs := [2]) (by kernel_rfl) (by simp) ?_
      refine AllReadyH.cons rfl (fun K hK => ?_) ?_
      · go_simp
        go_at_call 15
        refine (same_same _ B1 m1 d1 B2 m2 d2 _ (hE1.below hHeld.1) (hE2.below hHeld.1)).mono ?_
        rintro e z1 ⟨rfl, hbq⟩
        dsimp only
        refine hK.out _ _ ?_ (fun hHeld => ?_)
        · (try dsimp only)
          exact keepS.out _ _ hHeld hbq
        clear hK K
        try simp only [Act.put, List.getElem_toArray, List.getElem_cons_zero, List.getElem_cons_succ, List.setIfInBounds_toArray, List.set_cons_zero, List.set_cons_succ]
        refine tkY 3 (v := ?v73) rfl (.inl ⟨by rfl, ?hy73⟩) ?hr73
        case hy73 => (intro w hSw; (try dsimp only at hSw); go_simp; try with_reducible rfl)
        simp only [Act.put, List.getElem_toArray, List.getElem_cons_zero, List.getElem_cons_succ, List.setIfInBounds_toArray, List.set_cons_zero, List.set_cons_succ]
        refine tkY 4 (v := ?v74) rfl (.inl ⟨by rfl, ?hy74⟩) ?hr74
        case hy74 => (intro w hSw; (try dsimp only at hSw); go_simp; try with_reducible rfl)
        simp only [Act.put, List.getElem_toArray, List.getElem_cons_zero, List.getElem_cons_succ, List.setIfInBounds_toArray, List.set_cons_zero, List.set_cons_succ]
        refine tkY 5 (v := ?v75) rfl (.inl ⟨by rfl, ?hy75⟩) ?hr75
        case hy75 => (intro w hSw; (try dsimp only at hSw); go_simp; try with_reducible rfl)
        simp only [Act.put, List.getElem_toArray, List.getElem_cons_zero, List.getElem_cons_succ, List.setIfInBounds_toArray, List.set_cons_zero, List.set_cons_succ]
        refine tkY 6 (v := ?v76) rfl (.inl ⟨by rfl, ?hy76⟩) ?hr76
        case hy76 => (intro w hSw; (try dsimp only at hSw); go_simp; try with_reducible rfl)
        simp only [Act.put, List.getElem_toArray, List.getElem_cons_zero, List.getElem_cons_succ, List.setIfInBounds_toArray, List.set_cons_zero, List.set_cons_succ]
        refine tkY 7 (v := ?v77) rfl (.inl ⟨by rfl, ?hy77⟩) ?hr77
        case hy77 => (intro w hSw; (try dsimp only at hSw); go_simp; try with_reducible rfl)
        simp only [Act.put, List.getElem_toArray, List.getElem_cons_zero, List.getElem_cons_succ, List.setIfInBounds_toArray, List.set_cons_zero, List.set_cons_succ]
        refine tkY 8 (v := ?v78) rfl (.inl ⟨by rfl, ?hy78⟩) ?hr78
        case hy78 => (intro w hSw; (try dsimp only at hSw); go_simp; try with_reducible rfl)
        simp only [Act.put, List.getElem_toArray, List.getElem_cons_zero, List.getElem_cons_succ, List.setIfInBounds_toArray, List.set_cons_zero, List.set_cons_succ]
        refine tkY 9 (v := ?v79) rfl (.inl ⟨by rfl, ?hy79⟩) ?hr79
        case hy79 => (intro w hSw; (try dsimp only at hSw); go_simp; try with_reducible rfl)
        simp only [Act.put, List.getElem_toArray, List.getElem_cons_zero, List.getElem_cons_succ, List.setIfInBounds_toArray, List.set_cons_zero, List.set_cons_succ]
        refine tkY 10 (v := ?v80) rfl (.inl ⟨by rfl, ?hy80⟩) ?hr80
        case hy80 => (intro w hSw; (try dsimp only at hSw); go_simp; try with_reducible rfl)
        simp only [Act.put, List.getElem_toArray, List.getElem_cons_zero, List.getElem_cons_succ, List.setIfInBounds_toArray, List.set_cons_zero, List.set_cons_succ]
        refine tkY 12 (v := ?v81) rfl (.inl ⟨by rfl, ?hy81⟩) ?hr81
        case hy81 => (intro w hSw; (try dsimp only at hSw); go_simp; try with_reducible rfl)
        simp only [Act.put, List.getElem_toArray, List.getElem_cons_zero, List.getElem_cons_succ, List.setIfInBounds_toArray, List.set_cons_zero, List.set_cons_succ]
        refine tkY 13 (v := ?v82) rfl (.inl ⟨by rfl, ?hy82⟩) ?hr82
        case hy82 => (intro w hSw; (try dsimp only at hSw); go_simp; try with_reducible rfl)
        simp only [Act.put, List.getElem_toArray, List.getElem_cons_zero, List.getElem_cons_succ, List.setIfInBounds_toArray, List.set_cons_zero, List.set_cons_succ]
        refine wpAnyH_ready (rs := [11]) (by kernel_rfl) (by simp) ?_
        refine AllReadyH.cons rfl (fun K hK => ?_) ?_
        · go_simp
          go_at_call 16
          refine (abandon_any l r A n c _ (hE.below hHeld.1)).mono ?_
          rintro e z2 ⟨B3, m3, d3, rfl, hbq, hR3⟩
          dsimp only
          have hE3 := (ew_ab hs).envs hR3
          clear hR3
          refine hK.out _ _ ?_ (fun hHeld => ?_)
          · (try dsimp only)
            exact keepS.out _ _ hHeld hbq
          clear hK K
          try simp only [Act.put, List.getElem_toArray, List.getElem_cons_zero, List.getElem_cons_succ, List.setIfInBounds_toArray, List.set_cons_zero, List.set_cons_succ]
          refine wpAnyH_ready (rs := [14]) (by kernel_rfl) (by simp) ?_
          refine AllReadyH.cons rfl (fun K hK => ?_) ?_
          · go_simp
            go_at_call 17
            refine (rabandon_any l r A n c _ (hE.below hHeld.1)).mono ?_
            rintro e z3 ⟨B4, m4, d4, rfl, hbq, hR4⟩
            dsimp only
            replace hE3 := hE3.below hbq
            have hE4 := (ew_ab hs).envs hR4
            clear hR4
            refine hK.out _ _ ?_ (fun hHeld => ?_)
            · (try dsimp only)
              exact keepS.out _ _ hHeld hbq
            clear hK K
            try simp only [Act.put, List.getElem_toArray, List.getElem_cons_zero, List.getElem_cons_succ, List.setIfInBounds_toArray, List.set_cons_zero, List.set_cons_succ]
            refine wpAnyH_ready (rs := [15]) (by kernel_rfl) (by simp) ?_
            refine AllReadyH.cons rfl (fun K hK => ?_) ?_
            · go_simp
              go_at_call 15
              refine (same_same _ B3 m3 d3 B4 m4 d4 _ hE3 hE4).mono ?_
              rintro e z4 ⟨rfl, hbq⟩
              dsimp only
              replace hE3 := hE3.below hbq
              replace hE4 := hE4.below hbq
              refine hK.out _ _ ?_ (fun hHeld => ?_)
              · (try dsimp only)
                exact keepS.out _ _ hHeld hbq
              clear hK K
              try simp only [Act.put, List.getElem_toArray, List.getElem_cons_zero, List.getElem_cons_succ, List.setIfInBounds_toArray, List.set_cons_zero, List.set_cons_succ]
              refine tkY 16 (v := ?v83) rfl (.inl ⟨by rfl, ?hy83⟩) ?hr83
              case hy83 => (intro w hSw; (try dsimp only at hSw); go_simp; try with_reducible rfl)
              simp only [Act.put, List.getElem_toArray, List.getElem_cons_zero, List.getElem_cons_succ, List.setIfInBounds_toArray, List.set_cons_zero, List.set_cons_succ]
              refine tkY 17 (v := ?v84) rfl (.inl ⟨by rfl, ?hy84⟩) ?hr84
              case hy84 => (intro w hSw; (try dsimp only at hSw); go_simp; try with_reducible rfl)
              simp only [Act.put, List.getElem_toArray, List.getElem_cons_zero, List.getElem_cons_succ, List.setIfInBounds_toArray, List.set_cons_zero, List.set_cons_succ]
              refine wpAnyH_ready (rs := [18]) (by kernel_rfl) (by simp) ?_
              refine AllReadyH.cons rfl (fun K hK => ?_) ?_
              · go_simp
                go_at_call 10
                refine (lives_any _).mono ?_
                rintro e z5 ⟨rfl, hbq⟩
                dsimp only
                replace hE3 := hE3.below hbq
                replace hE4 := hE4.below hbq
                refine hK.out _ _ ?_ (fun hHeld => ?_)
                · (try dsimp only)
                  exact keepS.out _ _ hHeld hbq
                clear hK K
                try simp only [Act.put, List.getElem_toArray, List.getElem_cons_zero, List.getElem_cons_succ, List.setIfInBounds_toArray, List.set_cons_zero, List.set_cons_succ]
                refine tkY 19 (v := ?v85) rfl (.inl ⟨by rfl, ?hy85⟩) ?hr85
                case hy85 => (intro w hSw; (try dsimp only at hSw); go_simp; try with_reducible rfl)
                simp only [Act.put, List.getElem_toArray, List.getElem_cons_zero, List.getElem_cons_succ, List.setIfInBounds_toArray, List.set_cons_zero, List.set_cons_succ]
                refine tkY 20 (v := ?v86) rfl (.inl ⟨by rfl, ?hy86⟩) ?hr86
                case hy86 => (intro w hSw; (try dsimp only at hSw); go_simp; try with_reducible rfl)
                simp only [Act.put, List.getElem_toArray, List.getElem_cons_zero, List.getElem_cons_succ, List.setIfInBounds_toArray, List.set_cons_zero, List.set_cons_succ]
                refine wpAnyH_done (by kernel_rfl) ?_ _
                have hbz := hbw.trans (hHeld.1.mono hbw.size)
                clear hHeld hS1 keepS
                repeat' ((fail_if_success at_builtin); (first | go_skip | go_guarded | go_step))
                go_ret
                exact ⟨rfl, hbz⟩
              exact AllReadyH.nil
            exact AllReadyH.nil
          exact AllReadyH.nil
        exact AllReadyH.nil
      exact AllReadyH.nil
end Go.Proofs.YtennhjkhjplmoaaDoor
