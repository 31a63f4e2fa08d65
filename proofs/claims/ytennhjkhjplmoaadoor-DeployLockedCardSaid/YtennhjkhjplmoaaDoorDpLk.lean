/- Deploy: the law about Lock and May. -/
import Derived.Test.YtennhjkhjplmoaaDoorDpLb
import Derived.Test.YtennhjkhjplmoaaDoorDpRl
import Derived.Test.YtennhjkhjplmoaaDoorDpRm
import Derived.Test.YtennhjkhjplmoaaDoorHk
namespace Go.Proofs.YtennhjkhjplmoaaDoor
open Go.RowKit
set_option maxRecDepth 100000 in
set_option maxHeartbeats 6000000 in
theorem locked_law (l : List Env) (A : Option Addr) (n c : Nat) (s : ByteArray) (r : Ref) (w : World) (h : RSlice rEnv 5 w (fun b => b < w.heap.size) A n c l) (_hOk : ∀ x ∈ l, EnvOk x) :
    Calls Tryd.prog 5 #[.slice A n c, .string s, .agg #[.string r.run, .string r.job]] w fun e w' => e = .returned (.bool true) ∧ Below w.heap.size w w' := by
  go_enter Tryd.func5, Tryd.ntmps5
  go_upto_region 1 with (fail)
  generalize hx_ : World.alloc w _ = wo1
  have hO1 : OwnB w wo1 [(w.heap.size, [.string r.run, .string r.job])] := by rw [← hx_]; exact (OwnB.refl w).new #[.string r.run, .string r.job] _ (g := w.heap.size)
  have hbn : Below w.heap.size w wo1 := by rw [← hx_]; exact (Below.refl _ _).alloc (Nat.le_refl _) _
  have zwo1 : w.heap.size + 0 < wo1.heap.size := by rw [← hx_]; simp <;> omega
  clear hx_
  have c0_0 : wo1.cell? ⟨w.heap.size, 0, none⟩ = some (.string r.run) := hO1.c 0 0
  have c0_1 : wo1.cell? ⟨w.heap.size, 1, none⟩ = some (.string r.job) := hO1.c 0 1
  have cf0 := hO1.fr 0
  clear hbn
  have hb0 := hO1.below
  have C := small_any l A n c wo1 ((h.below rEnv_ok hb0).more rEnv_ok (fun _ hp => Nat.lt_of_lt_of_le hp hb0.size))
  replace C := Lib.hid C
  repeat' ((fail_if_success at_builtin); (first | go_skip | go_guarded | go_step))
  refine C.out.mono ?_
  clear C
  rintro e w1_ ⟨rfl, hw1⟩
  dsimp only
  subst w1_
  cases hs : smallL l with
  | false =>
    repeat' ((fail_if_success at_builtin); (first | go_skip | go_guarded | go_step))
    refine (lives_any _).mono ?_
    rintro e wl ⟨rfl, hbl⟩
    dsimp only
    have hbf := hb0.trans (hbl.mono hb0.size)
    repeat' ((fail_if_success at_builtin); (first | go_skip | go_guarded | go_step))
    go_ret
    exact ⟨rfl, hbf⟩
  | true =>
    by_cases h200 : 200 < s.size
    · have h200i : (200 : Int) < (s.size : Int) := by omega
      repeat' ((fail_if_success at_builtin); (first | go_skip | go_guarded | go_step))
      refine (lives_any _).mono ?_
      rintro e wl ⟨rfl, hbl⟩
      dsimp only
      have hbf := hb0.trans (hbl.mono hb0.size)
      repeat' ((fail_if_success at_builtin); (first | go_skip | go_guarded | go_step))
      go_ret
      exact ⟨rfl, hbf⟩
    · have h200i : ¬ (200 : Int) < (s.size : Int) := by omega
      have hs2 : s.size ≤ 200 := by omega
      have hE := (small_envs hs h).below hb0
      obtain ⟨k1, k2, k3, k4⟩ := small_b hs
      have C := lock_any l s r A n c wo1 hE
      replace C := Lib.hid C
      repeat' ((fail_if_success at_builtin); (first | go_skip | go_guarded | go_step))
      refine C.out.mono ?_
      clear C
      rintro e w2 ⟨B1, m1, d1, rfl, hb2, hR1⟩
      dsimp only
      have zw2 := hb2.size
      have hO2 : OwnB w w2 [(w.heap.size, [.string r.run, .string r.job])] := hO1.kept hb2
      clear c0_0 c0_1 cf0 hO1
      have c0_0 : w2.cell? ⟨w.heap.size, 0, none⟩ = some (.string r.run) := hO2.c 0 0
      have c0_1 : w2.cell? ⟨w.heap.size, 1, none⟩ = some (.string r.job) := hO2.c 0 1
      have cf0 := hO2.fr 0
      have hE1 := (ew_lock (s := s) (r := r) hs).envs hR1
      replace hE := hE.below hb2
      clear hR1
      have C := rlock_any l s r A n c w2 hE
      replace C := Lib.hid C
      repeat' ((fail_if_success at_builtin); (first | go_skip | go_guarded | go_step))
      refine C.out.mono ?_
      clear C
      rintro e w3 ⟨B2, m2, d2, rfl, hb3, hR2⟩
      dsimp only
      have zw3 := hb3.size
      have hO3 : OwnB w w3 [(w.heap.size, [.string r.run, .string r.job])] := hO2.kept hb3
      clear c0_0 c0_1 cf0 hO2
      have c0_0 : w3.cell? ⟨w.heap.size, 0, none⟩ = some (.string r.run) := hO3.c 0 0
      have c0_1 : w3.cell? ⟨w.heap.size, 1, none⟩ = some (.string r.job) := hO3.c 0 1
      have cf0 := hO3.fr 0
      have hE2 := (ew_lock (s := s) (r := r) hs).envs hR2
      replace hE := hE.below hb3
      replace hE1 := hE1.below hb3
      clear hR2
      have hml := may_lock l s r
      generalize hcd : (lockL l s r).2 = cd at *
      replace hcd := Lib.hid hcd
      replace hml := Lib.hid hml
      have hbw := hO3.below
      have hpl := hO3.lt 0
      go_upto_region 5 with (fail)
      have hS0 : (Below w3.heap.size w3 w3 ∧ w3.cell? ⟨w.heap.size, 0, none⟩ = some (.string r.run) ∧ w3.cell? ⟨w.heap.size, 1, none⟩ = some (.string r.job)) := ⟨Below.refl _ _, c0_0, c0_1⟩
      have keepS : ∀ v1 v2 : World, (Below w3.heap.size w3 v1 ∧ v1.cell? ⟨w.heap.size, 0, none⟩ = some (.string r.run) ∧ v1.cell? ⟨w.heap.size, 1, none⟩ = some (.string r.job)) → Below v1.heap.size v1 v2 → (Below w3.heap.size w3 v2 ∧ v2.cell? ⟨w.heap.size, 0, none⟩ = some (.string r.run) ∧ v2.cell? ⟨w.heap.size, 1, none⟩ = some (.string r.job)) := fun v1 v2 h hb => ⟨h.1.trans (hb.mono h.1.size), (hb.cell (p := ⟨w.heap.size, _, none⟩) (Nat.lt_of_lt_of_le hpl h.1.size)).trans h.2.1, (hb.cell (p := ⟨w.heap.size, _, none⟩) (Nat.lt_of_lt_of_le hpl h.1.size)).trans h.2.2⟩
      have hS1 : (Below w3.heap.size w3 w3.drew ∧ w3.drew.cell? ⟨w.heap.size, 0, none⟩ = some (.string r.run) ∧ w3.drew.cell? ⟨w.heap.size, 1, none⟩ = some (.string r.job)) := keepS _ _ hS0 ((Below.refl _ _).drew)
      replace keepS := Lib.hid keepS
      clear hS0
      refine wp_region_held_drew (S := fun w' => Below w3.heap.size w3 w' ∧ w'.cell? ⟨w.heap.size, 0, none⟩ = some (.string r.run) ∧ w'.cell? ⟨w.heap.size, 1, none⟩ = some (.string r.job)) (by kernel_rfl) ?_ (fun hHeld => ?_)
      · (try dsimp only)
        exact hS1
      refine tkY 0 (v := ?v87) rfl (.inl ⟨by rfl, ?hy87⟩) ?hr87
      case hy87 => (intro w hSw; (try dsimp only at hSw); go_simp; try with_reducible rfl)
      simp only [Act.put, List.getElem_toArray, List.getElem_cons_zero, List.setIfInBounds_toArray, List.set_cons_zero, List.set_cons_succ]
      refine tkY 1 (v := ?v88) rfl (.inl ⟨by rfl, ?hy88⟩) ?hr88
      case hy88 => (intro w hSw; (try dsimp only at hSw); go_simp; try with_reducible rfl)
      simp only [Act.put, List.getElem_toArray, List.getElem_cons_zero, List.getElem_cons_succ, List.setIfInBounds_toArray, List.set_cons_zero, List.set_cons_succ]
      refine wpAnyH_ready (rs := [2]) (by kernel_rfl) (by simp) ?_
      refine AllReadyH.cons rfl (fun K hK => ?_) ?_
      · go_simp
        go_at_call 15
        refine (same_same _ B1 m1 d1 B2 m2 d2 _ (hE1.below hHeld.1) (hE2.below hHeld.1)).mono ?_
        rintro e z1 ⟨rfl, hbq⟩
        dsimp only
        refine hK.out _ _ ?_ (fun hHeld => ?_)
        · (try dsimp only)
          exact keepS.out _ _ hHeld hbq
        clear hK K
        try simp only [Act.put, List.getElem_toArray, List.getElem_cons_zero, List.getElem_cons_succ, List.setIfInBounds_toArray, List.set_cons_zero, List.set_cons_succ]
        refine tkY 3 (v := ?v89) rfl (.inl ⟨by rfl, ?hy89⟩) ?hr89
        case hy89 => (intro w hSw; (try dsimp only at hSw); go_simp; try with_reducible rfl)
        simp only [Act.put, List.getElem_toArray, List.getElem_cons_zero, List.getElem_cons_succ, List.setIfInBounds_toArray, List.set_cons_zero, List.set_cons_succ]
        refine tkY 4 (v := ?v90) rfl (.inl ⟨by rfl, ?hy90⟩) ?hr90
        case hy90 => (intro w hSw; (try dsimp only at hSw); go_simp; try with_reducible rfl)
        simp only [Act.put, List.getElem_toArray, List.getElem_cons_zero, List.getElem_cons_succ, List.setIfInBounds_toArray, List.set_cons_zero, List.set_cons_succ]
        refine tkY 5 (v := ?v91) rfl (.inl ⟨by rfl, ?hy91⟩) ?hr91
        case hy91 => (intro w hSw; (try dsimp only at hSw); go_simp; try with_reducible rfl)
        simp only [Act.put, List.getElem_toArray, List.getElem_cons_zero, List.getElem_cons_succ, List.setIfInBounds_toArray, List.set_cons_zero, List.set_cons_succ]
        refine tkY 6 (v := ?v92) rfl (.inl ⟨by rfl, ?hy92⟩) ?hr92
        case hy92 => (intro w hSw; (try dsimp only at hSw); go_simp; try with_reducible rfl)
        simp only [Act.put, List.getElem_toArray, List.getElem_cons_zero, List.getElem_cons_succ, List.setIfInBounds_toArray, List.set_cons_zero, List.set_cons_succ]
        refine tkY 7 (v := ?v93) rfl (.inl ⟨by rfl, ?hy93⟩) ?hr93
        case hy93 => (intro w hSw; (try dsimp only at hSw); go_simp; try with_reducible rfl)
        simp only [Act.put, List.getElem_toArray, List.getElem_cons_zero, List.getElem_cons_succ, List.setIfInBounds_toArray, List.set_cons_zero, List.set_cons_succ]
        refine tkY 8 (v := ?v94) rfl (.inl ⟨by rfl, ?hy94⟩) ?hr94
        case hy94 => (intro w hSw; (try dsimp only at hSw); go_simp; try with_reducible rfl)
        simp only [Act.put, List.getElem_toArray, List.getElem_cons_zero, List.getElem_cons_succ, List.setIfInBounds_toArray, List.set_cons_zero, List.set_cons_succ]
        refine tkY 9 (v := ?v95) rfl (.inl ⟨by rfl, ?hy95⟩) ?hr95
        case hy95 => (intro w hSw; (try dsimp only at hSw); go_simp; try with_reducible rfl)
        simp only [Act.put, List.getElem_toArray, List.getElem_cons_zero, List.getElem_cons_succ, List.setIfInBounds_toArray, List.set_cons_zero, List.set_cons_succ]
        refine tkY 10 (v := ?v96) rfl (.inl ⟨by rfl, ?hy96⟩) ?hr96
        case hy96 => (intro w hSw; (try dsimp only at hSw); go_simp; try with_reducible rfl)
        simp only [Act.put, List.getElem_toArray, List.getElem_cons_zero, List.getElem_cons_succ, List.setIfInBounds_toArray, List.set_cons_zero, List.set_cons_succ]
        refine tkY 11 (v := ?v97) rfl (.inl ⟨by rfl, ?hy97⟩) ?hr97
        case hy97 => (intro w hSw; (try dsimp only at hSw); go_simp; try with_reducible rfl)
        simp only [Act.put, List.getElem_toArray, List.getElem_cons_zero, List.getElem_cons_succ, List.setIfInBounds_toArray, List.set_cons_zero, List.set_cons_succ]
        refine tkY 13 (v := ?v98) rfl (.inl ⟨by rfl, ?hy98⟩) ?hr98
        case hy98 => (intro w hSw; (try dsimp only at hSw); go_simp; try with_reducible rfl)
        simp only [Act.put, List.getElem_toArray, List.getElem_cons_zero, List.getElem_cons_succ, List.setIfInBounds_toArray, List.set_cons_zero, List.set_cons_succ]
        refine tkY 14 (v := ?v99) rfl (.inl ⟨by rfl, ?hy99⟩) ?hr99
        case hy99 => (intro w hSw; (try dsimp only at hSw); go_simp; try with_reducible rfl)
        simp only [Act.put, List.getElem_toArray, List.getElem_cons_zero, List.getElem_cons_succ, List.setIfInBounds_toArray, List.set_cons_zero, List.set_cons_succ]
        refine tkY 15 (v := ?v100) rfl (.inl ⟨by rfl, ?hy100⟩) ?hr100
        case hy100 => (intro w hSw; (try dsimp only at hSw); go_simp; try with_reducible rfl)
        simp only [Act.put, List.getElem_toArray, List.getElem_cons_zero, List.getElem_cons_succ, List.setIfInBounds_toArray, List.set_cons_zero, List.set_cons_succ]
        refine wpAnyH_ready (rs := [12]) (by kernel_rfl) (by simp) ?_
        refine AllReadyH.cons rfl (fun K hK => ?_) ?_
        · go_simp
          go_at_call 20
          refine (may_any l s r A n c _ (hE.below hHeld.1)).mono ?_
          rintro e z2 ⟨rfl, hbq⟩
          dsimp only
          rw [hml.out]
          refine hK.out _ _ ?_ (fun hHeld => ?_)
          · (try dsimp only)
            exact keepS.out _ _ hHeld hbq
          clear hK K
          try simp only [Act.put, List.getElem_toArray, List.getElem_cons_zero, List.getElem_cons_succ, List.setIfInBounds_toArray, List.set_cons_zero, List.set_cons_succ]
          refine wpAnyH_ready (rs := [16]) (by kernel_rfl) (by simp) ?_
          refine AllReadyH.cons rfl (fun K hK => ?_) ?_
          · go_simp
            go_at_call 21
            refine (rmay_any l s r A n c _ (hE.below hHeld.1)).mono ?_
            rintro e z3 ⟨rfl, hbq⟩
            dsimp only
            rw [hml.out]
            refine hK.out _ _ ?_ (fun hHeld => ?_)
            · (try dsimp only)
              exact keepS.out _ _ hHeld hbq
            clear hK K
            try simp only [Act.put, List.getElem_toArray, List.getElem_cons_zero, List.getElem_cons_succ, List.setIfInBounds_toArray, List.set_cons_zero, List.set_cons_succ]
            refine tkY 17 (v := ?v101) rfl (.inl ⟨by rfl, ?hy101⟩) ?hr101
            case hy101 => (intro w hSw; (try dsimp only at hSw); go_simp; try with_reducible rfl)
            simp only [Act.put, List.getElem_toArray, List.getElem_cons_zero, List.getElem_cons_succ, List.setIfInBounds_toArray, List.set_cons_zero, List.set_cons_succ]
            refine tkY 18 (v := ?v102) rfl (.inl ⟨by rfl, ?hy102⟩) ?hr102
            case hy102 => (intro w hSw; (try dsimp only at hSw); go_simp; try with_reducible rfl)
            simp only [Act.put, List.getElem_toArray, List.getElem_cons_zero, List.getElem_cons_succ, List.setIfInBounds_toArray, List.set_cons_zero, List.set_cons_succ]
            refine tkY 19 (v := ?v103) rfl (.inl ⟨by rfl, ?hy103⟩) ?hr103
            case hy103 => (intro w hSw; (try dsimp only at hSw); go_simp; try with_reducible rfl)
            simp only [Act.put, List.getElem_toArray, List.getElem_cons_zero, List.getElem_cons_succ, List.setIfInBounds_toArray, List.set_cons_zero, List.set_cons_succ]
            refine tkY 20 (v := ?v104) rfl (.inl ⟨by rfl, ?hy104⟩) ?hr104
            case hy104 => (intro w hSw; (try dsimp only at hSw); go_simp; try with_reducible rfl)
            simp only [Act.put, List.getElem_toArray, List.getElem_cons_zero, List.getElem_cons_succ, List.setIfInBounds_toArray, List.set_cons_zero, List.set_cons_succ]
            refine tkY 21 (v := ?v105) rfl (.inl ⟨by rfl, ?hy105⟩) ?hr105
            case hy105 => (intro w hSw; (try dsimp only at hSw); go_simp; try with_reducible rfl)
            simp only [Act.put, List.getElem_toArray, List.getElem_cons_zero, List.getElem_cons_succ, List.setIfInBounds_toArray, List.set_cons_zero, List.set_cons_succ]
            refine tkY 22 (v := ?v106) rfl (.inl ⟨by rfl, ?hy106⟩) ?hr106
            case hy106 => (intro w hSw; (try dsimp only at hSw); go_simp; try with_reducible rfl)
            simp only [Act.put, List.getElem_toArray, List.getElem_cons_zero, List.getElem_cons_succ, List.setIfInBounds_toArray, List.set_cons_zero, List.set_cons_succ]
            refine tkY 24 (v := ?v107) rfl (.inl ⟨by rfl, ?hy107⟩) ?hr107
            case hy107 => (intro w hSw; (try dsimp only at hSw); go_simp; try with_reducible rfl)
            simp only [Act.put, List.getElem_toArray, List.getElem_cons_zero, List.getElem_cons_succ, List.setIfInBounds_toArray, List.set_cons_zero, List.set_cons_succ]
            refine tkY 25 (v := ?v108) rfl (.inl ⟨by rfl, ?hy108⟩) ?hr108
            case hy108 => (intro w hSw; (try dsimp only at hSw); go_simp; try with_reducible rfl)
            simp only [Act.put, List.getElem_toArray, List.getElem_cons_zero, List.getElem_cons_succ, List.setIfInBounds_toArray, List.set_cons_zero, List.set_cons_succ]
            refine wpAnyH_ready (rs := [23]) (by kernel_rfl) (by simp) ?_
            refine AllReadyH.cons rfl (fun K hK => ?_) ?_
            · go_simp
              go_at_call 20
              refine (may_any l s r A n c _ (hE.below hHeld.1)).mono ?_
              rintro e z4 ⟨rfl, hbq⟩
              dsimp only
              rw [hml.out]
              refine hK.out _ _ ?_ (fun hHeld => ?_)
              · (try dsimp only)
                exact keepS.out _ _ hHeld hbq
              clear hK K
              try simp only [Act.put, List.getElem_toArray, List.getElem_cons_zero, List.getElem_cons_succ, List.setIfInBounds_toArray, List.set_cons_zero, List.set_cons_succ]
              refine tkY 26 (v := ?v109) rfl (.inl ⟨by rfl, ?hy109⟩) ?hr109
              case hy109 => (intro w hSw; (try dsimp only at hSw); go_simp; try with_reducible rfl)
              simp only [Act.put, List.getElem_toArray, List.getElem_cons_zero, List.getElem_cons_succ, List.setIfInBounds_toArray, List.set_cons_zero, List.set_cons_succ]
              refine tkY 27 (v := ?v110) rfl (.inl ⟨by rfl, ?hy110⟩) ?hr110
              case hy110 => (intro w hSw; (try dsimp only at hSw); go_simp; try with_reducible rfl)
              simp only [Act.put, List.getElem_toArray, List.getElem_cons_zero, List.getElem_cons_succ, List.setIfInBounds_toArray, List.set_cons_zero, List.set_cons_succ]
              refine tkY 28 (v := ?v111) rfl (.inl ⟨by rfl, ?hy111⟩) ?hr111
              case hy111 => (intro w hSw; (try dsimp only at hSw); go_simp; try with_reducible rfl)
              simp only [Act.put, List.getElem_toArray, List.getElem_cons_zero, List.getElem_cons_succ, List.setIfInBounds_toArray, List.set_cons_zero, List.set_cons_succ]
              refine wpAnyH_ready (rs := [29]) (by kernel_rfl) (by simp) ?_
              refine AllReadyH.cons rfl (fun K hK => ?_) ?_
              · go_simp
                go_at_call 10
                refine (lives_any _).mono ?_
                rintro e z5 ⟨rfl, hbq⟩
                dsimp only
                refine hK.out _ _ ?_ (fun hHeld => ?_)
                · (try dsimp only)
                  exact keepS.out _ _ hHeld hbq
                clear hK K
                try simp only [Act.put, List.getElem_toArray, List.getElem_cons_zero, List.getElem_cons_succ, List.setIfInBounds_toArray, List.set_cons_zero, List.set_cons_succ]
                refine tkY 30 (v := ?v112) rfl (.inl ⟨by rfl, ?hy112⟩) ?hr112
                case hy112 => (intro w hSw; (try dsimp only at hSw); go_simp; try with_reducible rfl)
                simp only [Act.put, List.getElem_toArray, List.getElem_cons_zero, List.getElem_cons_succ, List.setIfInBounds_toArray, List.set_cons_zero, List.set_cons_succ]
                refine tkY 31 (v := ?v113) rfl (.inl ⟨by rfl, ?hy113⟩) ?hr113
                case hy113 => (intro w hSw; (try dsimp only at hSw); go_simp; try with_reducible rfl)
                simp only [Act.put, List.getElem_toArray, List.getElem_cons_zero, List.getElem_cons_succ, List.setIfInBounds_toArray, List.set_cons_zero, List.set_cons_succ]
                refine wpAnyH_done (by kernel_rfl) ?_ _
                have hbz := hbw.trans (hHeld.1.mono hbw.size)
                clear hHeld hS1 keepS
                repeat' ((fail_if_success at_builtin); (first | go_skip | go_guarded | go_step))
                go_ret
                exact ⟨rfl, hbz⟩
              exact AllReadyH.nil
            exact AllReadyH.nil
          exact AllReadyH.nil
        exact AllReadyH.nil
      exact AllReadyH.nil
end Go.Proofs.YtennhjkhjplmoaaDoor
