/- Deploy: the document's Lock. -/
import Derived.Test.YtennhjkhjplmoaaDoorDpAp
import Derived.Test.YtennhjkhjplmoaaDoorHk
namespace Go.Proofs.YtennhjkhjplmoaaDoor
open Go.RowKit
set_option maxRecDepth 100000 in
set_option maxHeartbeats 6000000 in
theorem rlock_any (l : List Env) (s : ByteArray) (r : Ref) (A : Option Addr) (n c : Nat) (w : World) (h : Envs w A n c l) :
    Calls Tryd.prog 19 #[.slice A n c, .string s, .agg #[.string r.run, .string r.job]] w (RetL w (lockL l s r)) := by
  go_enter Tryd.func19, Tryd.ntmps19
  have hl := h.len
  go_upto_region 1 with (fail)
  generalize hx_ : World.alloc w _ = wo1
  have hO1 : OwnB w wo1 [(w.heap.size, [.string r.run, .string r.job])] := by rw [← hx_]; exact (OwnB.refl w).new #[.string r.run, .string r.job] _ (g := w.heap.size)
  have hbn : Below w.heap.size w wo1 := by rw [← hx_]; exact (Below.refl _ _).alloc (Nat.le_refl _) _
  have zwo1 : w.heap.size + 0 < wo1.heap.size := by rw [← hx_]; simp <;> omega
  clear hx_
  have c0_0 : wo1.cell? ⟨w.heap.size, 0, none⟩ = some (.string r.run) := hO1.c 0 0
  have c0_1 : wo1.cell? ⟨w.heap.size, 1, none⟩ = some (.string r.job) := hO1.c 0 1
  have cf0 := hO1.fr 0
  clear hbn
  have hm0 : lockL l s r = match l[posA (nameE s) l]? with
    | none => (l, (8 : Int))
    | some x => if hasR x.waiting r = false then (l, (8 : Int)) else if eqR x.holder zR = false then (l, (19 : Int)) else if headR x.waiting r = false then (l, (22 : Int)) else (l.set (posA (nameE s) l) (lockE r x), (0 : Int)) := rfl
  have C := rindex_any l s A n c wo1 (h.below hO1.below)
  by_cases hk : posA (nameE s) l < l.length
  · rw [posI_in hk] at C
    obtain ⟨x, hx⟩ : ∃ x, l[posA (nameE s) l]? = some x := ⟨_, List.getElem?_eq_getElem hk⟩
    rw [hx] at hm0
    dsimp only at hm0
    have hxW := h.each x (List.mem_of_getElem? hx)
    have hxw := hxW.wait
    have hk2 : posA (nameE s) l < n := by rw [← h.n]; exact hk
    obtain ⟨g, o, A1, c1, A2, c2, rfl, hg, hS⟩ := env_at h.rd hx
    clear hx
    generalize posA (nameE s) l = k at *
    have i0 : (0 : Int) ≤ (k : Int) := by omega
    have i1 : (k : Int) < (n : Int) := by omega
    have i3 : ¬ (k : Int) < 0 := by omega
    have i4 : (0 : Int) ≤ (k : Int) := by omega
    obtain ⟨q, hq⟩ : ∃ q, q = posI (fun x => eqR x r) x.waiting := ⟨_, rfl⟩
    have hqh := posI_has x.waiting r
    have hq0 := posI_head x.waiting r
    rw [← hq] at hqh hq0
    replace hq := Lib.hid hq
    replace C := Lib.hid C
    repeat' ((fail_if_success at_builtin); (first | go_skip | go_guarded | go_step))
    refine C.out.mono ?_
    clear C
    rintro e w2 ⟨rfl, hw2⟩
    subst w2
    dsimp only
    have hbS := hO1.below
    have hT := hS.below hg hbS
    have e1 := hT.e1
    have e2 := hT.e2
    have e3 := hT.e3
    have hgl : g < wo1.heap.size := Nat.lt_of_lt_of_le hg hbS.size
    have hpl : w.heap.size < wo1.heap.size := hO1.lt 0
    clear hT
    rw [← hqh, ← hq0] at hm0
    clear hqh hq0
    by_cases hq1 : 0 ≤ q
    · have hq2 : ¬ q < 0 := by omega
      rw [decide_eq_true hq1, if_neg (by simp)] at hm0
      have hS0 : (Below wo1.heap.size wo1 wo1 ∧ wo1.cell? ⟨g, o + k * 5 + 3, none⟩ = some (.slice A1 x.waiting.length c1) ∧ wo1.cell? ⟨w.heap.size, 0, none⟩ = some (.string r.run) ∧ wo1.cell? ⟨w.heap.size, 1, none⟩ = some (.string r.job)) := ⟨Below.refl _ _, e3, c0_0, c0_1⟩
      have keepS : ∀ v1 v2 : World, (Below wo1.heap.size wo1 v1 ∧ v1.cell? ⟨g, o + k * 5 + 3, none⟩ = some (.slice A1 x.waiting.length c1) ∧ v1.cell? ⟨w.heap.size, 0, none⟩ = some (.string r.run) ∧ v1.cell? ⟨w.heap.size, 1, none⟩ = some (.string r.job)) → Below v1.heap.size v1 v2 → (Below wo1.heap.size wo1 v2 ∧ v2.cell? ⟨g, o + k * 5 + 3, none⟩ = some (.slice A1 x.waiting.length c1) ∧ v2.cell? ⟨w.heap.size, 0, none⟩ = some (.string r.run) ∧ v2.cell? ⟨w.heap.size, 1, none⟩ = some (.string r.job)) := fun v1 v2 h hb => ⟨h.1.trans (hb.mono h.1.size), (hb.cell (p := ⟨g, _, none⟩) (Nat.lt_of_lt_of_le hgl h.1.size)).trans h.2.1, (hb.cell (p := ⟨w.heap.size, _, none⟩) (Nat.lt_of_lt_of_le hpl h.1.size)).trans h.2.2.1, (hb.cell (p := ⟨w.heap.size, _, none⟩) (Nat.lt_of_lt_of_le hpl h.1.size)).trans h.2.2.2⟩
      have hS1 : (Below wo1.heap.size wo1 wo1.drew ∧ wo1.drew.cell? ⟨g, o + k * 5 + 3, none⟩ = some (.slice A1 x.waiting.length c1) ∧ wo1.drew.cell? ⟨w.heap.size, 0, none⟩ = some (.string r.run) ∧ wo1.drew.cell? ⟨w.heap.size, 1, none⟩ = some (.string r.job)) := keepS _ _ hS0 ((Below.refl _ _).drew)
      replace keepS := Lib.hid keepS
      clear hS0
      go_upto_region 2 with (fail)
      refine wp_region_held_drew (S := fun w' => Below wo1.heap.size wo1 w' ∧ w'.cell? ⟨g, o + k * 5 + 3, none⟩ = some (.slice A1 x.waiting.length c1) ∧ w'.cell? ⟨w.heap.size, 0, none⟩ = some (.string r.run) ∧ w'.cell? ⟨w.heap.size, 1, none⟩ = some (.string r.job)) (by kernel_rfl) ?_ (fun hHeld => ?_)
      · (try dsimp only)
        exact hS1
      refine tkY 0 (v := ?v116) rfl (.inl ⟨by rfl, ?hy116⟩) ?hr116
      case hy116 => (intro w hSw; (try dsimp only at hSw); go_simp; try with_reducible rfl)
      simp only [Act.put, List.getElem_toArray, List.getElem_cons_zero, List.setIfInBounds_toArray, List.set_cons_zero, List.set_cons_succ]
      refine tkY 1 (v := ?v117) rfl (.inl ⟨by rfl, ?hy117⟩) ?hr117
      case hy117 => (intro w hSw; (try dsimp only at hSw); go_simp; try with_reducible rfl)
      simp only [Act.put, List.getElem_toArray, List.getElem_cons_zero, List.getElem_cons_succ, List.setIfInBounds_toArray, List.set_cons_zero, List.set_cons_succ]
      refine tkY 2 (v := ?v118) rfl (.inl ⟨by rfl, ?hy118⟩) ?hr118
      case hy118 => (intro w hSw; (try dsimp only at hSw); go_simp; try with_reducible rfl)
      simp only [Act.put, List.getElem_toArray, List.getElem_cons_zero, List.getElem_cons_succ, List.setIfInBounds_toArray, List.set_cons_zero, List.set_cons_succ]
      refine tkY 3 (v := ?v119) rfl (.inl ⟨by rfl, ?hy119⟩) ?hr119
      case hy119 => (intro w hSw; (try dsimp only at hSw); go_simp; try with_reducible rfl)
      simp only [Act.put, List.getElem_toArray, List.getElem_cons_zero, List.getElem_cons_succ, List.setIfInBounds_toArray, List.set_cons_zero, List.set_cons_succ]
      refine tkY 4 (v := ?v120) rfl (.inl ⟨by rfl, ?hy120⟩) ?hr120
      case hy120 => (intro w hSw; (try dsimp only at hSw); go_simp; try with_reducible rfl)
      simp only [Act.put, List.getElem_toArray, List.getElem_cons_zero, List.getElem_cons_succ, List.setIfInBounds_toArray, List.set_cons_zero, List.set_cons_succ]
      refine tkY 5 (v := ?v121) rfl (.inl ⟨by rfl, ?hy121⟩) ?hr121
      case hy121 => (intro w hSw; (try dsimp only at hSw); go_simp; try with_reducible rfl)
      simp only [Act.put, List.getElem_toArray, List.getElem_cons_zero, List.getElem_cons_succ, List.setIfInBounds_toArray, List.set_cons_zero, List.set_cons_succ]
      refine tkY 6 (v := ?v122) rfl (.inl ⟨by rfl, ?hy122⟩) ?hr122
      case hy122 => (intro w hSw; (try dsimp only at hSw); go_simp; try with_reducible rfl)
      simp only [Act.put, List.getElem_toArray, List.getElem_cons_zero, List.getElem_cons_succ, List.setIfInBounds_toArray, List.set_cons_zero, List.set_cons_succ]
      refine tkY 7 (v := ?v123) rfl (.inl ⟨by rfl, ?hy123⟩) ?hr123
      case hy123 => (intro w hSw; (try dsimp only at hSw); go_simp; try with_reducible rfl)
      simp only [Act.put, List.getElem_toArray, List.getElem_cons_zero, List.getElem_cons_succ, List.setIfInBounds_toArray, List.set_cons_zero, List.set_cons_succ]
      refine tkY 8 (v := ?v124) rfl (.inl ⟨by rfl, ?hy124⟩) ?hr124
      case hy124 => (intro w hSw; (try dsimp only at hSw); go_simp; try with_reducible rfl)
      simp only [Act.put, List.getElem_toArray, List.getElem_cons_zero, List.getElem_cons_succ, List.setIfInBounds_toArray, List.set_cons_zero, List.set_cons_succ]
      refine wpAnyH_ready (rs := [9]) (by kernel_rfl) (by simp) ?_
      refine AllReadyH.cons rfl (fun K hK => ?_) AllReadyH.nil
      go_simp
      go_at_call 46
      have hbh := hbS.trans (hHeld.1.mono hbS.size)
      have CJ := place_any x.waiting r A1 x.waiting.length c1 _ ⟨(hS.wait.below rRef_ok hbh).more rRef_ok (fun _ hp => Nat.lt_of_lt_of_le hp hbh.size), hxw⟩
      rw [← hq.out] at CJ
      refine CJ.mono ?_
      clear CJ
      rintro e r9 ⟨rfl, hbq⟩
      dsimp only
      refine hK.out _ _ ?_ (fun hHeld => ?_)
      · (try dsimp only)
        exact keepS.out _ _ hHeld hbq
      clear hK K
      try simp only [Act.put, List.getElem_toArray, List.getElem_cons_zero, List.getElem_cons_succ, List.setIfInBounds_toArray, List.set_cons_zero, List.set_cons_succ]
      refine tkY 10 (v := ?v125) rfl (.inl ⟨by rfl, ?hy125⟩) ?hr125
      case hy125 => (intro w hSw; (try dsimp only at hSw); go_simp; try with_reducible rfl)
      simp only [Act.put, List.getElem_toArray, List.getElem_cons_zero, List.getElem_cons_succ, List.setIfInBounds_toArray, List.set_cons_zero, List.set_cons_succ]
      refine tkY 11 (v := ?v126) rfl (.inl ⟨by rfl, ?hy126⟩) ?hr126
      case hy126 => (intro w hSw; (try dsimp only at hSw); go_simp; try with_reducible rfl)
      simp only [Act.put, List.getElem_toArray, List.getElem_cons_zero, List.getElem_cons_succ, List.setIfInBounds_toArray, List.set_cons_zero, List.set_cons_succ]
      refine wpAnyH_done (by kernel_rfl) ?_ _
      have hbW := hHeld.1
      clear hHeld hS1 keepS
      have hbz1 := hbS.trans (hbW.mono hbS.size)
      replace hbW := Lib.hid hbW
      clear e1 e2 e3 hgl hpl hbS
      have zr9 := hbW.out.size
      have hO2 : OwnB w r9 [(w.heap.size, [.string r.run, .string r.job])] := hO1.kept hbW.out
      clear c0_0 c0_1 cf0 hO1
      have c0_0 : r9.cell? ⟨w.heap.size, 0, none⟩ = some (.string r.run) := hO2.c 0 0
      have c0_1 : r9.cell? ⟨w.heap.size, 1, none⟩ = some (.string r.job) := hO2.c 0 1
      have cf0 := hO2.fr 0
      have hbS := hO2.below
      have hT := hS.below hg hbS
      have e1 := hT.e1
      have e2 := hT.e2
      have e3 := hT.e3
      have hgl : g < r9.heap.size := Nat.lt_of_lt_of_le hg hbS.size
      have hpl : w.heap.size < r9.heap.size := hO2.lt 0
      clear hT
      have qE1 := qE_R x.holder zR
      cases hz : eqR x.holder zR with
      | false =>
        rw [hz, if_pos rfl] at hm0
        simp only [hz] at qE1
        replace hm0 := Lib.hid hm0
        repeat' ((fail_if_success at_builtin); (first | ((with_reducible show wpList _ _ _ _ _ _); first | refine wpList_eqS rfl rfl rfl rfl (by first | exact qE1 _ | exact qE2 _ | exact qE3 _ | exact qE4 _) (by kernel_rfl) ?_ | refine wpList_neS rfl rfl rfl rfl (by first | exact qE1 _ | exact qE2 _ | exact qE3 _ | exact qE4 _) (by kernel_rfl) ?_) | go_skip | go_guarded | go_step))
        go_ret2
        rw [hm0.out]
        exact RetL.same h hbS 19
      | true =>
        rw [hz, if_neg (by simp)] at hm0
        simp only [hz] at qE1
        clear hz
        by_cases hq3 : q = 0
        · skip
          have hw0 : 0 < x.waiting.length := head_drop (r := r) (by rw [← posI_head, ← hq.out, hq3]; rfl)
          have hm1 : lockL l s r = (l.set k (lockE r x), 0) := by rw [hm0, hq3]; rfl
          replace hm1 := Lib.hid hm1
          clear hm0
          subst hq3
          repeat' ((fail_if_success at_builtin); (first | ((with_reducible show wpList _ _ _ _ _ _); first | refine wpList_eqS rfl rfl rfl rfl (by first | exact qE1 _ | exact qE2 _ | exact qE3 _ | exact qE4 _) (by kernel_rfl) ?_ | refine wpList_neS rfl rfl rfl rfl (by first | exact qE1 _ | exact qE2 _ | exact qE3 _ | exact qE4 _) (by kernel_rfl) ?_) | go_skip | go_guarded | go_step))
          have hS0 : (Below r9.heap.size r9 r9 ∧ r9.cell? ⟨g, o + k * 5 + 3, none⟩ = some (.slice A1 x.waiting.length c1) ∧ r9.cell? ⟨w.heap.size, 0, none⟩ = some (.string r.run) ∧ r9.cell? ⟨w.heap.size, 1, none⟩ = some (.string r.job)) := ⟨Below.refl _ _, e3, c0_0, c0_1⟩
          have keepS : ∀ v1 v2 : World, (Below r9.heap.size r9 v1 ∧ v1.cell? ⟨g, o + k * 5 + 3, none⟩ = some (.slice A1 x.waiting.length c1) ∧ v1.cell? ⟨w.heap.size, 0, none⟩ = some (.string r.run) ∧ v1.cell? ⟨w.heap.size, 1, none⟩ = some (.string r.job)) → Below v1.heap.size v1 v2 → (Below r9.heap.size r9 v2 ∧ v2.cell? ⟨g, o + k * 5 + 3, none⟩ = some (.slice A1 x.waiting.length c1) ∧ v2.cell? ⟨w.heap.size, 0, none⟩ = some (.string r.run) ∧ v2.cell? ⟨w.heap.size, 1, none⟩ = some (.string r.job)) := fun v1 v2 h hb => ⟨h.1.trans (hb.mono h.1.size), (hb.cell (p := ⟨g, _, none⟩) (Nat.lt_of_lt_of_le hgl h.1.size)).trans h.2.1, (hb.cell (p := ⟨w.heap.size, _, none⟩) (Nat.lt_of_lt_of_le hpl h.1.size)).trans h.2.2.1, (hb.cell (p := ⟨w.heap.size, _, none⟩) (Nat.lt_of_lt_of_le hpl h.1.size)).trans h.2.2.2⟩
          have hS1 : (Below r9.heap.size r9 r9.drew ∧ r9.drew.cell? ⟨g, o + k * 5 + 3, none⟩ = some (.slice A1 x.waiting.length c1) ∧ r9.drew.cell? ⟨w.heap.size, 0, none⟩ = some (.string r.run) ∧ r9.drew.cell? ⟨w.heap.size, 1, none⟩ = some (.string r.job)) := keepS _ _ hS0 ((Below.refl _ _).drew)
          replace keepS := Lib.hid keepS
          clear hS0
          go_upto_region 6 with (fail)
          refine wp_region_held_drew (S := fun w' => Below r9.heap.size r9 w' ∧ w'.cell? ⟨g, o + k * 5 + 3, none⟩ = some (.slice A1 x.waiting.length c1) ∧ w'.cell? ⟨w.heap.size, 0, none⟩ = some (.string r.run) ∧ w'.cell? ⟨w.heap.size, 1, none⟩ = some (.string r.job)) (by kernel_rfl) ?_ (fun hHeld => ?_)
          · (try dsimp only)
            exact hS1
          refine tkY 0 (v := ?v127) rfl (.inl ⟨by rfl, ?hy127⟩) ?hr127
          case hy127 => (intro w hSw; (try dsimp only at hSw); go_simp; try with_reducible rfl)
          simp only [Act.put, List.getElem_toArray, List.getElem_cons_zero, List.setIfInBounds_toArray, List.set_cons_zero, List.set_cons_succ]
          refine tkY 1 (v := ?v128) rfl (.inl ⟨by rfl, ?hy128⟩) ?hr128
          case hy128 => (intro w hSw; (try dsimp only at hSw); go_simp; try with_reducible rfl)
          simp only [Act.put, List.getElem_toArray, List.getElem_cons_zero, List.getElem_cons_succ, List.setIfInBounds_toArray, List.set_cons_zero, List.set_cons_succ]
          refine tkY 2 (v := ?v129) rfl (.inl ⟨by rfl, ?hy129⟩) ?hr129
          case hy129 => (intro w hSw; (try dsimp only at hSw); go_simp; try with_reducible rfl)
          simp only [Act.put, List.getElem_toArray, List.getElem_cons_zero, List.getElem_cons_succ, List.setIfInBounds_toArray, List.set_cons_zero, List.set_cons_succ]
          refine tkY 3 (v := ?v130) rfl (.inl ⟨by rfl, ?hy130⟩) ?hr130
          case hy130 => (intro w hSw; (try dsimp only at hSw); go_simp; try with_reducible rfl)
          simp only [Act.put, List.getElem_toArray, List.getElem_cons_zero, List.getElem_cons_succ, List.setIfInBounds_toArray, List.set_cons_zero, List.set_cons_succ]
          refine tkY 4 (v := ?v131) rfl (.inl ⟨by rfl, ?hy131⟩) ?hr131
          case hy131 => (intro w hSw; (try dsimp only at hSw); go_simp; try with_reducible rfl)
          simp only [Act.put, List.getElem_toArray, List.getElem_cons_zero, List.getElem_cons_succ, List.setIfInBounds_toArray, List.set_cons_zero, List.set_cons_succ]
          refine tkY 5 (v := ?v132) rfl (.inl ⟨by rfl, ?hy132⟩) ?hr132
          case hy132 => (intro w hSw; (try dsimp only at hSw); go_simp; try with_reducible rfl)
          simp only [Act.put, List.getElem_toArray, List.getElem_cons_zero, List.getElem_cons_succ, List.setIfInBounds_toArray, List.set_cons_zero, List.set_cons_succ]
          refine wpAnyH_ready (rs := [6]) (by kernel_rfl) (by simp) ?_
          refine AllReadyH.cons rfl (fun K hK => ?_) AllReadyH.nil
          go_simp
          go_at_call 46
          have hbh := hbS.trans (hHeld.1.mono hbS.size)
          have CJ := place_any x.waiting r A1 x.waiting.length c1 _ ⟨(hS.wait.below rRef_ok hbh).more rRef_ok (fun _ hp => Nat.lt_of_lt_of_le hp hbh.size), hxw⟩
          rw [← hq.out] at CJ
          refine CJ.mono ?_
          clear CJ
          rintro e r8 ⟨rfl, hbq⟩
          dsimp only
          refine hK.out _ _ ?_ (fun hHeld => ?_)
          · (try dsimp only)
            exact keepS.out _ _ hHeld hbq
          clear hK K
          try simp only [Act.put, List.getElem_toArray, List.getElem_cons_zero, List.getElem_cons_succ, List.setIfInBounds_toArray, List.set_cons_zero, List.set_cons_succ]
          refine tkY 7 (v := ?v133) rfl (.inl ⟨by rfl, ?hy133⟩) ?hr133
          case hy133 => (intro w hSw; (try dsimp only at hSw); go_simp; try with_reducible rfl)
          simp only [Act.put, List.getElem_toArray, List.getElem_cons_zero, List.getElem_cons_succ, List.setIfInBounds_toArray, List.set_cons_zero, List.set_cons_succ]
          refine wpAnyH_done (by kernel_rfl) ?_ _
          have hbW := hHeld.1
          clear hHeld hS1 keepS
          replace hbW := Lib.hid hbW
          clear e1 e2 e3 hgl hpl hbS
          have zr8 := hbW.out.size
          have hO3 : OwnB w r8 [(w.heap.size, [.string r.run, .string r.job])] := hO2.kept hbW.out
          clear c0_0 c0_1 cf0 hO2
          have c0_0 : r8.cell? ⟨w.heap.size, 0, none⟩ = some (.string r.run) := hO3.c 0 0
          have c0_1 : r8.cell? ⟨w.heap.size, 1, none⟩ = some (.string r.job) := hO3.c 0 1
          have cf0 := hO3.fr 0
          have hbS := hO3.below
          have hT := hS.below hg hbS
          have e1 := hT.e1
          have e2 := hT.e2
          have e3 := hT.e3
          have hgl : g < r8.heap.size := Nat.lt_of_lt_of_le hg hbS.size
          have hpl : w.heap.size < r8.heap.size := hO3.lt 0
          clear hT
          have hT := hS.below hg hbS
          have e0 := hT.e0
          have e4 := hT.e4
          clear hT
          go_upto_region 9 with (fail)
          generalize hx_ : World.alloc r8 _ = wo4
          have hO4 : OwnB w wo4 [(r8.heap.size, [.string x.name, .string x.holder.run, .string x.holder.job, .slice A1 x.waiting.length c1, .slice A2 x.history.length c2]), (w.heap.size, [.string r.run, .string r.job])] := by rw [← hx_]; exact hO3.new #[.string x.name, .string x.holder.run, .string x.holder.job, .slice A1 x.waiting.length c1, .slice A2 x.history.length c2] _ (g := r8.heap.size)
          have hbn : Below r8.heap.size r8 wo4 := by rw [← hx_]; exact (Below.refl _ _).alloc (Nat.le_refl _) _
          have zwo4 : r8.heap.size + 0 < wo4.heap.size := by rw [← hx_]; simp <;> omega
          clear hx_ c0_0 c0_1 cf0 hO3
          have c0_0 : wo4.cell? ⟨r8.heap.size, 0, none⟩ = some (.string x.name) := hO4.c 0 0
          have c0_1 : wo4.cell? ⟨r8.heap.size, 1, none⟩ = some (.string x.holder.run) := hO4.c 0 1
          have c0_2 : wo4.cell? ⟨r8.heap.size, 2, none⟩ = some (.string x.holder.job) := hO4.c 0 2
          have c0_3 : wo4.cell? ⟨r8.heap.size, 3, none⟩ = some (.slice A1 x.waiting.length c1) := hO4.c 0 3
          have c0_4 : wo4.cell? ⟨r8.heap.size, 4, none⟩ = some (.slice A2 x.history.length c2) := hO4.c 0 4
          have cf0 := hO4.fr 0
          have c1_0 : wo4.cell? ⟨w.heap.size, 0, none⟩ = some (.string r.run) := hO4.c 1 0
          have c1_1 : wo4.cell? ⟨w.heap.size, 1, none⟩ = some (.string r.job) := hO4.c 1 1
          have cf1 := hO4.fr 1
          clear hbn
          clear e0 e1 e2 e3 e4 hgl hpl hbS qE1
          go_upto_region 10 with (fail)
          generalize hx_ : World.setCell (World.setCell _ _ _) _ _ = wo5
          have hO5 : OwnB w wo5 [(r8.heap.size, [.string x.name, .string r.run, .string r.job, .slice A1 x.waiting.length c1, .slice A2 x.history.length c2]), (w.heap.size, [.string r.run, .string r.job])] := by rw [← hx_]; exact (hO4.store 0 rfl 1 _).store 0 rfl 2 _
          have zwo5 : wo4.heap.size ≤ wo5.heap.size := by rw [← hx_]; simp [World.setCell]
          clear hx_ c0_0 c0_1 c0_2 c0_3 c0_4 cf0 c1_0 c1_1 cf1 hO4
          have c0_0 : wo5.cell? ⟨r8.heap.size, 0, none⟩ = some (.string x.name) := hO5.c 0 0
          have c0_1 : wo5.cell? ⟨r8.heap.size, 1, none⟩ = some (.string r.run) := hO5.c 0 1
          have c0_2 : wo5.cell? ⟨r8.heap.size, 2, none⟩ = some (.string r.job) := hO5.c 0 2
          have c0_3 : wo5.cell? ⟨r8.heap.size, 3, none⟩ = some (.slice A1 x.waiting.length c1) := hO5.c 0 3
          have c0_4 : wo5.cell? ⟨r8.heap.size, 4, none⟩ = some (.slice A2 x.history.length c2) := hO5.c 0 4
          have cf0 := hO5.fr 0
          have c1_0 : wo5.cell? ⟨w.heap.size, 0, none⟩ = some (.string r.run) := hO5.c 1 0
          have c1_1 : wo5.cell? ⟨w.heap.size, 1, none⟩ = some (.string r.job) := hO5.c 1 1
          have cf1 := hO5.fr 1
          have hbS := hO5.below
          have hR0 := OwnR.empty (r := rRef) (sz := 2) wo5 refT
          have hba := (Below.refl wo5.heap.size wo5).alloc (Nat.le_refl _) (.cells #[] refT)
          have hby : (([] : List Ref).length + (x.waiting.length - 1)) * 32 ≤ 140737488355328 := by simp; omega
          have hws := hbS.size
          have hbB := Lib.hid hbS
          have hxs := ((hS.wait.below rRef_ok (hbS.trans (hba.mono hws))).more rRef_ok (S' := fun b => b < (wo5.alloc (.cells #[] refT)).heap.size) (fun b hb => Nat.lt_of_lt_of_le hb (Nat.le_trans hws hba.size))).drop (i := 1) (by omega)
          have hcc : x.waiting.length ≤ c1 := hS.wait.2.1
          have hxs2 := ((hS.wait.drop' (i := 1) (by omega)).below rRef_ok (hbS.trans (hba.mono hws))).more rRef_ok (S' := Beh (wo5.alloc (.cells #[] refT)) (.slice (some ⟨wo5.heap.size, 0, none⟩) 0 0)) (fun b hb => beh_old hR0 (Nat.lt_of_lt_of_le hb hws))
          replace hxs2 := Lib.hid hxs2
          clear hxs
          have j1 : (1 : Int) ≤ (x.waiting.length : Int) := by omega
          have j2 : (1 : Int) ≤ (c1 : Int) := by omega
          have j3 : (x.waiting.length : Int) ≤ (c1 : Int) := by omega
          have hm_ : ∀ ob, OwnB w (wo5.alloc ob) [(r8.heap.size, [.string x.name, .string r.run, .string r.job, .slice A1 x.waiting.length c1, .slice A2 x.history.length c2]), (w.heap.size, [.string r.run, .string r.job])] := fun ob => hO5.kept ((Below.refl _ _).alloc (Nat.le_refl _) _)
          have m0_0 : ∀ ob, (wo5.alloc ob).cell? ⟨r8.heap.size, 0, none⟩ = some (.string x.name) := fun ob => (hm_ ob).c 0 0
          have m0_1 : ∀ ob, (wo5.alloc ob).cell? ⟨r8.heap.size, 1, none⟩ = some (.string r.run) := fun ob => (hm_ ob).c 0 1
          have m0_2 : ∀ ob, (wo5.alloc ob).cell? ⟨r8.heap.size, 2, none⟩ = some (.string r.job) := fun ob => (hm_ ob).c 0 2
          have m0_3 : ∀ ob, (wo5.alloc ob).cell? ⟨r8.heap.size, 3, none⟩ = some (.slice A1 x.waiting.length c1) := fun ob => (hm_ ob).c 0 3
          have m0_4 : ∀ ob, (wo5.alloc ob).cell? ⟨r8.heap.size, 4, none⟩ = some (.slice A2 x.history.length c2) := fun ob => (hm_ ob).c 0 4
          have mf0 : ∀ ob j, (wo5.alloc ob).frozen? ⟨r8.heap.size, j, none⟩ = false := fun ob => (hm_ ob).fr 0
          have m1_0 : ∀ ob, (wo5.alloc ob).cell? ⟨w.heap.size, 0, none⟩ = some (.string r.run) := fun ob => (hm_ ob).c 1 0
          have m1_1 : ∀ ob, (wo5.alloc ob).cell? ⟨w.heap.size, 1, none⟩ = some (.string r.job) := fun ob => (hm_ ob).c 1 1
          have mf1 : ∀ ob j, (wo5.alloc ob).frozen? ⟨w.heap.size, j, none⟩ = false := fun ob => (hm_ ob).fr 1
          clear hm_
          repeat' ((fail_if_success at_builtin); (first | go_skip | go_guarded | go_step))
          refine wp_appRS rRef_ok rRef_one hR0 (Below.refl _ _) hxs2.out Tryd.underlying58 ref_info hby ?_
          intro v4 w4 hR4
          rw [List.nil_append] at hR4
          obtain ⟨A4, c4, rfl⟩ := hR4.form
          have hb4 := hR4.bel
          clear hR0 hba hxs2 hby hbS
          clear m0_0 m0_1 m0_2 m0_3 m0_4 mf0 m1_0 m1_1 mf1
          have zw4 := hb4.size
          have hO6 : OwnB w w4 [(r8.heap.size, [.string x.name, .string r.run, .string r.job, .slice A1 x.waiting.length c1, .slice A2 x.history.length c2]), (w.heap.size, [.string r.run, .string r.job])] := hO5.kept hb4
          clear c0_0 c0_1 c0_2 c0_3 c0_4 cf0 c1_0 c1_1 cf1 hO5
          have c0_0 : w4.cell? ⟨r8.heap.size, 0, none⟩ = some (.string x.name) := hO6.c 0 0
          have c0_1 : w4.cell? ⟨r8.heap.size, 1, none⟩ = some (.string r.run) := hO6.c 0 1
          have c0_2 : w4.cell? ⟨r8.heap.size, 2, none⟩ = some (.string r.job) := hO6.c 0 2
          have c0_3 : w4.cell? ⟨r8.heap.size, 3, none⟩ = some (.slice A1 x.waiting.length c1) := hO6.c 0 3
          have c0_4 : w4.cell? ⟨r8.heap.size, 4, none⟩ = some (.slice A2 x.history.length c2) := hO6.c 0 4
          have cf0 := hO6.fr 0
          have c1_0 : w4.cell? ⟨w.heap.size, 0, none⟩ = some (.string r.run) := hO6.c 1 0
          have c1_1 : w4.cell? ⟨w.heap.size, 1, none⟩ = some (.string r.job) := hO6.c 1 1
          have cf1 := hO6.fr 1
          have hld : (List.drop 1 x.waiting).length = x.waiting.length - 1 := by simp
          (try rw [hld] at hR4)
          replace hld := Lib.hid hld
          go_upto_region 11 with (fail)
          have hne : Value.ownBlock (.slice A4 (x.waiting.length - 1) c4) ≠ some (r8.heap.size) := fun e => by
            obtain ⟨cs, HH, _⟩ := hR4
            have := (HH.1.lt _ e).1
            omega
          have hR5 := (OwnR.up (w1 := wo5) hbB.out hR4).farSet (xb := r8.heap.size) (o := 3) (u := .slice A4 (x.waiting.length - 1) c4) rRef_ok hne (by omega) (fun x c h => h)
          generalize hx_ : World.setCell _ _ _ = wo7
          rw [hx_] at hR5
          have hO7 : OwnB w wo7 [(r8.heap.size, [.string x.name, .string r.run, .string r.job, .slice A4 (x.waiting.length - 1) c4, .slice A2 x.history.length c2]), (w.heap.size, [.string r.run, .string r.job])] := by rw [← hx_]; exact hO6.store 0 rfl 3 _
          have zwo7 : w4.heap.size ≤ wo7.heap.size := by rw [← hx_]; simp [World.setCell]
          clear hx_ c0_0 c0_1 c0_2 c0_3 c0_4 cf0 c1_0 c1_1 cf1 hO6
          have c0_0 : wo7.cell? ⟨r8.heap.size, 0, none⟩ = some (.string x.name) := hO7.c 0 0
          have c0_1 : wo7.cell? ⟨r8.heap.size, 1, none⟩ = some (.string r.run) := hO7.c 0 1
          have c0_2 : wo7.cell? ⟨r8.heap.size, 2, none⟩ = some (.string r.job) := hO7.c 0 2
          have c0_3 : wo7.cell? ⟨r8.heap.size, 3, none⟩ = some (.slice A4 (x.waiting.length - 1) c4) := hO7.c 0 3
          have c0_4 : wo7.cell? ⟨r8.heap.size, 4, none⟩ = some (.slice A2 x.history.length c2) := hO7.c 0 4
          have cf0 := hO7.fr 0
          have c1_0 : wo7.cell? ⟨w.heap.size, 0, none⟩ = some (.string r.run) := hO7.c 1 0
          have c1_1 : wo7.cell? ⟨w.heap.size, 1, none⟩ = some (.string r.job) := hO7.c 1 1
          have cf1 := hO7.fr 1
          have hbS := hO7.below
          have hs5 : RSlice rRef 2 wo7 (fun b => b < wo7.heap.size) A4 (List.drop 1 x.waiting).length c4 (List.drop 1 x.waiting) := by
            have h9 := hR5
            rw [← hld.out] at h9
            exact h9.slice rRef_ok
          have C := with_any l (lockE r x) A4 c4 A2 c2 k (some ⟨g, o, none⟩) n c wo7 (h.below hbS) hk hs5 ((hS.hist.below rDep_ok hbS).more rDep_ok (fun _ hp => Nat.lt_of_lt_of_le hp hbS.size))
          rw [show (lockE r x).waiting.length = x.waiting.length - 1 from hld.out] at C
          replace C := Lib.hid C
          replace hbS := Lib.hid hbS
          clear hR4 hR5 hs5 hne
          repeat' ((fail_if_success at_builtin); (first | go_skip | go_guarded | go_step))
          refine C.out.mono ?_
          clear C
          rintro e w9 ⟨A', n', c', rfl, hb9, hs9⟩
          dsimp only
          have hbz := hbS.out.trans (hb9.mono hbS.out.size)
          replace hs9 := Lib.hid hs9
          replace hbz := Lib.hid hbz
          repeat' ((fail_if_success at_builtin); (first | go_skip | go_guarded | go_step))
          go_ret2
          rw [hm1.out]
          exact ⟨_, _, _, rfl, hbz.out, hs9.out⟩
        · have hm1 : lockL l s r = (l, 22) := by rw [hm0, if_pos (beq_false_of_ne hq3)]
          have hq4 : 0 < q := by omega
          replace hm1 := Lib.hid hm1
          clear hm0
          repeat' ((fail_if_success at_builtin); (first | ((with_reducible show wpList _ _ _ _ _ _); first | refine wpList_eqS rfl rfl rfl rfl (by first | exact qE1 _ | exact qE2 _ | exact qE3 _ | exact qE4 _) (by kernel_rfl) ?_ | refine wpList_neS rfl rfl rfl rfl (by first | exact qE1 _ | exact qE2 _ | exact qE3 _ | exact qE4 _) (by kernel_rfl) ?_) | go_skip | go_guarded | go_step))
          have hS0 : (Below r9.heap.size r9 r9 ∧ r9.cell? ⟨g, o + k * 5 + 3, none⟩ = some (.slice A1 x.waiting.length c1) ∧ r9.cell? ⟨w.heap.size, 0, none⟩ = some (.string r.run) ∧ r9.cell? ⟨w.heap.size, 1, none⟩ = some (.string r.job)) := ⟨Below.refl _ _, e3, c0_0, c0_1⟩
          have keepS : ∀ v1 v2 : World, (Below r9.heap.size r9 v1 ∧ v1.cell? ⟨g, o + k * 5 + 3, none⟩ = some (.slice A1 x.waiting.length c1) ∧ v1.cell? ⟨w.heap.size, 0, none⟩ = some (.string r.run) ∧ v1.cell? ⟨w.heap.size, 1, none⟩ = some (.string r.job)) → Below v1.heap.size v1 v2 → (Below r9.heap.size r9 v2 ∧ v2.cell? ⟨g, o + k * 5 + 3, none⟩ = some (.slice A1 x.waiting.length c1) ∧ v2.cell? ⟨w.heap.size, 0, none⟩ = some (.string r.run) ∧ v2.cell? ⟨w.heap.size, 1, none⟩ = some (.string r.job)) := fun v1 v2 h hb => ⟨h.1.trans (hb.mono h.1.size), (hb.cell (p := ⟨g, _, none⟩) (Nat.lt_of_lt_of_le hgl h.1.size)).trans h.2.1, (hb.cell (p := ⟨w.heap.size, _, none⟩) (Nat.lt_of_lt_of_le hpl h.1.size)).trans h.2.2.1, (hb.cell (p := ⟨w.heap.size, _, none⟩) (Nat.lt_of_lt_of_le hpl h.1.size)).trans h.2.2.2⟩
          have hS1 : (Below r9.heap.size r9 r9.drew ∧ r9.drew.cell? ⟨g, o + k * 5 + 3, none⟩ = some (.slice A1 x.waiting.length c1) ∧ r9.drew.cell? ⟨w.heap.size, 0, none⟩ = some (.string r.run) ∧ r9.drew.cell? ⟨w.heap.size, 1, none⟩ = some (.string r.job)) := keepS _ _ hS0 ((Below.refl _ _).drew)
          replace keepS := Lib.hid keepS
          clear hS0
          go_upto_region 6 with (fail)
          refine wp_region_held_drew (S := fun w' => Below r9.heap.size r9 w' ∧ w'.cell? ⟨g, o + k * 5 + 3, none⟩ = some (.slice A1 x.waiting.length c1) ∧ w'.cell? ⟨w.heap.size, 0, none⟩ = some (.string r.run) ∧ w'.cell? ⟨w.heap.size, 1, none⟩ = some (.string r.job)) (by kernel_rfl) ?_ (fun hHeld => ?_)
          · (try dsimp only)
            exact hS1
          refine tkY 0 (v := ?v134) rfl (.inl ⟨by rfl, ?hy134⟩) ?hr134
          case hy134 => (intro w hSw; (try dsimp only at hSw); go_simp; try with_reducible rfl)
          simp only [Act.put, List.getElem_toArray, List.getElem_cons_zero, List.setIfInBounds_toArray, List.set_cons_zero, List.set_cons_succ]
          refine tkY 1 (v := ?v135) rfl (.inl ⟨by rfl, ?hy135⟩) ?hr135
          case hy135 => (intro w hSw; (try dsimp only at hSw); go_simp; try with_reducible rfl)
          simp only [Act.put, List.getElem_toArray, List.getElem_cons_zero, List.getElem_cons_succ, List.setIfInBounds_toArray, List.set_cons_zero, List.set_cons_succ]
          refine tkY 2 (v := ?v136) rfl (.inl ⟨by rfl, ?hy136⟩) ?hr136
          case hy136 => (intro w hSw; (try dsimp only at hSw); go_simp; try with_reducible rfl)
          simp only [Act.put, List.getElem_toArray, List.getElem_cons_zero, List.getElem_cons_succ, List.setIfInBounds_toArray, List.set_cons_zero, List.set_cons_succ]
          refine tkY 3 (v := ?v137) rfl (.inl ⟨by rfl, ?hy137⟩) ?hr137
          case hy137 => (intro w hSw; (try dsimp only at hSw); go_simp; try with_reducible rfl)
          simp only [Act.put, List.getElem_toArray, List.getElem_cons_zero, List.getElem_cons_succ, List.setIfInBounds_toArray, List.set_cons_zero, List.set_cons_succ]
          refine tkY 4 (v := ?v138) rfl (.inl ⟨by rfl, ?hy138⟩) ?hr138
          case hy138 => (intro w hSw; (try dsimp only at hSw); go_simp; try with_reducible rfl)
          simp only [Act.put, List.getElem_toArray, List.getElem_cons_zero, List.getElem_cons_succ, List.setIfInBounds_toArray, List.set_cons_zero, List.set_cons_succ]
          refine tkY 5 (v := ?v139) rfl (.inl ⟨by rfl, ?hy139⟩) ?hr139
          case hy139 => (intro w hSw; (try dsimp only at hSw); go_simp; try with_reducible rfl)
          simp only [Act.put, List.getElem_toArray, List.getElem_cons_zero, List.getElem_cons_succ, List.setIfInBounds_toArray, List.set_cons_zero, List.set_cons_succ]
          refine wpAnyH_ready (rs := [6]) (by kernel_rfl) (by simp) ?_
          refine AllReadyH.cons rfl (fun K hK => ?_) AllReadyH.nil
          go_simp
          go_at_call 46
          have hbh := hbS.trans (hHeld.1.mono hbS.size)
          have CJ := place_any x.waiting r A1 x.waiting.length c1 _ ⟨(hS.wait.below rRef_ok hbh).more rRef_ok (fun _ hp => Nat.lt_of_lt_of_le hp hbh.size), hxw⟩
          rw [← hq.out] at CJ
          refine CJ.mono ?_
          clear CJ
          rintro e r8 ⟨rfl, hbq⟩
          dsimp only
          refine hK.out _ _ ?_ (fun hHeld => ?_)
          · (try dsimp only)
            exact keepS.out _ _ hHeld hbq
          clear hK K
          try simp only [Act.put, List.getElem_toArray, List.getElem_cons_zero, List.getElem_cons_succ, List.setIfInBounds_toArray, List.set_cons_zero, List.set_cons_succ]
          refine tkY 7 (v := ?v140) rfl (.inl ⟨by rfl, ?hy140⟩) ?hr140
          case hy140 => (intro w hSw; (try dsimp only at hSw); go_simp; try with_reducible rfl)
          simp only [Act.put, List.getElem_toArray, List.getElem_cons_zero, List.getElem_cons_succ, List.setIfInBounds_toArray, List.set_cons_zero, List.set_cons_succ]
          refine wpAnyH_done (by kernel_rfl) ?_ _
          have hbW := hHeld.1
          clear hHeld hS1 keepS
          have hbz := hbS.trans (hbW.mono hbS.size)
          repeat' ((fail_if_success at_builtin); (first | ((with_reducible show wpList _ _ _ _ _ _); first | refine wpList_eqS rfl rfl rfl rfl (by first | exact qE1 _ | exact qE2 _ | exact qE3 _ | exact qE4 _) (by kernel_rfl) ?_ | refine wpList_neS rfl rfl rfl rfl (by first | exact qE1 _ | exact qE2 _ | exact qE3 _ | exact qE4 _) (by kernel_rfl) ?_) | go_skip | go_guarded | go_step))
          go_ret2
          rw [hm1.out]
          exact RetL.same h hbz 22
    · have hq2 : q < 0 := by omega
      rw [decide_eq_false hq1, if_pos rfl] at hm0
      replace hm0 := Lib.hid hm0
      have hS0 : (Below wo1.heap.size wo1 wo1 ∧ wo1.cell? ⟨g, o + k * 5 + 3, none⟩ = some (.slice A1 x.waiting.length c1) ∧ wo1.cell? ⟨w.heap.size, 0, none⟩ = some (.string r.run) ∧ wo1.cell? ⟨w.heap.size, 1, none⟩ = some (.string r.job)) := ⟨Below.refl _ _, e3, c0_0, c0_1⟩
      have keepS : ∀ v1 v2 : World, (Below wo1.heap.size wo1 v1 ∧ v1.cell? ⟨g, o + k * 5 + 3, none⟩ = some (.slice A1 x.waiting.length c1) ∧ v1.cell? ⟨w.heap.size, 0, none⟩ = some (.string r.run) ∧ v1.cell? ⟨w.heap.size, 1, none⟩ = some (.string r.job)) → Below v1.heap.size v1 v2 → (Below wo1.heap.size wo1 v2 ∧ v2.cell? ⟨g, o + k * 5 + 3, none⟩ = some (.slice A1 x.waiting.length c1) ∧ v2.cell? ⟨w.heap.size, 0, none⟩ = some (.string r.run) ∧ v2.cell? ⟨w.heap.size, 1, none⟩ = some (.string r.job)) := fun v1 v2 h hb => ⟨h.1.trans (hb.mono h.1.size), (hb.cell (p := ⟨g, _, none⟩) (Nat.lt_of_lt_of_le hgl h.1.size)).trans h.2.1, (hb.cell (p := ⟨w.heap.size, _, none⟩) (Nat.lt_of_lt_of_le hpl h.1.size)).trans h.2.2.1, (hb.cell (p := ⟨w.heap.size, _, none⟩) (Nat.lt_of_lt_of_le hpl h.1.size)).trans h.2.2.2⟩
      have hS1 : (Below wo1.heap.size wo1 wo1.drew ∧ wo1.drew.cell? ⟨g, o + k * 5 + 3, none⟩ = some (.slice A1 x.waiting.length c1) ∧ wo1.drew.cell? ⟨w.heap.size, 0, none⟩ = some (.string r.run) ∧ wo1.drew.cell? ⟨w.heap.size, 1, none⟩ = some (.string r.job)) := keepS _ _ hS0 ((Below.refl _ _).drew)
      replace keepS := Lib.hid keepS
      clear hS0
      go_upto_region 2 with (fail)
      refine wp_region_held_drew (S := fun w' => Below wo1.heap.size wo1 w' ∧ w'.cell? ⟨g, o + k * 5 + 3, none⟩ = some (.slice A1 x.waiting.length c1) ∧ w'.cell? ⟨w.heap.size, 0, none⟩ = some (.string r.run) ∧ w'.cell? ⟨w.heap.size, 1, none⟩ = some (.string r.job)) (by kernel_rfl) ?_ (fun hHeld => ?_)
      · (try dsimp only)
        exact hS1
      refine tkY 0 (v := ?v141) rfl (.inl ⟨by rfl, ?hy141⟩) ?hr141
      case hy141 => (intro w hSw; (try dsimp only at hSw); go_simp; try with_reducible rfl)
      simp only [Act.put, List.getElem_toArray, List.getElem_cons_zero, List.setIfInBounds_toArray, List.set_cons_zero, List.set_cons_succ]
      refine tkY 1 (v := ?v142) rfl (.inl ⟨by rfl, ?hy142⟩) ?hr142
      case hy142 => (intro w hSw; (try dsimp only at hSw); go_simp; try with_reducible rfl)
      simp only [Act.put, List.getElem_toArray, List.getElem_cons_zero, List.getElem_cons_succ, List.setIfInBounds_toArray, List.set_cons_zero, List.set_cons_succ]
      refine tkY 2 (v := ?v143) rfl (.inl ⟨by rfl, ?hy143⟩) ?hr143
      case hy143 => (intro w hSw; (try dsimp only at hSw); go_simp; try with_reducible rfl)
      simp only [Act.put, List.getElem_toArray, List.getElem_cons_zero, List.getElem_cons_succ, List.setIfInBounds_toArray, List.set_cons_zero, List.set_cons_succ]
      refine tkY 3 (v := ?v144) rfl (.inl ⟨by rfl, ?hy144⟩) ?hr144
      case hy144 => (intro w hSw; (try dsimp only at hSw); go_simp; try with_reducible rfl)
      simp only [Act.put, List.getElem_toArray, List.getElem_cons_zero, List.getElem_cons_succ, List.setIfInBounds_toArray, List.set_cons_zero, List.set_cons_succ]
      refine tkY 4 (v := ?v145) rfl (.inl ⟨by rfl, ?hy145⟩) ?hr145
      case hy145 => (intro w hSw; (try dsimp only at hSw); go_simp; try with_reducible rfl)
      simp only [Act.put, List.getElem_toArray, List.getElem_cons_zero, List.getElem_cons_succ, List.setIfInBounds_toArray, List.set_cons_zero, List.set_cons_succ]
      refine tkY 5 (v := ?v146) rfl (.inl ⟨by rfl, ?hy146⟩) ?hr146
      case hy146 => (intro w hSw; (try dsimp only at hSw); go_simp; try with_reducible rfl)
      simp only [Act.put, List.getElem_toArray, List.getElem_cons_zero, List.getElem_cons_succ, List.setIfInBounds_toArray, List.set_cons_zero, List.set_cons_succ]
      refine tkY 6 (v := ?v147) rfl (.inl ⟨by rfl, ?hy147⟩) ?hr147
      case hy147 => (intro w hSw; (try dsimp only at hSw); go_simp; try with_reducible rfl)
      simp only [Act.put, List.getElem_toArray, List.getElem_cons_zero, List.getElem_cons_succ, List.setIfInBounds_toArray, List.set_cons_zero, List.set_cons_succ]
      refine tkY 7 (v := ?v148) rfl (.inl ⟨by rfl, ?hy148⟩) ?hr148
      case hy148 => (intro w hSw; (try dsimp only at hSw); go_simp; try with_reducible rfl)
      simp only [Act.put, List.getElem_toArray, List.getElem_cons_zero, List.getElem_cons_succ, List.setIfInBounds_toArray, List.set_cons_zero, List.set_cons_succ]
      refine tkY 8 (v := ?v149) rfl (.inl ⟨by rfl, ?hy149⟩) ?hr149
      case hy149 => (intro w hSw; (try dsimp only at hSw); go_simp; try with_reducible rfl)
      simp only [Act.put, List.getElem_toArray, List.getElem_cons_zero, List.getElem_cons_succ, List.setIfInBounds_toArray, List.set_cons_zero, List.set_cons_succ]
      refine wpAnyH_ready (rs := [9]) (by kernel_rfl) (by simp) ?_
      refine AllReadyH.cons rfl (fun K hK => ?_) AllReadyH.nil
      go_simp
      go_at_call 46
      have hbh := hbS.trans (hHeld.1.mono hbS.size)
      have CJ := place_any x.waiting r A1 x.waiting.length c1 _ ⟨(hS.wait.below rRef_ok hbh).more rRef_ok (fun _ hp => Nat.lt_of_lt_of_le hp hbh.size), hxw⟩
      rw [← hq.out] at CJ
      refine CJ.mono ?_
      clear CJ
      rintro e r9 ⟨rfl, hbq⟩
      dsimp only
      refine hK.out _ _ ?_ (fun hHeld => ?_)
      · (try dsimp only)
        exact keepS.out _ _ hHeld hbq
      clear hK K
      try simp only [Act.put, List.getElem_toArray, List.getElem_cons_zero, List.getElem_cons_succ, List.setIfInBounds_toArray, List.set_cons_zero, List.set_cons_succ]
      refine tkY 10 (v := ?v150) rfl (.inl ⟨by rfl, ?hy150⟩) ?hr150
      case hy150 => (intro w hSw; (try dsimp only at hSw); go_simp; try with_reducible rfl)
      simp only [Act.put, List.getElem_toArray, List.getElem_cons_zero, List.getElem_cons_succ, List.setIfInBounds_toArray, List.set_cons_zero, List.set_cons_succ]
      refine tkY 11 (v := ?v151) rfl (.inl ⟨by rfl, ?hy151⟩) ?hr151
      case hy151 => (intro w hSw; (try dsimp only at hSw); go_simp; try with_reducible rfl)
      simp only [Act.put, List.getElem_toArray, List.getElem_cons_zero, List.getElem_cons_succ, List.setIfInBounds_toArray, List.set_cons_zero, List.set_cons_succ]
      refine wpAnyH_done (by kernel_rfl) ?_ _
      have hbW := hHeld.1
      clear hHeld hS1 keepS
      have hbz := hbS.trans (hbW.mono hbS.size)
      repeat' ((fail_if_success at_builtin); (first | ((with_reducible show wpList _ _ _ _ _ _); first | refine wpList_eqS rfl rfl rfl rfl (by first | exact qE1 _ | exact qE2 _ | exact qE3 _ | exact qE4 _) (by kernel_rfl) ?_ | refine wpList_neS rfl rfl rfl rfl (by first | exact qE1 _ | exact qE2 _ | exact qE3 _ | exact qE4 _) (by kernel_rfl) ?_) | go_skip | go_guarded | go_step))
      go_ret2
      rw [hm0.out]
      exact RetL.same h hbz 8
  · rw [posI_out hk] at C
    rw [List.getElem?_eq_none (by omega)] at hm0
    replace hm0 := Lib.hid hm0
    clear hk
    have hbS := hO1.below
    replace C := Lib.hid C
    repeat' ((fail_if_success at_builtin); (first | go_skip | go_guarded | go_step))
    refine C.out.mono ?_
    clear C
    rintro e w2 ⟨rfl, hw2⟩
    subst w2
    dsimp only
    have hS0 : (Below wo1.heap.size wo1 wo1 ∧ True) := ⟨Below.refl _ _, trivial⟩
    have keepS : ∀ v1 v2 : World, (Below wo1.heap.size wo1 v1 ∧ True) → Below v1.heap.size v1 v2 → (Below wo1.heap.size wo1 v2 ∧ True) := fun v1 v2 h hb => ⟨h.1.trans (hb.mono h.1.size), trivial⟩
    have hS1 : (Below wo1.heap.size wo1 wo1.drew ∧ True) := keepS _ _ hS0 ((Below.refl _ _).drew)
    replace keepS := Lib.hid keepS
    clear hS0
    go_upto_region 2 with (fail)
    refine wp_region_held_drew (S := fun w' => Below wo1.heap.size wo1 w' ∧ True) (by kernel_rfl) ?_ (fun hHeld => ?_)
    · (try dsimp only)
      exact hS1
    refine tkY 0 (v := ?v152) rfl (.inl ⟨by rfl, ?hy152⟩) ?hr152
    case hy152 => (intro w hSw; (try dsimp only at hSw); go_simp; try with_reducible rfl)
    simp only [Act.put, List.getElem_toArray, List.getElem_cons_zero, List.setIfInBounds_toArray, List.set_cons_zero, List.set_cons_succ]
    refine tkY 1 (v := ?v153) rfl (.inl ⟨by rfl, ?hy153⟩) ?hr153
    case hy153 => (intro w hSw; (try dsimp only at hSw); go_simp; try with_reducible rfl)
    simp only [Act.put, List.getElem_toArray, List.getElem_cons_zero, List.getElem_cons_succ, List.setIfInBounds_toArray, List.set_cons_zero, List.set_cons_succ]
    refine tkY 2 (v := ?v154) rfl (.inl ⟨by rfl, ?hy154⟩) ?hr154
    case hy154 => (intro w hSw; (try dsimp only at hSw); go_simp; try with_reducible rfl)
    simp only [Act.put, List.getElem_toArray, List.getElem_cons_zero, List.getElem_cons_succ, List.setIfInBounds_toArray, List.set_cons_zero, List.set_cons_succ]
    refine tkN 3 rfl ?_
    simp only [Act.put, List.getElem_toArray, List.getElem_cons_zero, List.getElem_cons_succ, List.setIfInBounds_toArray, List.set_cons_zero, List.set_cons_succ]
    refine tkN 4 rfl ?_
    simp only [Act.put, List.getElem_toArray, List.getElem_cons_zero, List.getElem_cons_succ, List.setIfInBounds_toArray, List.set_cons_zero, List.set_cons_succ]
    refine tkN 5 rfl ?_
    simp only [Act.put, List.getElem_toArray, List.getElem_cons_zero, List.getElem_cons_succ, List.setIfInBounds_toArray, List.set_cons_zero, List.set_cons_succ]
    refine tkN 6 rfl ?_
    simp only [Act.put, List.getElem_toArray, List.getElem_cons_zero, List.getElem_cons_succ, List.setIfInBounds_toArray, List.set_cons_zero, List.set_cons_succ]
    refine tkN 7 rfl ?_
    simp only [Act.put, List.getElem_toArray, List.getElem_cons_zero, List.getElem_cons_succ, List.setIfInBounds_toArray, List.set_cons_zero, List.set_cons_succ]
    refine tkN 8 rfl ?_
    simp only [Act.put, List.getElem_toArray, List.getElem_cons_zero, List.getElem_cons_succ, List.setIfInBounds_toArray, List.set_cons_zero, List.set_cons_succ]
    refine tkN 9 rfl ?_
    simp only [Act.put, List.getElem_toArray, List.getElem_cons_zero, List.getElem_cons_succ, List.setIfInBounds_toArray, List.set_cons_zero, List.set_cons_succ]
    refine tkN 10 rfl ?_
    simp only [Act.put, List.getElem_toArray, List.getElem_cons_zero, List.getElem_cons_succ, List.setIfInBounds_toArray, List.set_cons_zero, List.set_cons_succ]
    refine tkY 11 (v := ?v155) rfl (.inl ⟨by rfl, ?hy155⟩) ?hr155
    case hy155 => (intro w hSw; (try dsimp only at hSw); go_simp; try with_reducible rfl)
    simp only [Act.put, List.getElem_toArray, List.getElem_cons_zero, List.getElem_cons_succ, List.setIfInBounds_toArray, List.set_cons_zero, List.set_cons_succ]
    refine wpAnyH_done (by kernel_rfl) ?_ _
    have hbW := hHeld.1
    clear hHeld hS1 keepS
    have hbz := hbS.trans (hbW.mono hbS.size)
    repeat' ((fail_if_success at_builtin); (first | ((with_reducible show wpList _ _ _ _ _ _); first | refine wpList_eqS rfl rfl rfl rfl (by first | exact qE1 _ | exact qE2 _ | exact qE3 _ | exact qE4 _) (by kernel_rfl) ?_ | refine wpList_neS rfl rfl rfl rfl (by first | exact qE1 _ | exact qE2 _ | exact qE3 _ | exact qE4 _) (by kernel_rfl) ?_) | go_skip | go_guarded | go_step))
    go_ret2
    rw [hm0.out]
    exact RetL.same h hbz 8
end Go.Proofs.YtennhjkhjplmoaaDoor
