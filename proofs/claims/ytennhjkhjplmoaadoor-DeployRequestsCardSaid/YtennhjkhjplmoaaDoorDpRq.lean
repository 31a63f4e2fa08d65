/- Deploy: the document's Request. -/
import Derived.Test.YtennhjkhjplmoaaDoorDpAp
import Derived.Test.YtennhjkhjplmoaaDoorHk
namespace Go.Proofs.YtennhjkhjplmoaaDoor
open Go.RowKit
set_option maxRecDepth 100000 in
set_option maxHeartbeats 6000000 in
theorem rrequest_any (l : List Env) (s : ByteArray) (r : Ref) (A : Option Addr) (n c : Nat) (w : World) (h : Envs w A n c l) (hs : s.size ≤ 1000000) (hRl : (refsL l).length ≤ 1000000) :
    Calls Tryd.prog 14 #[.slice A n c, .string s, .agg #[.string r.run, .string r.job]] w (RetL w (reqL l s r)) := by
  go_enter Tryd.func14, Tryd.ntmps14
  have hl := h.len
  go_upto_region 1 with (fail)
  generalize hx_ : World.alloc w _ = wo1
  have hO1 : OwnB w wo1 [(w.heap.size, [.string r.run, .string r.job])] := by rw [← hx_]; exact (OwnB.refl w).new #[.string r.run, .string r.job] _ (g := w.heap.size)
  have hbn : Below w.heap.size w wo1 := by rw [← hx_]; exact (Below.refl _ _).alloc (Nat.le_refl _) _
  have zwo1 : w.heap.size + 0 < wo1.heap.size := by rw [← hx_]; simp <;> omega
  clear hx_
  have c0_0 : wo1.cell? ⟨w.heap.size, 0, none⟩ = some (.string r.run) := hO1.c 0 0
  have c0_1 : wo1.cell? ⟨w.heap.size, 1, none⟩ = some (.string r.job) := hO1.c 0 1
  have cf0 := hO1.fr 0
  clear hbn
  have C := refName_any s wo1 (by omega)
  have hm0 : (nameS s.data.toList && properR r) = false → reqL l s r = (l, 1) := fun h => by unfold reqL; rw [if_pos h]
  cases hnm : nameS s.data.toList with
  | false =>
    rw [hnm] at C hm0
    have hm := hm0 rfl
    replace hm := Lib.hid hm
    replace C := Lib.hid C
    clear hm0
    have hbz := hO1.below
    repeat' ((fail_if_success at_builtin); (first | go_skip | go_guarded | go_step))
    refine C.out.mono ?_
    clear C
    rintro e w2 ⟨rfl, hw2⟩
    subst w2
    dsimp only
    repeat' ((fail_if_success at_builtin); (first | go_skip | go_guarded | go_step))
    go_ret2
    rw [hm.out]
    exact RetL.same h hbz 1
  | true =>
    rw [hnm] at C hm0
    replace C := Lib.hid C
    repeat' ((fail_if_success at_builtin); (first | go_skip | go_guarded | go_step))
    refine C.out.mono ?_
    clear C
    rintro e w2 ⟨rfl, hw2⟩
    subst w2
    dsimp only
    have C := rproper_any r wo1
    cases hpr : properR r with
    | false =>
      rw [hpr] at C hm0
      have hm := hm0 rfl
      replace hm := Lib.hid hm
      replace C := Lib.hid C
      clear hm0
      have hb0 := hO1.below
      repeat' ((fail_if_success at_builtin); (first | go_skip | go_guarded | go_step))
      refine C.out.mono ?_
      clear C
      rintro e w2 ⟨rfl, hb2⟩
      dsimp only
      have hbz := hb0.trans (hb2.mono hb0.size)
      repeat' ((fail_if_success at_builtin); (first | go_skip | go_guarded | go_step))
      go_ret2
      rw [hm.out]
      exact RetL.same h hbz 1
    | true =>
      clear hm0
      rw [hpr] at C
      replace C := Lib.hid C
      have hm0 : reqL l s r = if hasR (refsL l) r = true then (l, (7 : Int))
        else match l[posA (nameE s) l]? with
          | some x => (l.set (posA (nameE s) l) (askE r x), (0 : Int))
          | none => (l.take (posA (aftE s) l) ++ ⟨s, zR, [r], []⟩ :: l.drop (posA (aftE s) l), (0 : Int)) := by
        unfold reqL
        rw [hnm, hpr, if_neg (by simp), busy_refs hpr]
        rfl
      obtain ⟨q, hq⟩ : ∃ q, q = posI (fun x => eqR x r) (refsL l) := ⟨_, rfl⟩
      have hqh := posI_has (refsL l) r
      rw [← hq] at hqh
      replace hq := Lib.hid hq
      rw [← hqh] at hm0
      clear hqh
      replace hm0 := Lib.hid hm0
      clear hnm hpr
      repeat' ((fail_if_success at_builtin); (first | go_skip | go_guarded | go_step))
      refine C.out.mono ?_
      clear C
      rintro e w2 ⟨rfl, hb2⟩
      dsimp only
      have zw2 := hb2.size
      have hO2 : OwnB w w2 [(w.heap.size, [.string r.run, .string r.job])] := hO1.kept hb2
      clear c0_0 c0_1 cf0 hO1
      have c0_0 : w2.cell? ⟨w.heap.size, 0, none⟩ = some (.string r.run) := hO2.c 0 0
      have c0_1 : w2.cell? ⟨w.heap.size, 1, none⟩ = some (.string r.job) := hO2.c 0 1
      have cf0 := hO2.fr 0
      have hbS := hO2.below
      have hpl := hO2.lt 0
      by_cases hq1 : 0 ≤ q
      · have hm := hm0.out
        rw [decide_eq_true hq1, if_pos rfl] at hm
        replace hm := Lib.hid hm
        clear hm0
        have hS0 : (Below w2.heap.size w2 w2 ∧ w2.cell? ⟨w.heap.size, 0, none⟩ = some (.string r.run) ∧ w2.cell? ⟨w.heap.size, 1, none⟩ = some (.string r.job)) := ⟨Below.refl _ _, c0_0, c0_1⟩
        have keepS : ∀ v1 v2 : World, (Below w2.heap.size w2 v1 ∧ v1.cell? ⟨w.heap.size, 0, none⟩ = some (.string r.run) ∧ v1.cell? ⟨w.heap.size, 1, none⟩ = some (.string r.job)) → Below v1.heap.size v1 v2 → (Below w2.heap.size w2 v2 ∧ v2.cell? ⟨w.heap.size, 0, none⟩ = some (.string r.run) ∧ v2.cell? ⟨w.heap.size, 1, none⟩ = some (.string r.job)) := fun v1 v2 h hb => ⟨h.1.trans (hb.mono h.1.size), (hb.cell (p := ⟨w.heap.size, _, none⟩) (Nat.lt_of_lt_of_le hpl h.1.size)).trans h.2.1, (hb.cell (p := ⟨w.heap.size, _, none⟩) (Nat.lt_of_lt_of_le hpl h.1.size)).trans h.2.2⟩
        have hS1 : (Below w2.heap.size w2 w2.drew ∧ w2.drew.cell? ⟨w.heap.size, 0, none⟩ = some (.string r.run) ∧ w2.drew.cell? ⟨w.heap.size, 1, none⟩ = some (.string r.job)) := keepS _ _ hS0 ((Below.refl _ _).drew)
        replace keepS := Lib.hid keepS
        clear hS0
        go_upto_region 3 with (fail)
        refine wp_region_held_drew (S := fun w' => Below w2.heap.size w2 w' ∧ w'.cell? ⟨w.heap.size, 0, none⟩ = some (.string r.run) ∧ w'.cell? ⟨w.heap.size, 1, none⟩ = some (.string r.job)) (by kernel_rfl) ?_ (fun hHeld => ?_)
        · (try dsimp only)
          exact hS1
        refine tkY 0 (v := ?v172) rfl (.inl ⟨by rfl, ?hy172⟩) ?hr172
        case hy172 => (intro w hSw; (try dsimp only at hSw); go_simp; try with_reducible rfl)
        simp only [Act.put, List.getElem_toArray, List.getElem_cons_zero, List.setIfInBounds_toArray, List.set_cons_zero, List.set_cons_succ]
        refine tkY 2 (v := ?v173) rfl (.inl ⟨by rfl, ?hy173⟩) ?hr173
        case hy173 => (intro w hSw; (try dsimp only at hSw); go_simp; try with_reducible rfl)
        simp only [Act.put, List.getElem_toArray, List.getElem_cons_zero, List.getElem_cons_succ, List.setIfInBounds_toArray, List.set_cons_zero, List.set_cons_succ]
        refine wpAnyH_ready (rs := [1]) (by kernel_rfl) (by simp) ?_
        refine AllReadyH.cons rfl (fun K hK => ?_) AllReadyH.nil
        go_simp
        go_at_call 47
        have hbh := hbS.trans (hHeld.1.mono hbS.size)
        have CJ := refs_any l A n c _ (h.below hbh) hRl
        refine CJ.mono ?_
        clear CJ
        rintro e r8 ⟨A8, n8, c8, rfl, hbq, hRf⟩
        dsimp only
        refine hK.out _ _ ?_ (fun hHeld => ?_)
        · (try dsimp only)
          exact keepS.out _ _ hHeld hbq
        clear hK K
        try simp only [Act.put, List.getElem_toArray, List.getElem_cons_zero, List.getElem_cons_succ, List.setIfInBounds_toArray, List.set_cons_zero, List.set_cons_succ]
        refine wpAnyH_ready (rs := [3]) (by kernel_rfl) (by simp) ?_
        refine AllReadyH.cons rfl (fun K hK => ?_) AllReadyH.nil
        go_simp
        go_at_call 46
        have CJ := place_any (refsL l) r A8 n8 c8 _ hRf
        rw [← hq.out] at CJ
        refine CJ.mono ?_
        clear CJ
        rintro e r9 ⟨rfl, hbq⟩
        dsimp only
        refine hK.out _ _ ?_ (fun hHeld => ?_)
        · (try dsimp only)
          exact keepS.out _ _ hHeld hbq
        clear hK K
        try simp only [Act.put, List.getElem_toArray, List.getElem_cons_zero, List.getElem_cons_succ, List.setIfInBounds_toArray, List.set_cons_zero, List.set_cons_succ]
        refine tkY 4 (v := ?v174) rfl (.inl ⟨by rfl, ?hy174⟩) ?hr174
        case hy174 => (intro w hSw; (try dsimp only at hSw); go_simp; try with_reducible rfl)
        simp only [Act.put, List.getElem_toArray, List.getElem_cons_zero, List.getElem_cons_succ, List.setIfInBounds_toArray, List.set_cons_zero, List.set_cons_succ]
        refine wpAnyH_done (by kernel_rfl) ?_ _
        have hbW := hHeld.1
        clear hHeld hS1 keepS
        have hbz := hbS.trans (hbW.mono hbS.size)
        clear hRf
        repeat' ((fail_if_success at_builtin); (first | go_skip | go_guarded | go_step))
        go_ret2
        rw [hm.out]
        exact RetL.same h hbz 7
      · have hm1 := hm0.out
        rw [decide_eq_false hq1, if_neg (by simp)] at hm1
        clear hm0
        have hS0 : (Below w2.heap.size w2 w2 ∧ w2.cell? ⟨w.heap.size, 0, none⟩ = some (.string r.run) ∧ w2.cell? ⟨w.heap.size, 1, none⟩ = some (.string r.job)) := ⟨Below.refl _ _, c0_0, c0_1⟩
        have keepS : ∀ v1 v2 : World, (Below w2.heap.size w2 v1 ∧ v1.cell? ⟨w.heap.size, 0, none⟩ = some (.string r.run) ∧ v1.cell? ⟨w.heap.size, 1, none⟩ = some (.string r.job)) → Below v1.heap.size v1 v2 → (Below w2.heap.size w2 v2 ∧ v2.cell? ⟨w.heap.size, 0, none⟩ = some (.string r.run) ∧ v2.cell? ⟨w.heap.size, 1, none⟩ = some (.string r.job)) := fun v1 v2 h hb => ⟨h.1.trans (hb.mono h.1.size), (hb.cell (p := ⟨w.heap.size, _, none⟩) (Nat.lt_of_lt_of_le hpl h.1.size)).trans h.2.1, (hb.cell (p := ⟨w.heap.size, _, none⟩) (Nat.lt_of_lt_of_le hpl h.1.size)).trans h.2.2⟩
        have hS1 : (Below w2.heap.size w2 w2.drew ∧ w2.drew.cell? ⟨w.heap.size, 0, none⟩ = some (.string r.run) ∧ w2.drew.cell? ⟨w.heap.size, 1, none⟩ = some (.string r.job)) := keepS _ _ hS0 ((Below.refl _ _).drew)
        replace keepS := Lib.hid keepS
        clear hS0
        go_upto_region 3 with (fail)
        refine wp_region_held_drew (S := fun w' => Below w2.heap.size w2 w' ∧ w'.cell? ⟨w.heap.size, 0, none⟩ = some (.string r.run) ∧ w'.cell? ⟨w.heap.size, 1, none⟩ = some (.string r.job)) (by kernel_rfl) ?_ (fun hHeld => ?_)
        · (try dsimp only)
          exact hS1
        refine tkY 0 (v := ?v175) rfl (.inl ⟨by rfl, ?hy175⟩) ?hr175
        case hy175 => (intro w hSw; (try dsimp only at hSw); go_simp; try with_reducible rfl)
        simp only [Act.put, List.getElem_toArray, List.getElem_cons_zero, List.setIfInBounds_toArray, List.set_cons_zero, List.set_cons_succ]
        refine tkY 2 (v := ?v176) rfl (.inl ⟨by rfl, ?hy176⟩) ?hr176
        case hy176 => (intro w hSw; (try dsimp only at hSw); go_simp; try with_reducible rfl)
        simp only [Act.put, List.getElem_toArray, List.getElem_cons_zero, List.getElem_cons_succ, List.setIfInBounds_toArray, List.set_cons_zero, List.set_cons_succ]
        refine wpAnyH_ready (rs := [1]) (by kernel_rfl) (by simp) ?_
        refine AllReadyH.cons rfl (fun K hK => ?_) AllReadyH.nil
        go_simp
        go_at_call 47
        have hbh := hbS.trans (hHeld.1.mono hbS.size)
        have CJ := refs_any l A n c _ (h.below hbh) hRl
        refine CJ.mono ?_
        clear CJ
        rintro e r8 ⟨A8, n8, c8, rfl, hbq, hRf⟩
        dsimp only
        refine hK.out _ _ ?_ (fun hHeld => ?_)
        · (try dsimp only)
          exact keepS.out _ _ hHeld hbq
        clear hK K
        try simp only [Act.put, List.getElem_toArray, List.getElem_cons_zero, List.getElem_cons_succ, List.setIfInBounds_toArray, List.set_cons_zero, List.set_cons_succ]
        refine wpAnyH_ready (rs := [3]) (by kernel_rfl) (by simp) ?_
        refine AllReadyH.cons rfl (fun K hK => ?_) AllReadyH.nil
        go_simp
        go_at_call 46
        have CJ := place_any (refsL l) r A8 n8 c8 _ hRf
        rw [← hq.out] at CJ
        refine CJ.mono ?_
        clear CJ
        rintro e r9 ⟨rfl, hbq⟩
        dsimp only
        refine hK.out _ _ ?_ (fun hHeld => ?_)
        · (try dsimp only)
          exact keepS.out _ _ hHeld hbq
        clear hK K
        try simp only [Act.put, List.getElem_toArray, List.getElem_cons_zero, List.getElem_cons_succ, List.setIfInBounds_toArray, List.set_cons_zero, List.set_cons_succ]
        refine tkY 4 (v := ?v177) rfl (.inl ⟨by rfl, ?hy177⟩) ?hr177
        case hy177 => (intro w hSw; (try dsimp only at hSw); go_simp; try with_reducible rfl)
        simp only [Act.put, List.getElem_toArray, List.getElem_cons_zero, List.getElem_cons_succ, List.setIfInBounds_toArray, List.set_cons_zero, List.set_cons_succ]
        refine wpAnyH_done (by kernel_rfl) ?_ _
        have hbW := hHeld.1
        clear hHeld hS1 keepS
        clear hRf hbS hpl
        replace hbW := Lib.hid hbW
        have zr9 := hbW.out.size
        have hO3 : OwnB w r9 [(w.heap.size, [.string r.run, .string r.job])] := hO2.kept hbW.out
        clear c0_0 c0_1 cf0 hO2
        have c0_0 : r9.cell? ⟨w.heap.size, 0, none⟩ = some (.string r.run) := hO3.c 0 0
        have c0_1 : r9.cell? ⟨w.heap.size, 1, none⟩ = some (.string r.job) := hO3.c 0 1
        have cf0 := hO3.fr 0
        have C := rindex_any l s A n c r9 (h.below hO3.below)
        by_cases hk : posA (nameE s) l < l.length
        · rw [posI_in hk] at C
          obtain ⟨x, hx⟩ : ∃ x, l[posA (nameE s) l]? = some x := ⟨_, List.getElem?_eq_getElem hk⟩
          rw [hx] at hm1
          dsimp only at hm1
          have hxW := h.each x (List.mem_of_getElem? hx)
          have hxw := hxW.wait
          have hk2 : posA (nameE s) l < n := by rw [← h.n]; exact hk
          obtain ⟨g, o, A1, c1, A2, c2, rfl, hg, hS⟩ := env_at h.rd hx
          clear hx
          generalize posA (nameE s) l = k at *
          have i0 : (0 : Int) ≤ (k : Int) := by omega
          have i1 : (k : Int) < (n : Int) := by omega
          have i3 : ¬ (k : Int) < 0 := by omega
          replace C := Lib.hid C
          replace hm1 := Lib.hid hm1
          repeat' ((fail_if_success at_builtin); (first | go_skip | go_guarded | go_step))
          refine C.out.mono ?_
          clear C
          rintro e w3 ⟨rfl, hw3⟩
          subst w3
          dsimp only
          have hbS := hO3.below
          have hT := hS.below hg hbS
          have e0 := hT.e0
          have e1 := hT.e1
          have e2 := hT.e2
          have e3 := hT.e3
          have e4 := hT.e4
          have hws := hbS.size
          clear hT
          go_upto_region 9 with (fail)
          generalize hx_ : World.alloc r9 _ = wo4
          have hO4 : OwnB w wo4 [(r9.heap.size, [.string x.name, .string x.holder.run, .string x.holder.job, .slice A1 x.waiting.length c1, .slice A2 x.history.length c2]), (w.heap.size, [.string r.run, .string r.job])] := by rw [← hx_]; exact hO3.new #[.string x.name, .string x.holder.run, .string x.holder.job, .slice A1 x.waiting.length c1, .slice A2 x.history.length c2] _ (g := r9.heap.size)
          have hbn : Below r9.heap.size r9 wo4 := by rw [← hx_]; exact (Below.refl _ _).alloc (Nat.le_refl _) _
          have zwo4 : r9.heap.size + 0 < wo4.heap.size := by rw [← hx_]; simp <;> omega
          clear hx_ c0_0 c0_1 cf0 hO3
          have c0_0 : wo4.cell? ⟨r9.heap.size, 0, none⟩ = some (.string x.name) := hO4.c 0 0
          have c0_1 : wo4.cell? ⟨r9.heap.size, 1, none⟩ = some (.string x.holder.run) := hO4.c 0 1
          have c0_2 : wo4.cell? ⟨r9.heap.size, 2, none⟩ = some (.string x.holder.job) := hO4.c 0 2
          have c0_3 : wo4.cell? ⟨r9.heap.size, 3, none⟩ = some (.slice A1 x.waiting.length c1) := hO4.c 0 3
          have c0_4 : wo4.cell? ⟨r9.heap.size, 4, none⟩ = some (.slice A2 x.history.length c2) := hO4.c 0 4
          have cf0 := hO4.fr 0
          have c1_0 : wo4.cell? ⟨w.heap.size, 0, none⟩ = some (.string r.run) := hO4.c 1 0
          have c1_1 : wo4.cell? ⟨w.heap.size, 1, none⟩ = some (.string r.job) := hO4.c 1 1
          have cf1 := hO4.fr 1
          clear hbn
          clear e0 e1 e2 e3 e4 hbS
          have hby1 : (([] : List Ref).length + x.waiting.length) * 32 ≤ 140737488355328 := by simp; omega
          have hby2 : (x.waiting.length + 1) * 32 ≤ 140737488355328 := by omega
          have HB0 := hO4.below
          have HX_ := hO4.lt 0
          have hb : Below wo4.heap.size wo4 wo4.drew := (Below.refl _ _).drew
          refine wp_region_held_drew (S := fun w' => w'.cell? ⟨w.heap.size, 0, none⟩ = some (.string r.run) ∧ w'.cell? ⟨w.heap.size, 1, none⟩ = some (.string r.job)) (by kernel_rfl) ?_ (fun hHeld => ?_)
          · (try dsimp only)
            exact ⟨hO4.c 1 0, hO4.c 1 1⟩
          generalize World.drew wo4 = vd at *
          refine tkY 1 (v := ?v178) rfl (.inl ⟨by rfl, ?hy178⟩) ?hr178
          case hy178 => (intro w hSw; (try dsimp only at hSw); go_simp; try with_reducible rfl)
          simp only [Act.put, List.getElem_toArray, List.getElem_cons_zero, List.getElem_cons_succ, List.setIfInBounds_toArray, List.set_cons_zero, List.set_cons_succ]
          refine tkY 4 (v := ?v179) rfl (.inl ⟨by rfl, ?hy179⟩) ?hr179
          case hy179 => (intro w hSw; (try dsimp only at hSw); go_simp; try with_reducible rfl)
          simp only [Act.put, List.getElem_toArray, List.getElem_cons_zero, List.getElem_cons_succ, List.setIfInBounds_toArray, List.set_cons_zero, List.set_cons_succ]
          refine wpAnyH_ready (rs := [0, 2, 5]) (by kernel_rfl) (by simp) ?_
          refine AllReadyH.cons rfl (fun K hK => ?_) ?_
          · go_simp
            have hba := (Below.refl vd.heap.size vd).alloc (Nat.le_refl _) (.cells #[] refT)
            have hR := OwnR.empty (r := rRef) (sz := 2) vd refT
            have hVW := hb
            replace hb := hb.trans (hba.mono hb.size)
            clear hba
            generalize World.alloc vd _ = v1 at *
            refine hK.out _ _ ?_ (fun hHeld => ?_)
            · (try dsimp only)
              exact ⟨(hO4.kept hb).c 1 0, (hO4.kept hb).c 1 1⟩
            clear hK K
            try simp only [Act.put, List.getElem_toArray, List.getElem_cons_zero, List.getElem_cons_succ, List.setIfInBounds_toArray, List.set_cons_zero, List.set_cons_succ]
            refine wpAnyH_ready (rs := [2, 5]) (by kernel_rfl) (by simp) ?_
            refine AllReadyH.cons rfl (fun K hK => ?_) ?_
            · have x3 := (hO4.kept hb).c 0 3
              go_simp
              clear x3
              refine hK.out _ _ ?_ (fun hHeld => ?_)
              · (try dsimp only)
                exact ⟨(hO4.kept hb).c 1 0, (hO4.kept hb).c 1 1⟩
              clear hK K
              try simp only [Act.put, List.getElem_toArray, List.getElem_cons_zero, List.getElem_cons_succ, List.setIfInBounds_toArray, List.set_cons_zero, List.set_cons_succ]
              refine wpAnyH_ready (rs := [3, 5]) (by kernel_rfl) (by simp) ?_
              refine AllReadyH.cons rfl (fun K hK => ?_) ?_
              · have hVs : w.heap.size ≤ vd.heap.size := Nat.le_trans hO4.below.size hVW.size
                have hws := ((hS.wait.below rRef_ok (hO4.below.trans (hb.mono hO4.below.size))).more rRef_ok (S' := Beh v1 (.slice (some ⟨vd.heap.size, 0, none⟩) 0 0)) (fun b hb' => beh_old hR (Nat.lt_of_lt_of_le hb' hVs)))
                refine step_appRS rRef_ok rRef_one hR hws Tryd.underlying58 ref_info hby1 ?_
                intro v4 w4_ hR4 hg4
                rw [List.nil_append] at hR4
                obtain ⟨A4, c4, rfl⟩ := hR4.form
                replace hb := hVW.trans (hR4.bel.mono hVW.size)
                replace hR := hR4
                clear hR4 hg4 hws hVs
                refine hK.out _ _ ?_ (fun hHeld => ?_)
                · (try dsimp only)
                  exact ⟨(hO4.kept hb).c 1 0, (hO4.kept hb).c 1 1⟩
                clear hK K
                try simp only [Act.put, List.getElem_toArray, List.getElem_cons_zero, List.getElem_cons_succ, List.setIfInBounds_toArray, List.set_cons_zero, List.set_cons_succ]
                refine wpAnyH_ready (rs := [5]) (by kernel_rfl) (by simp) ?_
                refine AllReadyH.cons rfl (fun K hK => ?_) ?_
                · go_simp
                  have hba := (Below.refl w4_.heap.size w4_).alloc (Nat.le_refl _) (.cells #[.string r.run, .string r.job] refT)
                  have b0 := (CellsAt.new w4_ #[.string r.run, .string r.job] refT).cell 0 _ rfl
                  have b1 := (CellsAt.new w4_ #[.string r.run, .string r.job] refT).cell 1 _ rfl
                  have gBlt : w4_.heap.size < (World.alloc w4_ (.cells #[.string r.run, .string r.job] refT)).heap.size := by simp
                  have gBne : some w4_.heap.size ≠ Value.ownBlock (.slice A4 x.waiting.length c4) := hR.ltB (Nat.le_refl _)
                  replace hR := hR.below rRef_ok hba
                  replace hb := hb.trans (hba.mono hb.size)
                  clear hba
                  generalize World.alloc w4_ _ = v4 at *
                  refine hK.out _ _ ?_ (fun hHeld => ?_)
                  · (try dsimp only)
                    exact ⟨(hO4.kept hb).c 1 0, (hO4.kept hb).c 1 1⟩
                  clear hK K
                  try simp only [Act.put, List.getElem_toArray, List.getElem_cons_zero, List.getElem_cons_succ, List.setIfInBounds_toArray, List.set_cons_zero, List.set_cons_succ]
                  refine wpAnyH_ready (rs := [6]) (by kernel_rfl) (by simp) ?_
                  refine AllReadyH.cons rfl (fun K hK => ?_) ?_
                  · have hbx := box_ref (S := Beh v4 (.slice A4 x.waiting.length c4)) ⟨gBlt, gBne⟩ b0 b1
                    refine step_appRS rRef_ok rRef_one hR hbx Tryd.underlying58 ref_info hby2 ?_
                    intro v6 w6_ hR6 hg6
                    obtain ⟨A6, c6, rfl⟩ := hR6.form
                    have hl6 : (x.waiting ++ [r]).length = x.waiting.length + 1 := by simp
                    rw [hl6] at hR6 ⊢
                    replace hb := hVW.trans (hR6.bel.mono hVW.size)
                    replace hR := hR6
                    clear hR6 hg6 hbx hl6 gBlt gBne b0 b1
                    refine hK.out _ _ ?_ (fun hHeld => ?_)
                    · (try dsimp only)
                      exact ⟨(hO4.kept hb).c 1 0, (hO4.kept hb).c 1 1⟩
                    clear hK K
                    try simp only [Act.put, List.getElem_toArray, List.getElem_cons_zero, List.getElem_cons_succ, List.setIfInBounds_toArray, List.set_cons_zero, List.set_cons_succ]
                    refine tkY 7 (v := ?v180) rfl (.inl ⟨by rfl, ?hy180⟩) ?hr180
                    case hy180 => (intro w hSw; (try dsimp only at hSw); go_simp; try with_reducible rfl)
                    simp only [Act.put, List.getElem_toArray, List.getElem_cons_zero, List.getElem_cons_succ, List.setIfInBounds_toArray, List.set_cons_zero, List.set_cons_succ]
                    refine wpAnyH_ready (rs := [8]) (by kernel_rfl) (by simp) ?_
                    refine AllReadyH.cons rfl (fun K hK => ?_) ?_
                    · have x3 := (hO4.kept hb).c 0 3
                      have xf := (hO4.kept hb).fr 0
                      have hOs := (hO4.kept hb).store 0 rfl 3 (.slice A6 (x.waiting.length + 1) c6)
                      go_simp
                      clear x3 xf
                      refine hK.out _ _ ?_ (fun hHeld => ?_)
                      · (try dsimp only)
                        exact ⟨hOs.c 1 0, hOs.c 1 1⟩
                      clear hK K
                      try simp only [Act.put, List.getElem_toArray, List.getElem_cons_zero, List.getElem_cons_succ, List.setIfInBounds_toArray, List.set_cons_zero, List.set_cons_succ]
                      refine wpAnyH_done (by kernel_rfl) ?_ _
                      clear hOs
                      have hO5 : OwnB w w6_ [(r9.heap.size, [.string x.name, .string x.holder.run, .string x.holder.job, .slice A1 x.waiting.length c1, .slice A2 x.history.length c2]), (w.heap.size, [.string r.run, .string r.job])] := hO4.kept hb
                      clear c0_0 c0_1 c0_2 c0_3 c0_4 cf0 c1_0 c1_1 cf1 hO4
                      have c0_0 : w6_.cell? ⟨r9.heap.size, 0, none⟩ = some (.string x.name) := hO5.c 0 0
                      have c0_1 : w6_.cell? ⟨r9.heap.size, 1, none⟩ = some (.string x.holder.run) := hO5.c 0 1
                      have c0_2 : w6_.cell? ⟨r9.heap.size, 2, none⟩ = some (.string x.holder.job) := hO5.c 0 2
                      have c0_3 : w6_.cell? ⟨r9.heap.size, 3, none⟩ = some (.slice A1 x.waiting.length c1) := hO5.c 0 3
                      have c0_4 : w6_.cell? ⟨r9.heap.size, 4, none⟩ = some (.slice A2 x.history.length c2) := hO5.c 0 4
                      have cf0 := hO5.fr 0
                      have c1_0 : w6_.cell? ⟨w.heap.size, 0, none⟩ = some (.string r.run) := hO5.c 1 0
                      have c1_1 : w6_.cell? ⟨w.heap.size, 1, none⟩ = some (.string r.job) := hO5.c 1 1
                      have cf1 := hO5.fr 1
                      have hR4 := hR
                      have hbV := (HB0).trans (hVW.mono HB0.size)
                      have hxl := Nat.lt_of_lt_of_le (HX_) hVW.size
                      clear hR
                      have hld : (x.waiting ++ [r]).length = x.waiting.length + 1 := by simp
                      (try rw [hld] at hR4)
                      replace hld := Lib.hid hld
                      have hne : Value.ownBlock (.slice A6 (x.waiting.length + 1) c6) ≠ some (r9.heap.size) := fun e => by
                        obtain ⟨cs, HH, _⟩ := hR4
                        have := (HH.1.lt _ e).1
                        omega
                      have hR5 := (OwnR.up (w1 := vd) hbV hR4).farSet (xb := r9.heap.size) (o := 3) (u := .slice A6 (x.waiting.length + 1) c6) rRef_ok hne (by omega) (fun x c h => h)
                      generalize hx_ : World.setCell _ _ _ = wo6
                      rw [hx_] at hR5
                      have hO6 : OwnB w wo6 [(r9.heap.size, [.string x.name, .string x.holder.run, .string x.holder.job, .slice A6 (x.waiting.length + 1) c6, .slice A2 x.history.length c2]), (w.heap.size, [.string r.run, .string r.job])] := by rw [← hx_]; exact hO5.store 0 rfl 3 _
                      have zwo6 : w6_.heap.size ≤ wo6.heap.size := by rw [← hx_]; simp [World.setCell]
                      clear hx_ c0_0 c0_1 c0_2 c0_3 c0_4 cf0 c1_0 c1_1 cf1 hO5
                      have c0_0 : wo6.cell? ⟨r9.heap.size, 0, none⟩ = some (.string x.name) := hO6.c 0 0
                      have c0_1 : wo6.cell? ⟨r9.heap.size, 1, none⟩ = some (.string x.holder.run) := hO6.c 0 1
                      have c0_2 : wo6.cell? ⟨r9.heap.size, 2, none⟩ = some (.string x.holder.job) := hO6.c 0 2
                      have c0_3 : wo6.cell? ⟨r9.heap.size, 3, none⟩ = some (.slice A6 (x.waiting.length + 1) c6) := hO6.c 0 3
                      have c0_4 : wo6.cell? ⟨r9.heap.size, 4, none⟩ = some (.slice A2 x.history.length c2) := hO6.c 0 4
                      have cf0 := hO6.fr 0
                      have c1_0 : wo6.cell? ⟨w.heap.size, 0, none⟩ = some (.string r.run) := hO6.c 1 0
                      have c1_1 : wo6.cell? ⟨w.heap.size, 1, none⟩ = some (.string r.job) := hO6.c 1 1
                      have cf1 := hO6.fr 1
                      have hbS := hO6.below
                      have hs5 : RSlice rRef 2 wo6 (fun b => b < wo6.heap.size) A6 (x.waiting ++ [r]).length c6 (x.waiting ++ [r]) := by
                        have h9 := hR5
                        rw [← hld.out] at h9
                        exact h9.slice rRef_ok
                      have C := with_any l (askE r x) A6 c6 A2 c2 k (some ⟨g, o, none⟩) n c wo6 (h.below hbS) hk hs5 ((hS.hist.below rDep_ok hbS).more rDep_ok (fun _ hp => Nat.lt_of_lt_of_le hp hbS.size))
                      rw [show (askE r x).waiting.length = x.waiting.length + 1 from hld.out] at C
                      replace C := Lib.hid C
                      replace hbS := Lib.hid hbS
                      clear hR4 hR5 hs5 hne
                      repeat' ((fail_if_success at_builtin); (first | go_skip | go_guarded | go_step))
                      refine C.out.mono ?_
                      clear C
                      rintro e w9 ⟨A', n', c', rfl, hb9, hs9⟩
                      dsimp only
                      have hbz := hbS.out.trans (hb9.mono hbS.out.size)
                      replace hs9 := Lib.hid hs9
                      replace hbz := Lib.hid hbz
                      repeat' ((fail_if_success at_builtin); (first | go_skip | go_guarded | go_step))
                      go_ret2
                      rw [hm1.out]
                      exact ⟨_, _, _, rfl, hbz.out, hs9.out⟩
                    exact AllReadyH.nil
                  exact AllReadyH.nil
                exact AllReadyH.nil
              refine AllReadyH.cons rfl (fun K hK => ?_) ?_
              · go_simp
                have hba := (Below.refl v1.heap.size v1).alloc (Nat.le_refl _) (.cells #[.string r.run, .string r.job] refT)
                have b0 := (CellsAt.new v1 #[.string r.run, .string r.job] refT).cell 0 _ rfl
                have b1 := (CellsAt.new v1 #[.string r.run, .string r.job] refT).cell 1 _ rfl
                have gBlt : v1.heap.size < (World.alloc v1 (.cells #[.string r.run, .string r.job] refT)).heap.size := by simp
                have gBne : some v1.heap.size ≠ Value.ownBlock (.slice (some ⟨vd.heap.size, 0, none⟩) 0 0) := hR.ltB (Nat.le_refl _)
                replace hR := hR.below rRef_ok hba
                replace hb := hb.trans (hba.mono hb.size)
                clear hba
                generalize World.alloc v1 _ = v3 at *
                refine hK.out _ _ ?_ (fun hHeld => ?_)
                · (try dsimp only)
                  exact ⟨(hO4.kept hb).c 1 0, (hO4.kept hb).c 1 1⟩
                clear hK K
                try simp only [Act.put, List.getElem_toArray, List.getElem_cons_zero, List.getElem_cons_succ, List.setIfInBounds_toArray, List.set_cons_zero, List.set_cons_succ]
                refine wpAnyH_ready (rs := [3]) (by kernel_rfl) (by simp) ?_
                refine AllReadyH.cons rfl (fun K hK => ?_) ?_
                · have hVs : w.heap.size ≤ vd.heap.size := Nat.le_trans hO4.below.size hVW.size
                  have hws := ((hS.wait.below rRef_ok (hO4.below.trans (hb.mono hO4.below.size))).more rRef_ok (S' := Beh v3 (.slice (some ⟨vd.heap.size, 0, none⟩) 0 0)) (fun b hb' => beh_old hR (Nat.lt_of_lt_of_le hb' hVs)))
                  refine step_appRS rRef_ok rRef_one hR hws Tryd.underlying58 ref_info hby1 ?_
                  intro v4 w4_ hR4 hg4
                  rw [List.nil_append] at hR4
                  obtain ⟨A4, c4, rfl⟩ := hR4.form
                  replace b0 := (hg4.cell (p := ⟨v1.heap.size, 0, none⟩) gBlt gBne).trans b0
                  replace b1 := (hg4.cell (p := ⟨v1.heap.size, 1, none⟩) gBlt gBne).trans b1
                  replace gBne := hg4.ne gBlt gBne
                  replace gBlt := Nat.lt_of_lt_of_le gBlt hg4.by_.size
                  replace hb := hVW.trans (hR4.bel.mono hVW.size)
                  replace hR := hR4
                  clear hR4 hg4 hws hVs
                  refine hK.out _ _ ?_ (fun hHeld => ?_)
                  · (try dsimp only)
                    exact ⟨(hO4.kept hb).c 1 0, (hO4.kept hb).c 1 1⟩
                  clear hK K
                  try simp only [Act.put, List.getElem_toArray, List.getElem_cons_zero, List.getElem_cons_succ, List.setIfInBounds_toArray, List.set_cons_zero, List.set_cons_succ]
                  refine wpAnyH_ready (rs := [6]) (by kernel_rfl) (by simp) ?_
                  refine AllReadyH.cons rfl (fun K hK => ?_) ?_
                  · have hbx := box_ref (S := Beh w4_ (.slice A4 x.waiting.length c4)) ⟨gBlt, gBne⟩ b0 b1
                    refine step_appRS rRef_ok rRef_one hR hbx Tryd.underlying58 ref_info hby2 ?_
                    intro v6 w6_ hR6 hg6
                    obtain ⟨A6, c6, rfl⟩ := hR6.form
                    have hl6 : (x.waiting ++ [r]).length = x.waiting.length + 1 := by simp
                    rw [hl6] at hR6 ⊢
                    replace hb := hVW.trans (hR6.bel.mono hVW.size)
                    replace hR := hR6
                    clear hR6 hg6 hbx hl6 gBlt gBne b0 b1
                    refine hK.out _ _ ?_ (fun hHeld => ?_)
                    · (try dsimp only)
                      exact ⟨(hO4.kept hb).c 1 0, (hO4.kept hb).c 1 1⟩
                    clear hK K
                    try simp only [Act.put, List.getElem_toArray, List.getElem_cons_zero, List.getElem_cons_succ, List.setIfInBounds_toArray, List.set_cons_zero, List.set_cons_succ]
                    refine tkY 7 (v := ?v181) rfl (.inl ⟨by rfl, ?hy181⟩) ?hr181
                    case hy181 => (intro w hSw; (try dsimp only at hSw); go_simp; try with_reducible rfl)
                    simp only [Act.put, List.getElem_toArray, List.getElem_cons_zero, List.getElem_cons_succ, List.setIfInBounds_toArray, List.set_cons_zero, List.set_cons_succ]
                    refine wpAnyH_ready (rs := [8]) (by kernel_rfl) (by simp) ?_
                    refine AllReadyH.cons rfl (fun K hK => ?_) ?_
                    · have x3 := (hO4.kept hb).c 0 3
                      have xf := (hO4.kept hb).fr 0
                      have hOs := (hO4.kept hb).store 0 rfl 3 (.slice A6 (x.waiting.length + 1) c6)
                      go_simp
                      clear x3 xf
                      refine hK.out _ _ ?_ (fun hHeld => ?_)
                      · (try dsimp only)
                        exact ⟨hOs.c 1 0, hOs.c 1 1⟩
                      clear hK K
                      try simp only [Act.put, List.getElem_toArray, List.getElem_cons_zero, List.getElem_cons_succ, List.setIfInBounds_toArray, List.set_cons_zero, List.set_cons_succ]
                      refine wpAnyH_done (by kernel_rfl) ?_ _
                      clear hOs
                      have hO5 : OwnB w w6_ [(r9.heap.size, [.string x.name, .string x.holder.run, .string x.holder.job, .slice A1 x.waiting.length c1, .slice A2 x.history.length c2]), (w.heap.size, [.string r.run, .string r.job])] := hO4.kept hb
                      clear c0_0 c0_1 c0_2 c0_3 c0_4 cf0 c1_0 c1_1 cf1 hO4
                      have c0_0 : w6_.cell? ⟨r9.heap.size, 0, none⟩ = some (.string x.name) := hO5.c 0 0
                      have c0_1 : w6_.cell? ⟨r9.heap.size, 1, none⟩ = some (.string x.holder.run) := hO5.c 0 1
                      have c0_2 : w6_.cell? ⟨r9.heap.size, 2, none⟩ = some (.string x.holder.job) := hO5.c 0 2
                      have c0_3 : w6_.cell? ⟨r9.heap.size, 3, none⟩ = some (.slice A1 x.waiting.length c1) := hO5.c 0 3
                      have c0_4 : w6_.cell? ⟨r9.heap.size, 4, none⟩ = some (.slice A2 x.history.length c2) := hO5.c 0 4
                      have cf0 := hO5.fr 0
                      have c1_0 : w6_.cell? ⟨w.heap.size, 0, none⟩ = some (.string r.run) := hO5.c 1 0
                      have c1_1 : w6_.cell? ⟨w.heap.size, 1, none⟩ = some (.string r.job) := hO5.c 1 1
                      have cf1 := hO5.fr 1
                      have hR4 := hR
                      have hbV := (HB0).trans (hVW.mono HB0.size)
                      have hxl := Nat.lt_of_lt_of_le (HX_) hVW.size
                      clear hR
                      have hld : (x.waiting ++ [r]).length = x.waiting.length + 1 := by simp
                      (try rw [hld] at hR4)
                      replace hld := Lib.hid hld
                      have hne : Value.ownBlock (.slice A6 (x.waiting.length + 1) c6) ≠ some (r9.heap.size) := fun e => by
                        obtain ⟨cs, HH, _⟩ := hR4
                        have := (HH.1.lt _ e).1
                        omega
                      have hR5 := (OwnR.up (w1 := vd) hbV hR4).farSet (xb := r9.heap.size) (o := 3) (u := .slice A6 (x.waiting.length + 1) c6) rRef_ok hne (by omega) (fun x c h => h)
                      generalize hx_ : World.setCell _ _ _ = wo6
                      rw [hx_] at hR5
                      have hO6 : OwnB w wo6 [(r9.heap.size, [.string x.name, .string x.holder.run, .string x.holder.job, .slice A6 (x.waiting.length + 1) c6, .slice A2 x.history.length c2]), (w.heap.size, [.string r.run, .string r.job])] := by rw [← hx_]; exact hO5.store 0 rfl 3 _
                      have zwo6 : w6_.heap.size ≤ wo6.heap.size := by rw [← hx_]; simp [World.setCell]
                      clear hx_ c0_0 c0_1 c0_2 c0_3 c0_4 cf0 c1_0 c1_1 cf1 hO5
                      have c0_0 : wo6.cell? ⟨r9.heap.size, 0, none⟩ = some (.string x.name) := hO6.c 0 0
                      have c0_1 : wo6.cell? ⟨r9.heap.size, 1, none⟩ = some (.string x.holder.run) := hO6.c 0 1
                      have c0_2 : wo6.cell? ⟨r9.heap.size, 2, none⟩ = some (.string x.holder.job) := hO6.c 0 2
                      have c0_3 : wo6.cell? ⟨r9.heap.size, 3, none⟩ = some (.slice A6 (x.waiting.length + 1) c6) := hO6.c 0 3
                      have c0_4 : wo6.cell? ⟨r9.heap.size, 4, none⟩ = some (.slice A2 x.history.length c2) := hO6.c 0 4
                      have cf0 := hO6.fr 0
                      have c1_0 : wo6.cell? ⟨w.heap.size, 0, none⟩ = some (.string r.run) := hO6.c 1 0
                      have c1_1 : wo6.cell? ⟨w.heap.size, 1, none⟩ = some (.string r.job) := hO6.c 1 1
                      have cf1 := hO6.fr 1
                      have hbS := hO6.below
                      have hs5 : RSlice rRef 2 wo6 (fun b => b < wo6.heap.size) A6 (x.waiting ++ [r]).length c6 (x.waiting ++ [r]) := by
                        have h9 := hR5
                        rw [← hld.out] at h9
                        exact h9.slice rRef_ok
                      have C := with_any l (askE r x) A6 c6 A2 c2 k (some ⟨g, o, none⟩) n c wo6 (h.below hbS) hk hs5 ((hS.hist.below rDep_ok hbS).more rDep_ok (fun _ hp => Nat.lt_of_lt_of_le hp hbS.size))
                      rw [show (askE r x).waiting.length = x.waiting.length + 1 from hld.out] at C
                      replace C := Lib.hid C
                      replace hbS := Lib.hid hbS
                      clear hR4 hR5 hs5 hne
                      repeat' ((fail_if_success at_builtin); (first | go_skip | go_guarded | go_step))
                      refine C.out.mono ?_
                      clear C
                      rintro e w9 ⟨A', n', c', rfl, hb9, hs9⟩
                      dsimp only
                      have hbz := hbS.out.trans (hb9.mono hbS.out.size)
                      replace hs9 := Lib.hid hs9
                      replace hbz := Lib.hid hbz
                      repeat' ((fail_if_success at_builtin); (first | go_skip | go_guarded | go_step))
                      go_ret2
                      rw [hm1.out]
                      exact ⟨_, _, _, rfl, hbz.out, hs9.out⟩
                    exact AllReadyH.nil
                  exact AllReadyH.nil
                exact AllReadyH.nil
              exact AllReadyH.nil
            refine AllReadyH.cons rfl (fun K hK => ?_) ?_
            · go_simp
              have hba := (Below.refl v1.heap.size v1).alloc (Nat.le_refl _) (.cells #[.string r.run, .string r.job] refT)
              have b0 := (CellsAt.new v1 #[.string r.run, .string r.job] refT).cell 0 _ rfl
              have b1 := (CellsAt.new v1 #[.string r.run, .string r.job] refT).cell 1 _ rfl
              have gBlt : v1.heap.size < (World.alloc v1 (.cells #[.string r.run, .string r.job] refT)).heap.size := by simp
              have gBne : some v1.heap.size ≠ Value.ownBlock (.slice (some ⟨vd.heap.size, 0, none⟩) 0 0) := hR.ltB (Nat.le_refl _)
              replace hR := hR.below rRef_ok hba
              replace hb := hb.trans (hba.mono hb.size)
              clear hba
              generalize World.alloc v1 _ = v2 at *
              refine hK.out _ _ ?_ (fun hHeld => ?_)
              · (try dsimp only)
                exact ⟨(hO4.kept hb).c 1 0, (hO4.kept hb).c 1 1⟩
              clear hK K
              try simp only [Act.put, List.getElem_toArray, List.getElem_cons_zero, List.getElem_cons_succ, List.setIfInBounds_toArray, List.set_cons_zero, List.set_cons_succ]
              refine wpAnyH_ready (rs := [2]) (by kernel_rfl) (by simp) ?_
              refine AllReadyH.cons rfl (fun K hK => ?_) ?_
              · have x3 := (hO4.kept hb).c 0 3
                go_simp
                clear x3
                refine hK.out _ _ ?_ (fun hHeld => ?_)
                · (try dsimp only)
                  exact ⟨(hO4.kept hb).c 1 0, (hO4.kept hb).c 1 1⟩
                clear hK K
                try simp only [Act.put, List.getElem_toArray, List.getElem_cons_zero, List.getElem_cons_succ, List.setIfInBounds_toArray, List.set_cons_zero, List.set_cons_succ]
                refine wpAnyH_ready (rs := [3]) (by kernel_rfl) (by simp) ?_
                refine AllReadyH.cons rfl (fun K hK => ?_) ?_
                · have hVs : w.heap.size ≤ vd.heap.size := Nat.le_trans hO4.below.size hVW.size
                  have hws := ((hS.wait.below rRef_ok (hO4.below.trans (hb.mono hO4.below.size))).more rRef_ok (S' := Beh v2 (.slice (some ⟨vd.heap.size, 0, none⟩) 0 0)) (fun b hb' => beh_old hR (Nat.lt_of_lt_of_le hb' hVs)))
                  refine step_appRS rRef_ok rRef_one hR hws Tryd.underlying58 ref_info hby1 ?_
                  intro v4 w4_ hR4 hg4
                  rw [List.nil_append] at hR4
                  obtain ⟨A4, c4, rfl⟩ := hR4.form
                  replace b0 := (hg4.cell (p := ⟨v1.heap.size, 0, none⟩) gBlt gBne).trans b0
                  replace b1 := (hg4.cell (p := ⟨v1.heap.size, 1, none⟩) gBlt gBne).trans b1
                  replace gBne := hg4.ne gBlt gBne
                  replace gBlt := Nat.lt_of_lt_of_le gBlt hg4.by_.size
                  replace hb := hVW.trans (hR4.bel.mono hVW.size)
                  replace hR := hR4
                  clear hR4 hg4 hws hVs
                  refine hK.out _ _ ?_ (fun hHeld => ?_)
                  · (try dsimp only)
                    exact ⟨(hO4.kept hb).c 1 0, (hO4.kept hb).c 1 1⟩
                  clear hK K
                  try simp only [Act.put, List.getElem_toArray, List.getElem_cons_zero, List.getElem_cons_succ, List.setIfInBounds_toArray, List.set_cons_zero, List.set_cons_succ]
                  refine wpAnyH_ready (rs := [6]) (by kernel_rfl) (by simp) ?_
                  refine AllReadyH.cons rfl (fun K hK => ?_) ?_
                  · have hbx := box_ref (S := Beh w4_ (.slice A4 x.waiting.length c4)) ⟨gBlt, gBne⟩ b0 b1
                    refine step_appRS rRef_ok rRef_one hR hbx Tryd.underlying58 ref_info hby2 ?_
                    intro v6 w6_ hR6 hg6
                    obtain ⟨A6, c6, rfl⟩ := hR6.form
                    have hl6 : (x.waiting ++ [r]).length = x.waiting.length + 1 := by simp
                    rw [hl6] at hR6 ⊢
                    replace hb := hVW.trans (hR6.bel.mono hVW.size)
                    replace hR := hR6
                    clear hR6 hg6 hbx hl6 gBlt gBne b0 b1
                    refine hK.out _ _ ?_ (fun hHeld => ?_)
                    · (try dsimp only)
                      exact ⟨(hO4.kept hb).c 1 0, (hO4.kept hb).c 1 1⟩
                    clear hK K
                    try simp only [Act.put, List.getElem_toArray, List.getElem_cons_zero, List.getElem_cons_succ, List.setIfInBounds_toArray, List.set_cons_zero, List.set_cons_succ]
                    refine tkY 7 (v := ?v182) rfl (.inl ⟨by rfl, ?hy182⟩) ?hr182
                    case hy182 => (intro w hSw; (try dsimp only at hSw); go_simp; try with_reducible rfl)
                    simp only [Act.put, List.getElem_toArray, List.getElem_cons_zero, List.getElem_cons_succ, List.setIfInBounds_toArray, List.set_cons_zero, List.set_cons_succ]
                    refine wpAnyH_ready (rs := [8]) (by kernel_rfl) (by simp) ?_
                    refine AllReadyH.cons rfl (fun K hK => ?_) ?_
                    · have x3 := (hO4.kept hb).c 0 3
                      have xf := (hO4.kept hb).fr 0
                      have hOs := (hO4.kept hb).store 0 rfl 3 (.slice A6 (x.waiting.length + 1) c6)
                      go_simp
                      clear x3 xf
                      refine hK.out _ _ ?_ (fun hHeld => ?_)
                      · (try dsimp only)
                        exact ⟨hOs.c 1 0, hOs.c 1 1⟩
                      clear hK K
                      try simp only [Act.put, List.getElem_toArray, List.getElem_cons_zero, List.getElem_cons_succ, List.setIfInBounds_toArray, List.set_cons_zero, List.set_cons_succ]
                      refine wpAnyH_done (by kernel_rfl) ?_ _
                      clear hOs
                      have hO5 : OwnB w w6_ [(r9.heap.size, [.string x.name, .string x.holder.run, .string x.holder.job, .slice A1 x.waiting.length c1, .slice A2 x.history.length c2]), (w.heap.size, [.string r.run, .string r.job])] := hO4.kept hb
                      clear c0_0 c0_1 c0_2 c0_3 c0_4 cf0 c1_0 c1_1 cf1 hO4
                      have c0_0 : w6_.cell? ⟨r9.heap.size, 0, none⟩ = some (.string x.name) := hO5.c 0 0
                      have c0_1 : w6_.cell? ⟨r9.heap.size, 1, none⟩ = some (.string x.holder.run) := hO5.c 0 1
                      have c0_2 : w6_.cell? ⟨r9.heap.size, 2, none⟩ = some (.string x.holder.job) := hO5.c 0 2
                      have c0_3 : w6_.cell? ⟨r9.heap.size, 3, none⟩ = some (.slice A1 x.waiting.length c1) := hO5.c 0 3
                      have c0_4 : w6_.cell? ⟨r9.heap.size, 4, none⟩ = some (.slice A2 x.history.length c2) := hO5.c 0 4
                      have cf0 := hO5.fr 0
                      have c1_0 : w6_.cell? ⟨w.heap.size, 0, none⟩ = some (.string r.run) := hO5.c 1 0
                      have c1_1 : w6_.cell? ⟨w.heap.size, 1, none⟩ = some (.string r.job) := hO5.c 1 1
                      have cf1 := hO5.fr 1
                      have hR4 := hR
                      have hbV := (HB0).trans (hVW.mono HB0.size)
                      have hxl := Nat.lt_of_lt_of_le (HX_) hVW.size
                      clear hR
                      have hld : (x.waiting ++ [r]).length = x.waiting.length + 1 := by simp
                      (try rw [hld] at hR4)
                      replace hld := Lib.hid hld
                      have hne : Value.ownBlock (.slice A6 (x.waiting.length + 1) c6) ≠ some (r9.heap.size) := fun e => by
                        obtain ⟨cs, HH, _⟩ := hR4
                        have := (HH.1.lt _ e).1
                        omega
                      have hR5 := (OwnR.up (w1 := vd) hbV hR4).farSet (xb := r9.heap.size) (o := 3) (u := .slice A6 (x.waiting.length + 1) c6) rRef_ok hne (by omega) (fun x c h => h)
                      generalize hx_ : World.setCell _ _ _ = wo6
                      rw [hx_] at hR5
                      have hO6 : OwnB w wo6 [(r9.heap.size, [.string x.name, .string x.holder.run, .string x.holder.job, .slice A6 (x.waiting.length + 1) c6, .slice A2 x.history.length c2]), (w.heap.size, [.string r.run, .string r.job])] := by rw [← hx_]; exact hO5.store 0 rfl 3 _
                      have zwo6 : w6_.heap.size ≤ wo6.heap.size := by rw [← hx_]; simp [World.setCell]
                      clear hx_ c0_0 c0_1 c0_2 c0_3 c0_4 cf0 c1_0 c1_1 cf1 hO5
                      have c0_0 : wo6.cell? ⟨r9.heap.size, 0, none⟩ = some (.string x.name) := hO6.c 0 0
                      have c0_1 : wo6.cell? ⟨r9.heap.size, 1, none⟩ = some (.string x.holder.run) := hO6.c 0 1
                      have c0_2 : wo6.cell? ⟨r9.heap.size, 2, none⟩ = some (.string x.holder.job) := hO6.c 0 2
                      have c0_3 : wo6.cell? ⟨r9.heap.size, 3, none⟩ = some (.slice A6 (x.waiting.length + 1) c6) := hO6.c 0 3
                      have c0_4 : wo6.cell? ⟨r9.heap.size, 4, none⟩ = some (.slice A2 x.history.length c2) := hO6.c 0 4
                      have cf0 := hO6.fr 0
                      have c1_0 : wo6.cell? ⟨w.heap.size, 0, none⟩ = some (.string r.run) := hO6.c 1 0
                      have c1_1 : wo6.cell? ⟨w.heap.size, 1, none⟩ = some (.string r.job) := hO6.c 1 1
                      have cf1 := hO6.fr 1
                      have hbS := hO6.below
                      have hs5 : RSlice rRef 2 wo6 (fun b => b < wo6.heap.size) A6 (x.waiting ++ [r]).length c6 (x.waiting ++ [r]) := by
                        have h9 := hR5
                        rw [← hld.out] at h9
                        exact h9.slice rRef_ok
                      have C := with_any l (askE r x) A6 c6 A2 c2 k (some ⟨g, o, none⟩) n c wo6 (h.below hbS) hk hs5 ((hS.hist.below rDep_ok hbS).more rDep_ok (fun _ hp => Nat.lt_of_lt_of_le hp hbS.size))
                      rw [show (askE r x).waiting.length = x.waiting.length + 1 from hld.out] at C
                      replace C := Lib.hid C
                      replace hbS := Lib.hid hbS
                      clear hR4 hR5 hs5 hne
                      repeat' ((fail_if_success at_builtin); (first | go_skip | go_guarded | go_step))
                      refine C.out.mono ?_
                      clear C
                      rintro e w9 ⟨A', n', c', rfl, hb9, hs9⟩
                      dsimp only
                      have hbz := hbS.out.trans (hb9.mono hbS.out.size)
                      replace hs9 := Lib.hid hs9
                      replace hbz := Lib.hid hbz
                      repeat' ((fail_if_success at_builtin); (first | go_skip | go_guarded | go_step))
                      go_ret2
                      rw [hm1.out]
                      exact ⟨_, _, _, rfl, hbz.out, hs9.out⟩
                    exact AllReadyH.nil
                  exact AllReadyH.nil
                exact AllReadyH.nil
              exact AllReadyH.nil
            exact AllReadyH.nil
          refine AllReadyH.cons rfl (fun K hK => ?_) ?_
          · have x3 := (hO4.kept hb).c 0 3
            go_simp
            clear x3
            refine hK.out _ _ ?_ (fun hHeld => ?_)
            · (try dsimp only)
              exact ⟨(hO4.kept hb).c 1 0, (hO4.kept hb).c 1 1⟩
            clear hK K
            try simp only [Act.put, List.getElem_toArray, List.getElem_cons_zero, List.getElem_cons_succ, List.setIfInBounds_toArray, List.set_cons_zero, List.set_cons_succ]
            refine wpAnyH_ready (rs := [0, 5]) (by kernel_rfl) (by simp) ?_
            refine AllReadyH.cons rfl (fun K hK => ?_) ?_
            · go_simp
              have hba := (Below.refl vd.heap.size vd).alloc (Nat.le_refl _) (.cells #[] refT)
              have hR := OwnR.empty (r := rRef) (sz := 2) vd refT
              have hVW := hb
              replace hb := hb.trans (hba.mono hb.size)
              clear hba
              generalize World.alloc vd _ = v2 at *
              refine hK.out _ _ ?_ (fun hHeld => ?_)
              · (try dsimp only)
                exact ⟨(hO4.kept hb).c 1 0, (hO4.kept hb).c 1 1⟩
              clear hK K
              try simp only [Act.put, List.getElem_toArray, List.getElem_cons_zero, List.getElem_cons_succ, List.setIfInBounds_toArray, List.set_cons_zero, List.set_cons_succ]
              refine wpAnyH_ready (rs := [3, 5]) (by kernel_rfl) (by simp) ?_
              refine AllReadyH.cons rfl (fun K hK => ?_) ?_
              · have hVs : w.heap.size ≤ vd.heap.size := Nat.le_trans hO4.below.size hVW.size
                have hws := ((hS.wait.below rRef_ok (hO4.below.trans (hb.mono hO4.below.size))).more rRef_ok (S' := Beh v2 (.slice (some ⟨vd.heap.size, 0, none⟩) 0 0)) (fun b hb' => beh_old hR (Nat.lt_of_lt_of_le hb' hVs)))
                refine step_appRS rRef_ok rRef_one hR hws Tryd.underlying58 ref_info hby1 ?_
                intro v4 w4_ hR4 hg4
                rw [List.nil_append] at hR4
                obtain ⟨A4, c4, rfl⟩ := hR4.form
                replace hb := hVW.trans (hR4.bel.mono hVW.size)
                replace hR := hR4
                clear hR4 hg4 hws hVs
                refine hK.out _ _ ?_ (fun hHeld => ?_)
                · (try dsimp only)
                  exact ⟨(hO4.kept hb).c 1 0, (hO4.kept hb).c 1 1⟩
                clear hK K
                try simp only [Act.put, List.getElem_toArray, List.getElem_cons_zero, List.getElem_cons_succ, List.setIfInBounds_toArray, List.set_cons_zero, List.set_cons_succ]
                refine wpAnyH_ready (rs := [5]) (by kernel_rfl) (by simp) ?_
                refine AllReadyH.cons rfl (fun K hK => ?_) ?_
                · go_simp
                  have hba := (Below.refl w4_.heap.size w4_).alloc (Nat.le_refl _) (.cells #[.string r.run, .string r.job] refT)
                  have b0 := (CellsAt.new w4_ #[.string r.run, .string r.job] refT).cell 0 _ rfl
                  have b1 := (CellsAt.new w4_ #[.string r.run, .string r.job] refT).cell 1 _ rfl
                  have gBlt : w4_.heap.size < (World.alloc w4_ (.cells #[.string r.run, .string r.job] refT)).heap.size := by simp
                  have gBne : some w4_.heap.size ≠ Value.ownBlock (.slice A4 x.waiting.length c4) := hR.ltB (Nat.le_refl _)
                  replace hR := hR.below rRef_ok hba
                  replace hb := hb.trans (hba.mono hb.size)
                  clear hba
                  generalize World.alloc w4_ _ = v4 at *
                  refine hK.out _ _ ?_ (fun hHeld => ?_)
                  · (try dsimp only)
                    exact ⟨(hO4.kept hb).c 1 0, (hO4.kept hb).c 1 1⟩
                  clear hK K
                  try simp only [Act.put, List.getElem_toArray, List.getElem_cons_zero, List.getElem_cons_succ, List.setIfInBounds_toArray, List.set_cons_zero, List.set_cons_succ]
                  refine wpAnyH_ready (rs := [6]) (by kernel_rfl) (by simp) ?_
                  refine AllReadyH.cons rfl (fun K hK => ?_) ?_
                  · have hbx := box_ref (S := Beh v4 (.slice A4 x.waiting.length c4)) ⟨gBlt, gBne⟩ b0 b1
                    refine step_appRS rRef_ok rRef_one hR hbx Tryd.underlying58 ref_info hby2 ?_
                    intro v6 w6_ hR6 hg6
                    obtain ⟨A6, c6, rfl⟩ := hR6.form
                    have hl6 : (x.waiting ++ [r]).length = x.waiting.length + 1 := by simp
                    rw [hl6] at hR6 ⊢
                    replace hb := hVW.trans (hR6.bel.mono hVW.size)
                    replace hR := hR6
                    clear hR6 hg6 hbx hl6 gBlt gBne b0 b1
                    refine hK.out _ _ ?_ (fun hHeld => ?_)
                    · (try dsimp only)
                      exact ⟨(hO4.kept hb).c 1 0, (hO4.kept hb).c 1 1⟩
                    clear hK K
                    try simp only [Act.put, List.getElem_toArray, List.getElem_cons_zero, List.getElem_cons_succ, List.setIfInBounds_toArray, List.set_cons_zero, List.set_cons_succ]
                    refine tkY 7 (v := ?v183) rfl (.inl ⟨by rfl, ?hy183⟩) ?hr183
                    case hy183 => (intro w hSw; (try dsimp only at hSw); go_simp; try with_reducible rfl)
                    simp only [Act.put, List.getElem_toArray, List.getElem_cons_zero, List.getElem_cons_succ, List.setIfInBounds_toArray, List.set_cons_zero, List.set_cons_succ]
                    refine wpAnyH_ready (rs := [8]) (by kernel_rfl) (by simp) ?_
                    refine AllReadyH.cons rfl (fun K hK => ?_) ?_
                    · have x3 := (hO4.kept hb).c 0 3
                      have xf := (hO4.kept hb).fr 0
                      have hOs := (hO4.kept hb).store 0 rfl 3 (.slice A6 (x.waiting.length + 1) c6)
                      go_simp
                      clear x3 xf
                      refine hK.out _ _ ?_ (fun hHeld => ?_)
                      · (try dsimp only)
                        exact ⟨hOs.c 1 0, hOs.c 1 1⟩
                      clear hK K
                      try simp only [Act.put, List.getElem_toArray, List.getElem_cons_zero, List.getElem_cons_succ, List.setIfInBounds_toArray, List.set_cons_zero, List.set_cons_succ]
                      refine wpAnyH_done (by kernel_rfl) ?_ _
                      clear hOs
                      have hO5 : OwnB w w6_ [(r9.heap.size, [.string x.name, .string x.holder.run, .string x.holder.job, .slice A1 x.waiting.length c1, .slice A2 x.history.length c2]), (w.heap.size, [.string r.run, .string r.job])] := hO4.kept hb
                      clear c0_0 c0_1 c0_2 c0_3 c0_4 cf0 c1_0 c1_1 cf1 hO4
                      have c0_0 : w6_.cell? ⟨r9.heap.size, 0, none⟩ = some (.string x.name) := hO5.c 0 0
                      have c0_1 : w6_.cell? ⟨r9.heap.size, 1, none⟩ = some (.string x.holder.run) := hO5.c 0 1
                      have c0_2 : w6_.cell? ⟨r9.heap.size, 2, none⟩ = some (.string x.holder.job) := hO5.c 0 2
                      have c0_3 : w6_.cell? ⟨r9.heap.size, 3, none⟩ = some (.slice A1 x.waiting.length c1) := hO5.c 0 3
                      have c0_4 : w6_.cell? ⟨r9.heap.size, 4, none⟩ = some (.slice A2 x.history.length c2) := hO5.c 0 4
                      have cf0 := hO5.fr 0
                      have c1_0 : w6_.cell? ⟨w.heap.size, 0, none⟩ = some (.string r.run) := hO5.c 1 0
                      have c1_1 : w6_.cell? ⟨w.heap.size, 1, none⟩ = some (.string r.job) := hO5.c 1 1
                      have cf1 := hO5.fr 1
                      have hR4 := hR
                      have hbV := (HB0).trans (hVW.mono HB0.size)
                      have hxl := Nat.lt_of_lt_of_le (HX_) hVW.size
                      clear hR
                      have hld : (x.waiting ++ [r]).length = x.waiting.length + 1 := by simp
                      (try rw [hld] at hR4)
                      replace hld := Lib.hid hld
                      have hne : Value.ownBlock (.slice A6 (x.waiting.length + 1) c6) ≠ some (r9.heap.size) := fun e => by
                        obtain ⟨cs, HH, _⟩ := hR4
                        have := (HH.1.lt _ e).1
                        omega
                      have hR5 := (OwnR.up (w1 := vd) hbV hR4).farSet (xb := r9.heap.size) (o := 3) (u := .slice A6 (x.waiting.length + 1) c6) rRef_ok hne (by omega) (fun x c h => h)
                      generalize hx_ : World.setCell _ _ _ = wo6
                      rw [hx_] at hR5
                      have hO6 : OwnB w wo6 [(r9.heap.size, [.string x.name, .string x.holder.run, .string x.holder.job, .slice A6 (x.waiting.length + 1) c6, .slice A2 x.history.length c2]), (w.heap.size, [.string r.run, .string r.job])] := by rw [← hx_]; exact hO5.store 0 rfl 3 _
                      have zwo6 : w6_.heap.size ≤ wo6.heap.size := by rw [← hx_]; simp [World.setCell]
                      clear hx_ c0_0 c0_1 c0_2 c0_3 c0_4 cf0 c1_0 c1_1 cf1 hO5
                      have c0_0 : wo6.cell? ⟨r9.heap.size, 0, none⟩ = some (.string x.name) := hO6.c 0 0
                      have c0_1 : wo6.cell? ⟨r9.heap.size, 1, none⟩ = some (.string x.holder.run) := hO6.c 0 1
                      have c0_2 : wo6.cell? ⟨r9.heap.size, 2, none⟩ = some (.string x.holder.job) := hO6.c 0 2
                      have c0_3 : wo6.cell? ⟨r9.heap.size, 3, none⟩ = some (.slice A6 (x.waiting.length + 1) c6) := hO6.c 0 3
                      have c0_4 : wo6.cell? ⟨r9.heap.size, 4, none⟩ = some (.slice A2 x.history.length c2) := hO6.c 0 4
                      have cf0 := hO6.fr 0
                      have c1_0 : wo6.cell? ⟨w.heap.size, 0, none⟩ = some (.string r.run) := hO6.c 1 0
                      have c1_1 : wo6.cell? ⟨w.heap.size, 1, none⟩ = some (.string r.job) := hO6.c 1 1
                      have cf1 := hO6.fr 1
                      have hbS := hO6.below
                      have hs5 : RSlice rRef 2 wo6 (fun b => b < wo6.heap.size) A6 (x.waiting ++ [r]).length c6 (x.waiting ++ [r]) := by
                        have h9 := hR5
                        rw [← hld.out] at h9
                        exact h9.slice rRef_ok
                      have C := with_any l (askE r x) A6 c6 A2 c2 k (some ⟨g, o, none⟩) n c wo6 (h.below hbS) hk hs5 ((hS.hist.below rDep_ok hbS).more rDep_ok (fun _ hp => Nat.lt_of_lt_of_le hp hbS.size))
                      rw [show (askE r x).waiting.length = x.waiting.length + 1 from hld.out] at C
                      replace C := Lib.hid C
                      replace hbS := Lib.hid hbS
                      clear hR4 hR5 hs5 hne
                      repeat' ((fail_if_success at_builtin); (first | go_skip | go_guarded | go_step))
                      refine C.out.mono ?_
                      clear C
                      rintro e w9 ⟨A', n', c', rfl, hb9, hs9⟩
                      dsimp only
                      have hbz := hbS.out.trans (hb9.mono hbS.out.size)
                      replace hs9 := Lib.hid hs9
                      replace hbz := Lib.hid hbz
                      repeat' ((fail_if_success at_builtin); (first | go_skip | go_guarded | go_step))
                      go_ret2
                      rw [hm1.out]
                      exact ⟨_, _, _, rfl, hbz.out, hs9.out⟩
                    exact AllReadyH.nil
                  exact AllReadyH.nil
                exact AllReadyH.nil
              refine AllReadyH.cons rfl (fun K hK => ?_) ?_
              · go_simp
                have hba := (Below.refl v2.heap.size v2).alloc (Nat.le_refl _) (.cells #[.string r.run, .string r.job] refT)
                have b0 := (CellsAt.new v2 #[.string r.run, .string r.job] refT).cell 0 _ rfl
                have b1 := (CellsAt.new v2 #[.string r.run, .string r.job] refT).cell 1 _ rfl
                have gBlt : v2.heap.size < (World.alloc v2 (.cells #[.string r.run, .string r.job] refT)).heap.size := by simp
                have gBne : some v2.heap.size ≠ Value.ownBlock (.slice (some ⟨vd.heap.size, 0, none⟩) 0 0) := hR.ltB (Nat.le_refl _)
                replace hR := hR.below rRef_ok hba
                replace hb := hb.trans (hba.mono hb.size)
                clear hba
                generalize World.alloc v2 _ = v3 at *
                refine hK.out _ _ ?_ (fun hHeld => ?_)
                · (try dsimp only)
                  exact ⟨(hO4.kept hb).c 1 0, (hO4.kept hb).c 1 1⟩
                clear hK K
                try simp only [Act.put, List.getElem_toArray, List.getElem_cons_zero, List.getElem_cons_succ, List.setIfInBounds_toArray, List.set_cons_zero, List.set_cons_succ]
                refine wpAnyH_ready (rs := [3]) (by kernel_rfl) (by simp) ?_
                refine AllReadyH.cons rfl (fun K hK => ?_) ?_
                · have hVs : w.heap.size ≤ vd.heap.size := Nat.le_trans hO4.below.size hVW.size
                  have hws := ((hS.wait.below rRef_ok (hO4.below.trans (hb.mono hO4.below.size))).more rRef_ok (S' := Beh v3 (.slice (some ⟨vd.heap.size, 0, none⟩) 0 0)) (fun b hb' => beh_old hR (Nat.lt_of_lt_of_le hb' hVs)))
                  refine step_appRS rRef_ok rRef_one hR hws Tryd.underlying58 ref_info hby1 ?_
                  intro v4 w4_ hR4 hg4
                  rw [List.nil_append] at hR4
                  obtain ⟨A4, c4, rfl⟩ := hR4.form
                  replace b0 := (hg4.cell (p := ⟨v2.heap.size, 0, none⟩) gBlt gBne).trans b0
                  replace b1 := (hg4.cell (p := ⟨v2.heap.size, 1, none⟩) gBlt gBne).trans b1
                  replace gBne := hg4.ne gBlt gBne
                  replace gBlt := Nat.lt_of_lt_of_le gBlt hg4.by_.size
                  replace hb := hVW.trans (hR4.bel.mono hVW.size)
                  replace hR := hR4
                  clear hR4 hg4 hws hVs
                  refine hK.out _ _ ?_ (fun hHeld => ?_)
                  · (try dsimp only)
                    exact ⟨(hO4.kept hb).c 1 0, (hO4.kept hb).c 1 1⟩
                  clear hK K
                  try simp only [Act.put, List.getElem_toArray, List.getElem_cons_zero, List.getElem_cons_succ, List.setIfInBounds_toArray, List.set_cons_zero, List.set_cons_succ]
                  refine wpAnyH_ready (rs := [6]) (by kernel_rfl) (by simp) ?_
                  refine AllReadyH.cons rfl (fun K hK => ?_) ?_
                  · have hbx := box_ref (S := Beh w4_ (.slice A4 x.waiting.length c4)) ⟨gBlt, gBne⟩ b0 b1
                    refine step_appRS rRef_ok rRef_one hR hbx Tryd.underlying58 ref_info hby2 ?_
                    intro v6 w6_ hR6 hg6
                    obtain ⟨A6, c6, rfl⟩ := hR6.form
                    have hl6 : (x.waiting ++ [r]).length = x.waiting.length + 1 := by simp
                    rw [hl6] at hR6 ⊢
                    replace hb := hVW.trans (hR6.bel.mono hVW.size)
                    replace hR := hR6
                    clear hR6 hg6 hbx hl6 gBlt gBne b0 b1
                    refine hK.out _ _ ?_ (fun hHeld => ?_)
                    · (try dsimp only)
                      exact ⟨(hO4.kept hb).c 1 0, (hO4.kept hb).c 1 1⟩
                    clear hK K
                    try simp only [Act.put, List.getElem_toArray, List.getElem_cons_zero, List.getElem_cons_succ, List.setIfInBounds_toArray, List.set_cons_zero, List.set_cons_succ]
                    refine tkY 7 (v := ?v184) rfl (.inl ⟨by rfl, ?hy184⟩) ?hr184
                    case hy184 => (intro w hSw; (try dsimp only at hSw); go_simp; try with_reducible rfl)
                    simp only [Act.put, List.getElem_toArray, List.getElem_cons_zero, List.getElem_cons_succ, List.setIfInBounds_toArray, List.set_cons_zero, List.set_cons_succ]
                    refine wpAnyH_ready (rs := [8]) (by kernel_rfl) (by simp) ?_
                    refine AllReadyH.cons rfl (fun K hK => ?_) ?_
                    · have x3 := (hO4.kept hb).c 0 3
                      have xf := (hO4.kept hb).fr 0
                      have hOs := (hO4.kept hb).store 0 rfl 3 (.slice A6 (x.waiting.length + 1) c6)
                      go_simp
                      clear x3 xf
                      refine hK.out _ _ ?_ (fun hHeld => ?_)
                      · (try dsimp only)
                        exact ⟨hOs.c 1 0, hOs.c 1 1⟩
                      clear hK K
                      try simp only [Act.put, List.getElem_toArray, List.getElem_cons_zero, List.getElem_cons_succ, List.setIfInBounds_toArray, List.set_cons_zero, List.set_cons_succ]
                      refine wpAnyH_done (by kernel_rfl) ?_ _
                      clear hOs
                      have hO5 : OwnB w w6_ [(r9.heap.size, [.string x.name, .string x.holder.run, .string x.holder.job, .slice A1 x.waiting.length c1, .slice A2 x.history.length c2]), (w.heap.size, [.string r.run, .string r.job])] := hO4.kept hb
                      clear c0_0 c0_1 c0_2 c0_3 c0_4 cf0 c1_0 c1_1 cf1 hO4
                      have c0_0 : w6_.cell? ⟨r9.heap.size, 0, none⟩ = some (.string x.name) := hO5.c 0 0
                      have c0_1 : w6_.cell? ⟨r9.heap.size, 1, none⟩ = some (.string x.holder.run) := hO5.c 0 1
                      have c0_2 : w6_.cell? ⟨r9.heap.size, 2, none⟩ = some (.string x.holder.job) := hO5.c 0 2
                      have c0_3 : w6_.cell? ⟨r9.heap.size, 3, none⟩ = some (.slice A1 x.waiting.length c1) := hO5.c 0 3
                      have c0_4 : w6_.cell? ⟨r9.heap.size, 4, none⟩ = some (.slice A2 x.history.length c2) := hO5.c 0 4
                      have cf0 := hO5.fr 0
                      have c1_0 : w6_.cell? ⟨w.heap.size, 0, none⟩ = some (.string r.run) := hO5.c 1 0
                      have c1_1 : w6_.cell? ⟨w.heap.size, 1, none⟩ = some (.string r.job) := hO5.c 1 1
                      have cf1 := hO5.fr 1
                      have hR4 := hR
                      have hbV := (HB0).trans (hVW.mono HB0.size)
                      have hxl := Nat.lt_of_lt_of_le (HX_) hVW.size
                      clear hR
                      have hld : (x.waiting ++ [r]).length = x.waiting.length + 1 := by simp
                      (try rw [hld] at hR4)
                      replace hld := Lib.hid hld
                      have hne : Value.ownBlock (.slice A6 (x.waiting.length + 1) c6) ≠ some (r9.heap.size) := fun e => by
                        obtain ⟨cs, HH, _⟩ := hR4
                        have := (HH.1.lt _ e).1
                        omega
                      have hR5 := (OwnR.up (w1 := vd) hbV hR4).farSet (xb := r9.heap.size) (o := 3) (u := .slice A6 (x.waiting.length + 1) c6) rRef_ok hne (by omega) (fun x c h => h)
                      generalize hx_ : World.setCell _ _ _ = wo6
                      rw [hx_] at hR5
                      have hO6 : OwnB w wo6 [(r9.heap.size, [.string x.name, .string x.holder.run, .string x.holder.job, .slice A6 (x.waiting.length + 1) c6, .slice A2 x.history.length c2]), (w.heap.size, [.string r.run, .string r.job])] := by rw [← hx_]; exact hO5.store 0 rfl 3 _
                      have zwo6 : w6_.heap.size ≤ wo6.heap.size := by rw [← hx_]; simp [World.setCell]
                      clear hx_ c0_0 c0_1 c0_2 c0_3 c0_4 cf0 c1_0 c1_1 cf1 hO5
                      have c0_0 : wo6.cell? ⟨r9.heap.size, 0, none⟩ = some (.string x.name) := hO6.c 0 0
                      have c0_1 : wo6.cell? ⟨r9.heap.size, 1, none⟩ = some (.string x.holder.run) := hO6.c 0 1
                      have c0_2 : wo6.cell? ⟨r9.heap.size, 2, none⟩ = some (.string x.holder.job) := hO6.c 0 2
                      have c0_3 : wo6.cell? ⟨r9.heap.size, 3, none⟩ = some (.slice A6 (x.waiting.length + 1) c6) := hO6.c 0 3
                      have c0_4 : wo6.cell? ⟨r9.heap.size, 4, none⟩ = some (.slice A2 x.history.length c2) := hO6.c 0 4
                      have cf0 := hO6.fr 0
                      have c1_0 : wo6.cell? ⟨w.heap.size, 0, none⟩ = some (.string r.run) := hO6.c 1 0
                      have c1_1 : wo6.cell? ⟨w.heap.size, 1, none⟩ = some (.string r.job) := hO6.c 1 1
                      have cf1 := hO6.fr 1
                      have hbS := hO6.below
                      have hs5 : RSlice rRef 2 wo6 (fun b => b < wo6.heap.size) A6 (x.waiting ++ [r]).length c6 (x.waiting ++ [r]) := by
                        have h9 := hR5
                        rw [← hld.out] at h9
                        exact h9.slice rRef_ok
                      have C := with_any l (askE r x) A6 c6 A2 c2 k (some ⟨g, o, none⟩) n c wo6 (h.below hbS) hk hs5 ((hS.hist.below rDep_ok hbS).more rDep_ok (fun _ hp => Nat.lt_of_lt_of_le hp hbS.size))
                      rw [show (askE r x).waiting.length = x.waiting.length + 1 from hld.out] at C
                      replace C := Lib.hid C
                      replace hbS := Lib.hid hbS
                      clear hR4 hR5 hs5 hne
                      repeat' ((fail_if_success at_builtin); (first | go_skip | go_guarded | go_step))
                      refine C.out.mono ?_
                      clear C
                      rintro e w9 ⟨A', n', c', rfl, hb9, hs9⟩
                      dsimp only
                      have hbz := hbS.out.trans (hb9.mono hbS.out.size)
                      replace hs9 := Lib.hid hs9
                      replace hbz := Lib.hid hbz
                      repeat' ((fail_if_success at_builtin); (first | go_skip | go_guarded | go_step))
                      go_ret2
                      rw [hm1.out]
                      exact ⟨_, _, _, rfl, hbz.out, hs9.out⟩
                    exact AllReadyH.nil
                  exact AllReadyH.nil
                exact AllReadyH.nil
              exact AllReadyH.nil
            refine AllReadyH.cons rfl (fun K hK => ?_) ?_
            · go_simp
              have hba := (Below.refl vd.heap.size vd).alloc (Nat.le_refl _) (.cells #[.string r.run, .string r.job] refT)
              have b0 := (CellsAt.new vd #[.string r.run, .string r.job] refT).cell 0 _ rfl
              have b1 := (CellsAt.new vd #[.string r.run, .string r.job] refT).cell 1 _ rfl
              have gBlt : vd.heap.size < (World.alloc vd (.cells #[.string r.run, .string r.job] refT)).heap.size := by simp
              replace hb := hb.trans (hba.mono hb.size)
              clear hba
              generalize World.alloc vd _ = v2 at *
              refine hK.out _ _ ?_ (fun hHeld => ?_)
              · (try dsimp only)
                exact ⟨(hO4.kept hb).c 1 0, (hO4.kept hb).c 1 1⟩
              clear hK K
              try simp only [Act.put, List.getElem_toArray, List.getElem_cons_zero, List.getElem_cons_succ, List.setIfInBounds_toArray, List.set_cons_zero, List.set_cons_succ]
              refine wpAnyH_ready (rs := [0]) (by kernel_rfl) (by simp) ?_
              refine AllReadyH.cons rfl (fun K hK => ?_) ?_
              · go_simp
                have hba := (Below.refl v2.heap.size v2).alloc (Nat.le_refl _) (.cells #[] refT)
                have hR := OwnR.empty (r := rRef) (sz := 2) v2 refT
                have hVW := hb
                have gBne : some (vd.heap.size) ≠ Value.ownBlock (.slice (some ⟨v2.heap.size, 0, none⟩) 0 0) := fun e => by injection e with e; have e2 : vd.heap.size = v2.heap.size := e; omega
                replace b0 := (hba.cell (p := ⟨vd.heap.size, 0, none⟩) gBlt).trans b0
                replace b1 := (hba.cell (p := ⟨vd.heap.size, 1, none⟩) gBlt).trans b1
                replace gBlt := Nat.lt_of_lt_of_le gBlt hba.size
                replace hb := hb.trans (hba.mono hb.size)
                clear hba
                generalize World.alloc v2 _ = v3 at *
                refine hK.out _ _ ?_ (fun hHeld => ?_)
                · (try dsimp only)
                  exact ⟨(hO4.kept hb).c 1 0, (hO4.kept hb).c 1 1⟩
                clear hK K
                try simp only [Act.put, List.getElem_toArray, List.getElem_cons_zero, List.getElem_cons_succ, List.setIfInBounds_toArray, List.set_cons_zero, List.set_cons_succ]
                refine wpAnyH_ready (rs := [3]) (by kernel_rfl) (by simp) ?_
                refine AllReadyH.cons rfl (fun K hK => ?_) ?_
                · have hVs : w.heap.size ≤ v2.heap.size := Nat.le_trans hO4.below.size hVW.size
                  have hws := ((hS.wait.below rRef_ok (hO4.below.trans (hb.mono hO4.below.size))).more rRef_ok (S' := Beh v3 (.slice (some ⟨v2.heap.size, 0, none⟩) 0 0)) (fun b hb' => beh_old hR (Nat.lt_of_lt_of_le hb' hVs)))
                  refine step_appRS rRef_ok rRef_one hR hws Tryd.underlying58 ref_info hby1 ?_
                  intro v4 w4_ hR4 hg4
                  rw [List.nil_append] at hR4
                  obtain ⟨A4, c4, rfl⟩ := hR4.form
                  replace b0 := (hg4.cell (p := ⟨vd.heap.size, 0, none⟩) gBlt gBne).trans b0
                  replace b1 := (hg4.cell (p := ⟨vd.heap.size, 1, none⟩) gBlt gBne).trans b1
                  replace gBne := hg4.ne gBlt gBne
                  replace gBlt := Nat.lt_of_lt_of_le gBlt hg4.by_.size
                  replace hb := hVW.trans (hR4.bel.mono hVW.size)
                  replace hR := hR4
                  clear hR4 hg4 hws hVs
                  refine hK.out _ _ ?_ (fun hHeld => ?_)
                  · (try dsimp only)
                    exact ⟨(hO4.kept hb).c 1 0, (hO4.kept hb).c 1 1⟩
                  clear hK K
                  try simp only [Act.put, List.getElem_toArray, List.getElem_cons_zero, List.getElem_cons_succ, List.setIfInBounds_toArray, List.set_cons_zero, List.set_cons_succ]
                  refine wpAnyH_ready (rs := [6]) (by kernel_rfl) (by simp) ?_
                  refine AllReadyH.cons rfl (fun K hK => ?_) ?_
                  · have hbx := box_ref (S := Beh w4_ (.slice A4 x.waiting.length c4)) ⟨gBlt, gBne⟩ b0 b1
                    refine step_appRS rRef_ok rRef_one hR hbx Tryd.underlying58 ref_info hby2 ?_
                    intro v6 w6_ hR6 hg6
                    obtain ⟨A6, c6, rfl⟩ := hR6.form
                    have hl6 : (x.waiting ++ [r]).length = x.waiting.length + 1 := by simp
                    rw [hl6] at hR6 ⊢
                    replace hb := hVW.trans (hR6.bel.mono hVW.size)
                    replace hR := hR6
                    clear hR6 hg6 hbx hl6 gBlt gBne b0 b1
                    refine hK.out _ _ ?_ (fun hHeld => ?_)
                    · (try dsimp only)
                      exact ⟨(hO4.kept hb).c 1 0, (hO4.kept hb).c 1 1⟩
                    clear hK K
                    try simp only [Act.put, List.getElem_toArray, List.getElem_cons_zero, List.getElem_cons_succ, List.setIfInBounds_toArray, List.set_cons_zero, List.set_cons_succ]
                    refine tkY 7 (v := ?v185) rfl (.inl ⟨by rfl, ?hy185⟩) ?hr185
                    case hy185 => (intro w hSw; (try dsimp only at hSw); go_simp; try with_reducible rfl)
                    simp only [Act.put, List.getElem_toArray, List.getElem_cons_zero, List.getElem_cons_succ, List.setIfInBounds_toArray, List.set_cons_zero, List.set_cons_succ]
                    refine wpAnyH_ready (rs := [8]) (by kernel_rfl) (by simp) ?_
                    refine AllReadyH.cons rfl (fun K hK => ?_) ?_
                    · have x3 := (hO4.kept hb).c 0 3
                      have xf := (hO4.kept hb).fr 0
                      have hOs := (hO4.kept hb).store 0 rfl 3 (.slice A6 (x.waiting.length + 1) c6)
                      go_simp
                      clear x3 xf
                      refine hK.out _ _ ?_ (fun hHeld => ?_)
                      · (try dsimp only)
                        exact ⟨hOs.c 1 0, hOs.c 1 1⟩
                      clear hK K
                      try simp only [Act.put, List.getElem_toArray, List.getElem_cons_zero, List.getElem_cons_succ, List.setIfInBounds_toArray, List.set_cons_zero, List.set_cons_succ]
                      refine wpAnyH_done (by kernel_rfl) ?_ _
                      clear hOs
                      have hO5 : OwnB w w6_ [(r9.heap.size, [.string x.name, .string x.holder.run, .string x.holder.job, .slice A1 x.waiting.length c1, .slice A2 x.history.length c2]), (w.heap.size, [.string r.run, .string r.job])] := hO4.kept hb
                      clear c0_0 c0_1 c0_2 c0_3 c0_4 cf0 c1_0 c1_1 cf1 hO4
                      have c0_0 : w6_.cell? ⟨r9.heap.size, 0, none⟩ = some (.string x.name) := hO5.c 0 0
                      have c0_1 : w6_.cell? ⟨r9.heap.size, 1, none⟩ = some (.string x.holder.run) := hO5.c 0 1
                      have c0_2 : w6_.cell? ⟨r9.heap.size, 2, none⟩ = some (.string x.holder.job) := hO5.c 0 2
                      have c0_3 : w6_.cell? ⟨r9.heap.size, 3, none⟩ = some (.slice A1 x.waiting.length c1) := hO5.c 0 3
                      have c0_4 : w6_.cell? ⟨r9.heap.size, 4, none⟩ = some (.slice A2 x.history.length c2) := hO5.c 0 4
                      have cf0 := hO5.fr 0
                      have c1_0 : w6_.cell? ⟨w.heap.size, 0, none⟩ = some (.string r.run) := hO5.c 1 0
                      have c1_1 : w6_.cell? ⟨w.heap.size, 1, none⟩ = some (.string r.job) := hO5.c 1 1
                      have cf1 := hO5.fr 1
                      have hR4 := hR
                      have hbV := (HB0).trans (hVW.mono HB0.size)
                      have hxl := Nat.lt_of_lt_of_le (HX_) hVW.size
                      clear hR
                      have hld : (x.waiting ++ [r]).length = x.waiting.length + 1 := by simp
                      (try rw [hld] at hR4)
                      replace hld := Lib.hid hld
                      have hne : Value.ownBlock (.slice A6 (x.waiting.length + 1) c6) ≠ some (r9.heap.size) := fun e => by
                        obtain ⟨cs, HH, _⟩ := hR4
                        have := (HH.1.lt _ e).1
                        omega
                      have hR5 := (OwnR.up (w1 := v2) hbV hR4).farSet (xb := r9.heap.size) (o := 3) (u := .slice A6 (x.waiting.length + 1) c6) rRef_ok hne (by omega) (fun x c h => h)
                      generalize hx_ : World.setCell _ _ _ = wo6
                      rw [hx_] at hR5
                      have hO6 : OwnB w wo6 [(r9.heap.size, [.string x.name, .string x.holder.run, .string x.holder.job, .slice A6 (x.waiting.length + 1) c6, .slice A2 x.history.length c2]), (w.heap.size, [.string r.run, .string r.job])] := by rw [← hx_]; exact hO5.store 0 rfl 3 _
                      have zwo6 : w6_.heap.size ≤ wo6.heap.size := by rw [← hx_]; simp [World.setCell]
                      clear hx_ c0_0 c0_1 c0_2 c0_3 c0_4 cf0 c1_0 c1_1 cf1 hO5
                      have c0_0 : wo6.cell? ⟨r9.heap.size, 0, none⟩ = some (.string x.name) := hO6.c 0 0
                      have c0_1 : wo6.cell? ⟨r9.heap.size, 1, none⟩ = some (.string x.holder.run) := hO6.c 0 1
                      have c0_2 : wo6.cell? ⟨r9.heap.size, 2, none⟩ = some (.string x.holder.job) := hO6.c 0 2
                      have c0_3 : wo6.cell? ⟨r9.heap.size, 3, none⟩ = some (.slice A6 (x.waiting.length + 1) c6) := hO6.c 0 3
                      have c0_4 : wo6.cell? ⟨r9.heap.size, 4, none⟩ = some (.slice A2 x.history.length c2) := hO6.c 0 4
                      have cf0 := hO6.fr 0
                      have c1_0 : wo6.cell? ⟨w.heap.size, 0, none⟩ = some (.string r.run) := hO6.c 1 0
                      have c1_1 : wo6.cell? ⟨w.heap.size, 1, none⟩ = some (.string r.job) := hO6.c 1 1
                      have cf1 := hO6.fr 1
                      have hbS := hO6.below
                      have hs5 : RSlice rRef 2 wo6 (fun b => b < wo6.heap.size) A6 (x.waiting ++ [r]).length c6 (x.waiting ++ [r]) := by
                        have h9 := hR5
                        rw [← hld.out] at h9
                        exact h9.slice rRef_ok
                      have C := with_any l (askE r x) A6 c6 A2 c2 k (some ⟨g, o, none⟩) n c wo6 (h.below hbS) hk hs5 ((hS.hist.below rDep_ok hbS).more rDep_ok (fun _ hp => Nat.lt_of_lt_of_le hp hbS.size))
                      rw [show (askE r x).waiting.length = x.waiting.length + 1 from hld.out] at C
                      replace C := Lib.hid C
                      replace hbS := Lib.hid hbS
                      clear hR4 hR5 hs5 hne
                      repeat' ((fail_if_success at_builtin); (first | go_skip | go_guarded | go_step))
                      refine C.out.mono ?_
                      clear C
                      rintro e w9 ⟨A', n', c', rfl, hb9, hs9⟩
                      dsimp only
                      have hbz := hbS.out.trans (hb9.mono hbS.out.size)
                      replace hs9 := Lib.hid hs9
                      replace hbz := Lib.hid hbz
                      repeat' ((fail_if_success at_builtin); (first | go_skip | go_guarded | go_step))
                      go_ret2
                      rw [hm1.out]
                      exact ⟨_, _, _, rfl, hbz.out, hs9.out⟩
                    exact AllReadyH.nil
                  exact AllReadyH.nil
                exact AllReadyH.nil
              exact AllReadyH.nil
            exact AllReadyH.nil
          refine AllReadyH.cons rfl (fun K hK => ?_) ?_
          · go_simp
            have hba := (Below.refl vd.heap.size vd).alloc (Nat.le_refl _) (.cells #[.string r.run, .string r.job] refT)
            have b0 := (CellsAt.new vd #[.string r.run, .string r.job] refT).cell 0 _ rfl
            have b1 := (CellsAt.new vd #[.string r.run, .string r.job] refT).cell 1 _ rfl
            have gBlt : vd.heap.size < (World.alloc vd (.cells #[.string r.run, .string r.job] refT)).heap.size := by simp
            replace hb := hb.trans (hba.mono hb.size)
            clear hba
            generalize World.alloc vd _ = v1 at *
            refine hK.out _ _ ?_ (fun hHeld => ?_)
            · (try dsimp only)
              exact ⟨(hO4.kept hb).c 1 0, (hO4.kept hb).c 1 1⟩
            clear hK K
            try simp only [Act.put, List.getElem_toArray, List.getElem_cons_zero, List.getElem_cons_succ, List.setIfInBounds_toArray, List.set_cons_zero, List.set_cons_succ]
            refine wpAnyH_ready (rs := [0, 2]) (by kernel_rfl) (by simp) ?_
            refine AllReadyH.cons rfl (fun K hK => ?_) ?_
            · go_simp
              have hba := (Below.refl v1.heap.size v1).alloc (Nat.le_refl _) (.cells #[] refT)
              have hR := OwnR.empty (r := rRef) (sz := 2) v1 refT
              have hVW := hb
              have gBne : some (vd.heap.size) ≠ Value.ownBlock (.slice (some ⟨v1.heap.size, 0, none⟩) 0 0) := fun e => by injection e with e; have e2 : vd.heap.size = v1.heap.size := e; omega
              replace b0 := (hba.cell (p := ⟨vd.heap.size, 0, none⟩) gBlt).trans b0
              replace b1 := (hba.cell (p := ⟨vd.heap.size, 1, none⟩) gBlt).trans b1
              replace gBlt := Nat.lt_of_lt_of_le gBlt hba.size
              replace hb := hb.trans (hba.mono hb.size)
              clear hba
              generalize World.alloc v1 _ = v2 at *
              refine hK.out _ _ ?_ (fun hHeld => ?_)
              · (try dsimp only)
                exact ⟨(hO4.kept hb).c 1 0, (hO4.kept hb).c 1 1⟩
              clear hK K
              try simp only [Act.put, List.getElem_toArray, List.getElem_cons_zero, List.getElem_cons_succ, List.setIfInBounds_toArray, List.set_cons_zero, List.set_cons_succ]
              refine wpAnyH_ready (rs := [2]) (by kernel_rfl) (by simp) ?_
              refine AllReadyH.cons rfl (fun K hK => ?_) ?_
              · have x3 := (hO4.kept hb).c 0 3
                go_simp
                clear x3
                refine hK.out _ _ ?_ (fun hHeld => ?_)
                · (try dsimp only)
                  exact ⟨(hO4.kept hb).c 1 0, (hO4.kept hb).c 1 1⟩
                clear hK K
                try simp only [Act.put, List.getElem_toArray, List.getElem_cons_zero, List.getElem_cons_succ, List.setIfInBounds_toArray, List.set_cons_zero, List.set_cons_succ]
                refine wpAnyH_ready (rs := [3]) (by kernel_rfl) (by simp) ?_
                refine AllReadyH.cons rfl (fun K hK => ?_) ?_
                · have hVs : w.heap.size ≤ v1.heap.size := Nat.le_trans hO4.below.size hVW.size
                  have hws := ((hS.wait.below rRef_ok (hO4.below.trans (hb.mono hO4.below.size))).more rRef_ok (S' := Beh v2 (.slice (some ⟨v1.heap.size, 0, none⟩) 0 0)) (fun b hb' => beh_old hR (Nat.lt_of_lt_of_le hb' hVs)))
                  refine step_appRS rRef_ok rRef_one hR hws Tryd.underlying58 ref_info hby1 ?_
                  intro v4 w4_ hR4 hg4
                  rw [List.nil_append] at hR4
                  obtain ⟨A4, c4, rfl⟩ := hR4.form
                  replace b0 := (hg4.cell (p := ⟨vd.heap.size, 0, none⟩) gBlt gBne).trans b0
                  replace b1 := (hg4.cell (p := ⟨vd.heap.size, 1, none⟩) gBlt gBne).trans b1
                  replace gBne := hg4.ne gBlt gBne
                  replace gBlt := Nat.lt_of_lt_of_le gBlt hg4.by_.size
                  replace hb := hVW.trans (hR4.bel.mono hVW.size)
                  replace hR := hR4
                  clear hR4 hg4 hws hVs
                  refine hK.out _ _ ?_ (fun hHeld => ?_)
                  · (try dsimp only)
                    exact ⟨(hO4.kept hb).c 1 0, (hO4.kept hb).c 1 1⟩
                  clear hK K
                  try simp only [Act.put, List.getElem_toArray, List.getElem_cons_zero, List.getElem_cons_succ, List.setIfInBounds_toArray, List.set_cons_zero, List.set_cons_succ]
                  refine wpAnyH_ready (rs := [6]) (by kernel_rfl) (by simp) ?_
                  refine AllReadyH.cons rfl (fun K hK => ?_) ?_
                  · have hbx := box_ref (S := Beh w4_ (.slice A4 x.waiting.length c4)) ⟨gBlt, gBne⟩ b0 b1
                    refine step_appRS rRef_ok rRef_one hR hbx Tryd.underlying58 ref_info hby2 ?_
                    intro v6 w6_ hR6 hg6
                    obtain ⟨A6, c6, rfl⟩ := hR6.form
                    have hl6 : (x.waiting ++ [r]).length = x.waiting.length + 1 := by simp
                    rw [hl6] at hR6 ⊢
                    replace hb := hVW.trans (hR6.bel.mono hVW.size)
                    replace hR := hR6
                    clear hR6 hg6 hbx hl6 gBlt gBne b0 b1
                    refine hK.out _ _ ?_ (fun hHeld => ?_)
                    · (try dsimp only)
                      exact ⟨(hO4.kept hb).c 1 0, (hO4.kept hb).c 1 1⟩
                    clear hK K
                    try simp only [Act.put, List.getElem_toArray, List.getElem_cons_zero, List.getElem_cons_succ, List.setIfInBounds_toArray, List.set_cons_zero, List.set_cons_succ]
                    refine tkY 7 (v := ?v186) rfl (.inl ⟨by rfl, ?hy186⟩) ?hr186
                    case hy186 => (intro w hSw; (try dsimp only at hSw); go_simp; try with_reducible rfl)
                    simp only [Act.put, List.getElem_toArray, List.getElem_cons_zero, List.getElem_cons_succ, List.setIfInBounds_toArray, List.set_cons_zero, List.set_cons_succ]
                    refine wpAnyH_ready (rs := [8]) (by kernel_rfl) (by simp) ?_
                    refine AllReadyH.cons rfl (fun K hK => ?_) ?_
                    · have x3 := (hO4.kept hb).c 0 3
                      have xf := (hO4.kept hb).fr 0
                      have hOs := (hO4.kept hb).store 0 rfl 3 (.slice A6 (x.waiting.length + 1) c6)
                      go_simp
                      clear x3 xf
                      refine hK.out _ _ ?_ (fun hHeld => ?_)
                      · (try dsimp only)
                        exact ⟨hOs.c 1 0, hOs.c 1 1⟩
                      clear hK K
                      try simp only [Act.put, List.getElem_toArray, List.getElem_cons_zero, List.getElem_cons_succ, List.setIfInBounds_toArray, List.set_cons_zero, List.set_cons_succ]
                      refine wpAnyH_done (by kernel_rfl) ?_ _
                      clear hOs
                      have hO5 : OwnB w w6_ [(r9.heap.size, [.string x.name, .string x.holder.run, .string x.holder.job, .slice A1 x.waiting.length c1, .slice A2 x.history.length c2]), (w.heap.size, [.string r.run, .string r.job])] := hO4.kept hb
                      clear c0_0 c0_1 c0_2 c0_3 c0_4 cf0 c1_0 c1_1 cf1 hO4
                      have c0_0 : w6_.cell? ⟨r9.heap.size, 0, none⟩ = some (.string x.name) := hO5.c 0 0
                      have c0_1 : w6_.cell? ⟨r9.heap.size, 1, none⟩ = some (.string x.holder.run) := hO5.c 0 1
                      have c0_2 : w6_.cell? ⟨r9.heap.size, 2, none⟩ = some (.string x.holder.job) := hO5.c 0 2
                      have c0_3 : w6_.cell? ⟨r9.heap.size, 3, none⟩ = some (.slice A1 x.waiting.length c1) := hO5.c 0 3
                      have c0_4 : w6_.cell? ⟨r9.heap.size, 4, none⟩ = some (.slice A2 x.history.length c2) := hO5.c 0 4
                      have cf0 := hO5.fr 0
                      have c1_0 : w6_.cell? ⟨w.heap.size, 0, none⟩ = some (.string r.run) := hO5.c 1 0
                      have c1_1 : w6_.cell? ⟨w.heap.size, 1, none⟩ = some (.string r.job) := hO5.c 1 1
                      have cf1 := hO5.fr 1
                      have hR4 := hR
                      have hbV := (HB0).trans (hVW.mono HB0.size)
                      have hxl := Nat.lt_of_lt_of_le (HX_) hVW.size
                      clear hR
                      have hld : (x.waiting ++ [r]).length = x.waiting.length + 1 := by simp
                      (try rw [hld] at hR4)
                      replace hld := Lib.hid hld
                      have hne : Value.ownBlock (.slice A6 (x.waiting.length + 1) c6) ≠ some (r9.heap.size) := fun e => by
                        obtain ⟨cs, HH, _⟩ := hR4
                        have := (HH.1.lt _ e).1
                        omega
                      have hR5 := (OwnR.up (w1 := v1) hbV hR4).farSet (xb := r9.heap.size) (o := 3) (u := .slice A6 (x.waiting.length + 1) c6) rRef_ok hne (by omega) (fun x c h => h)
                      generalize hx_ : World.setCell _ _ _ = wo6
                      rw [hx_] at hR5
                      have hO6 : OwnB w wo6 [(r9.heap.size, [.string x.name, .string x.holder.run, .string x.holder.job, .slice A6 (x.waiting.length + 1) c6, .slice A2 x.history.length c2]), (w.heap.size, [.string r.run, .string r.job])] := by rw [← hx_]; exact hO5.store 0 rfl 3 _
                      have zwo6 : w6_.heap.size ≤ wo6.heap.size := by rw [← hx_]; simp [World.setCell]
                      clear hx_ c0_0 c0_1 c0_2 c0_3 c0_4 cf0 c1_0 c1_1 cf1 hO5
                      have c0_0 : wo6.cell? ⟨r9.heap.size, 0, none⟩ = some (.string x.name) := hO6.c 0 0
                      have c0_1 : wo6.cell? ⟨r9.heap.size, 1, none⟩ = some (.string x.holder.run) := hO6.c 0 1
                      have c0_2 : wo6.cell? ⟨r9.heap.size, 2, none⟩ = some (.string x.holder.job) := hO6.c 0 2
                      have c0_3 : wo6.cell? ⟨r9.heap.size, 3, none⟩ = some (.slice A6 (x.waiting.length + 1) c6) := hO6.c 0 3
                      have c0_4 : wo6.cell? ⟨r9.heap.size, 4, none⟩ = some (.slice A2 x.history.length c2) := hO6.c 0 4
                      have cf0 := hO6.fr 0
                      have c1_0 : wo6.cell? ⟨w.heap.size, 0, none⟩ = some (.string r.run) := hO6.c 1 0
                      have c1_1 : wo6.cell? ⟨w.heap.size, 1, none⟩ = some (.string r.job) := hO6.c 1 1
                      have cf1 := hO6.fr 1
                      have hbS := hO6.below
                      have hs5 : RSlice rRef 2 wo6 (fun b => b < wo6.heap.size) A6 (x.waiting ++ [r]).length c6 (x.waiting ++ [r]) := by
                        have h9 := hR5
                        rw [← hld.out] at h9
                        exact h9.slice rRef_ok
                      have C := with_any l (askE r x) A6 c6 A2 c2 k (some ⟨g, o, none⟩) n c wo6 (h.below hbS) hk hs5 ((hS.hist.below rDep_ok hbS).more rDep_ok (fun _ hp => Nat.lt_of_lt_of_le hp hbS.size))
                      rw [show (askE r x).waiting.length = x.waiting.length + 1 from hld.out] at C
                      replace C := Lib.hid C
                      replace hbS := Lib.hid hbS
                      clear hR4 hR5 hs5 hne
                      repeat' ((fail_if_success at_builtin); (first | go_skip | go_guarded | go_step))
                      refine C.out.mono ?_
                      clear C
                      rintro e w9 ⟨A', n', c', rfl, hb9, hs9⟩
                      dsimp only
                      have hbz := hbS.out.trans (hb9.mono hbS.out.size)
                      replace hs9 := Lib.hid hs9
                      replace hbz := Lib.hid hbz
                      repeat' ((fail_if_success at_builtin); (first | go_skip | go_guarded | go_step))
                      go_ret2
                      rw [hm1.out]
                      exact ⟨_, _, _, rfl, hbz.out, hs9.out⟩
                    exact AllReadyH.nil
                  exact AllReadyH.nil
                exact AllReadyH.nil
              exact AllReadyH.nil
            refine AllReadyH.cons rfl (fun K hK => ?_) ?_
            · have x3 := (hO4.kept hb).c 0 3
              go_simp
              clear x3
              refine hK.out _ _ ?_ (fun hHeld => ?_)
              · (try dsimp only)
                exact ⟨(hO4.kept hb).c 1 0, (hO4.kept hb).c 1 1⟩
              clear hK K
              try simp only [Act.put, List.getElem_toArray, List.getElem_cons_zero, List.getElem_cons_succ, List.setIfInBounds_toArray, List.set_cons_zero, List.set_cons_succ]
              refine wpAnyH_ready (rs := [0]) (by kernel_rfl) (by simp) ?_
              refine AllReadyH.cons rfl (fun K hK => ?_) ?_
              · go_simp
                have hba := (Below.refl v1.heap.size v1).alloc (Nat.le_refl _) (.cells #[] refT)
                have hR := OwnR.empty (r := rRef) (sz := 2) v1 refT
                have hVW := hb
                have gBne : some (vd.heap.size) ≠ Value.ownBlock (.slice (some ⟨v1.heap.size, 0, none⟩) 0 0) := fun e => by injection e with e; have e2 : vd.heap.size = v1.heap.size := e; omega
                replace b0 := (hba.cell (p := ⟨vd.heap.size, 0, none⟩) gBlt).trans b0
                replace b1 := (hba.cell (p := ⟨vd.heap.size, 1, none⟩) gBlt).trans b1
                replace gBlt := Nat.lt_of_lt_of_le gBlt hba.size
                replace hb := hb.trans (hba.mono hb.size)
                clear hba
                generalize World.alloc v1 _ = v3 at *
                refine hK.out _ _ ?_ (fun hHeld => ?_)
                · (try dsimp only)
                  exact ⟨(hO4.kept hb).c 1 0, (hO4.kept hb).c 1 1⟩
                clear hK K
                try simp only [Act.put, List.getElem_toArray, List.getElem_cons_zero, List.getElem_cons_succ, List.setIfInBounds_toArray, List.set_cons_zero, List.set_cons_succ]
                refine wpAnyH_ready (rs := [3]) (by kernel_rfl) (by simp) ?_
                refine AllReadyH.cons rfl (fun K hK => ?_) ?_
                · have hVs : w.heap.size ≤ v1.heap.size := Nat.le_trans hO4.below.size hVW.size
                  have hws := ((hS.wait.below rRef_ok (hO4.below.trans (hb.mono hO4.below.size))).more rRef_ok (S' := Beh v3 (.slice (some ⟨v1.heap.size, 0, none⟩) 0 0)) (fun b hb' => beh_old hR (Nat.lt_of_lt_of_le hb' hVs)))
                  refine step_appRS rRef_ok rRef_one hR hws Tryd.underlying58 ref_info hby1 ?_
                  intro v4 w4_ hR4 hg4
                  rw [List.nil_append] at hR4
                  obtain ⟨A4, c4, rfl⟩ := hR4.form
                  replace b0 := (hg4.cell (p := ⟨vd.heap.size, 0, none⟩) gBlt gBne).trans b0
                  replace b1 := (hg4.cell (p := ⟨vd.heap.size, 1, none⟩) gBlt gBne).trans b1
                  replace gBne := hg4.ne gBlt gBne
                  replace gBlt := Nat.lt_of_lt_of_le gBlt hg4.by_.size
                  replace hb := hVW.trans (hR4.bel.mono hVW.size)
                  replace hR := hR4
                  clear hR4 hg4 hws hVs
                  refine hK.out _ _ ?_ (fun hHeld => ?_)
                  · (try dsimp only)
                    exact ⟨(hO4.kept hb).c 1 0, (hO4.kept hb).c 1 1⟩
                  clear hK K
                  try simp only [Act.put, List.getElem_toArray, List.getElem_cons_zero, List.getElem_cons_succ, List.setIfInBounds_toArray, List.set_cons_zero, List.set_cons_succ]
                  refine wpAnyH_ready (rs := [6]) (by kernel_rfl) (by simp) ?_
                  refine AllReadyH.cons rfl (fun K hK => ?_) ?_
                  · have hbx := box_ref (S := Beh w4_ (.slice A4 x.waiting.length c4)) ⟨gBlt, gBne⟩ b0 b1
                    refine step_appRS rRef_ok rRef_one hR hbx Tryd.underlying58 ref_info hby2 ?_
                    intro v6 w6_ hR6 hg6
                    obtain ⟨A6, c6, rfl⟩ := hR6.form
                    have hl6 : (x.waiting ++ [r]).length = x.waiting.length + 1 := by simp
                    rw [hl6] at hR6 ⊢
                    replace hb := hVW.trans (hR6.bel.mono hVW.size)
                    replace hR := hR6
                    clear hR6 hg6 hbx hl6 gBlt gBne b0 b1
                    refine hK.out _ _ ?_ (fun hHeld => ?_)
                    · (try dsimp only)
                      exact ⟨(hO4.kept hb).c 1 0, (hO4.kept hb).c 1 1⟩
                    clear hK K
                    try simp only [Act.put, List.getElem_toArray, List.getElem_cons_zero, List.getElem_cons_succ, List.setIfInBounds_toArray, List.set_cons_zero, List.set_cons_succ]
                    refine tkY 7 (v := ?v187) rfl (.inl ⟨by rfl, ?hy187⟩) ?hr187
                    case hy187 => (intro w hSw; (try dsimp only at hSw); go_simp; try with_reducible rfl)
                    simp only [Act.put, List.getElem_toArray, List.getElem_cons_zero, List.getElem_cons_succ, List.setIfInBounds_toArray, List.set_cons_zero, List.set_cons_succ]
                    refine wpAnyH_ready (rs := [8]) (by kernel_rfl) (by simp) ?_
                    refine AllReadyH.cons rfl (fun K hK => ?_) ?_
                    · have x3 := (hO4.kept hb).c 0 3
                      have xf := (hO4.kept hb).fr 0
                      have hOs := (hO4.kept hb).store 0 rfl 3 (.slice A6 (x.waiting.length + 1) c6)
                      go_simp
                      clear x3 xf
                      refine hK.out _ _ ?_ (fun hHeld => ?_)
                      · (try dsimp only)
                        exact ⟨hOs.c 1 0, hOs.c 1 1⟩
                      clear hK K
                      try simp only [Act.put, List.getElem_toArray, List.getElem_cons_zero, List.getElem_cons_succ, List.setIfInBounds_toArray, List.set_cons_zero, List.set_cons_succ]
                      refine wpAnyH_done (by kernel_rfl) ?_ _
                      clear hOs
                      have hO5 : OwnB w w6_ [(r9.heap.size, [.string x.name, .string x.holder.run, .string x.holder.job, .slice A1 x.waiting.length c1, .slice A2 x.history.length c2]), (w.heap.size, [.string r.run, .string r.job])] := hO4.kept hb
                      clear c0_0 c0_1 c0_2 c0_3 c0_4 cf0 c1_0 c1_1 cf1 hO4
                      have c0_0 : w6_.cell? ⟨r9.heap.size, 0, none⟩ = some (.string x.name) := hO5.c 0 0
                      have c0_1 : w6_.cell? ⟨r9.heap.size, 1, none⟩ = some (.string x.holder.run) := hO5.c 0 1
                      have c0_2 : w6_.cell? ⟨r9.heap.size, 2, none⟩ = some (.string x.holder.job) := hO5.c 0 2
                      have c0_3 : w6_.cell? ⟨r9.heap.size, 3, none⟩ = some (.slice A1 x.waiting.length c1) := hO5.c 0 3
                      have c0_4 : w6_.cell? ⟨r9.heap.size, 4, none⟩ = some (.slice A2 x.history.length c2) := hO5.c 0 4
                      have cf0 := hO5.fr 0
                      have c1_0 : w6_.cell? ⟨w.heap.size, 0, none⟩ = some (.string r.run) := hO5.c 1 0
                      have c1_1 : w6_.cell? ⟨w.heap.size, 1, none⟩ = some (.string r.job) := hO5.c 1 1
                      have cf1 := hO5.fr 1
                      have hR4 := hR
                      have hbV := (HB0).trans (hVW.mono HB0.size)
                      have hxl := Nat.lt_of_lt_of_le (HX_) hVW.size
                      clear hR
                      have hld : (x.waiting ++ [r]).length = x.waiting.length + 1 := by simp
                      (try rw [hld] at hR4)
                      replace hld := Lib.hid hld
                      have hne : Value.ownBlock (.slice A6 (x.waiting.length + 1) c6) ≠ some (r9.heap.size) := fun e => by
                        obtain ⟨cs, HH, _⟩ := hR4
                        have := (HH.1.lt _ e).1
                        omega
                      have hR5 := (OwnR.up (w1 := v1) hbV hR4).farSet (xb := r9.heap.size) (o := 3) (u := .slice A6 (x.waiting.length + 1) c6) rRef_ok hne (by omega) (fun x c h => h)
                      generalize hx_ : World.setCell _ _ _ = wo6
                      rw [hx_] at hR5
                      have hO6 : OwnB w wo6 [(r9.heap.size, [.string x.name, .string x.holder.run, .string x.holder.job, .slice A6 (x.waiting.length + 1) c6, .slice A2 x.history.length c2]), (w.heap.size, [.string r.run, .string r.job])] := by rw [← hx_]; exact hO5.store 0 rfl 3 _
                      have zwo6 : w6_.heap.size ≤ wo6.heap.size := by rw [← hx_]; simp [World.setCell]
                      clear hx_ c0_0 c0_1 c0_2 c0_3 c0_4 cf0 c1_0 c1_1 cf1 hO5
                      have c0_0 : wo6.cell? ⟨r9.heap.size, 0, none⟩ = some (.string x.name) := hO6.c 0 0
                      have c0_1 : wo6.cell? ⟨r9.heap.size, 1, none⟩ = some (.string x.holder.run) := hO6.c 0 1
                      have c0_2 : wo6.cell? ⟨r9.heap.size, 2, none⟩ = some (.string x.holder.job) := hO6.c 0 2
                      have c0_3 : wo6.cell? ⟨r9.heap.size, 3, none⟩ = some (.slice A6 (x.waiting.length + 1) c6) := hO6.c 0 3
                      have c0_4 : wo6.cell? ⟨r9.heap.size, 4, none⟩ = some (.slice A2 x.history.length c2) := hO6.c 0 4
                      have cf0 := hO6.fr 0
                      have c1_0 : wo6.cell? ⟨w.heap.size, 0, none⟩ = some (.string r.run) := hO6.c 1 0
                      have c1_1 : wo6.cell? ⟨w.heap.size, 1, none⟩ = some (.string r.job) := hO6.c 1 1
                      have cf1 := hO6.fr 1
                      have hbS := hO6.below
                      have hs5 : RSlice rRef 2 wo6 (fun b => b < wo6.heap.size) A6 (x.waiting ++ [r]).length c6 (x.waiting ++ [r]) := by
                        have h9 := hR5
                        rw [← hld.out] at h9
                        exact h9.slice rRef_ok
                      have C := with_any l (askE r x) A6 c6 A2 c2 k (some ⟨g, o, none⟩) n c wo6 (h.below hbS) hk hs5 ((hS.hist.below rDep_ok hbS).more rDep_ok (fun _ hp => Nat.lt_of_lt_of_le hp hbS.size))
                      rw [show (askE r x).waiting.length = x.waiting.length + 1 from hld.out] at C
                      replace C := Lib.hid C
                      replace hbS := Lib.hid hbS
                      clear hR4 hR5 hs5 hne
                      repeat' ((fail_if_success at_builtin); (first | go_skip | go_guarded | go_step))
                      refine C.out.mono ?_
                      clear C
                      rintro e w9 ⟨A', n', c', rfl, hb9, hs9⟩
                      dsimp only
                      have hbz := hbS.out.trans (hb9.mono hbS.out.size)
                      replace hs9 := Lib.hid hs9
                      replace hbz := Lib.hid hbz
                      repeat' ((fail_if_success at_builtin); (first | go_skip | go_guarded | go_step))
                      go_ret2
                      rw [hm1.out]
                      exact ⟨_, _, _, rfl, hbz.out, hs9.out⟩
                    exact AllReadyH.nil
                  exact AllReadyH.nil
                exact AllReadyH.nil
              exact AllReadyH.nil
            exact AllReadyH.nil
          exact AllReadyH.nil
        · rw [posI_out hk] at C
          rw [List.getElem?_eq_none (by omega)] at hm1
          dsimp only at hm1
          replace hm1 := Lib.hid hm1
          clear hk
          replace C := Lib.hid C
          repeat' ((fail_if_success at_builtin); (first | go_skip | go_guarded | go_step))
          refine C.out.mono ?_
          clear C
          rintro e w3 ⟨rfl, hw3⟩
          subst w3
          dsimp only
          repeat' ((fail_if_success at_builtin); (first | go_skip | go_guarded | go_step))
          have hbS := hO3.below
          have hba := (Below.refl r9.heap.size r9).alloc (Nat.le_refl _) (.cells #[.string r.run, .string r.job] refT)
          have b0 := (CellsAt.new r9 #[.string r.run, .string r.job] refT).cell 0 _ rfl
          have b1 := (CellsAt.new r9 #[.string r.run, .string r.job] refT).cell 1 _ rfl
          have hlt : r9.heap.size < (World.alloc r9 (.cells #[.string r.run, .string r.job] refT)).heap.size := by simp
          generalize World.alloc r9 _ = wa at *
          have hbx := box_ref (S := fun b => b < wa.heap.size) hlt b0 b1
          have hbT := hbS.trans (hba.mono hbS.size)
          have C := added_any l ⟨s, zR, [r], []⟩ (some ⟨r9.heap.size, 0, none⟩) 1 none 0 A n c wa (h.below hbT) hs hbx ⟨rfl, Nat.le_refl _, fun _ => rfl, [], SeqP.nil_, rfl⟩
          replace C := Lib.hid C
          clear hbx b0 b1 hbS hba
          refine C.out.mono ?_
          clear C
          rintro e w9 ⟨A', n', c', rfl, hb9, hs9⟩
          dsimp only
          have hbz := hbT.trans (hb9.mono hbT.size)
          replace hs9 := Lib.hid hs9
          replace hbz := Lib.hid hbz
          repeat' ((fail_if_success at_builtin); (first | go_skip | go_guarded | go_step))
          go_ret2
          rw [hm1.out]
          exact ⟨_, _, _, rfl, hbz.out, hs9.out⟩
end Go.Proofs.YtennhjkhjplmoaaDoor
