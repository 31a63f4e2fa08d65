/- Deploy: Finish. -/
import Derived.Test.YtennhjkhjplmoaaDoorDpR
namespace Go.Proofs.YtennhjkhjplmoaaDoor
open Go.RowKit
theorem EP.done {w0 w w' w1 : World} {g n c k : Nat} {L : List EnvV} {x : Env} {u v v' : Value} {d : Dep} (h : EO w0 w g n c L) (hk : L[k]? = some ⟨x, u, v⟩) (ho : Own w0 w' depT 5 v' (x.history.length + 1) (x.history.flatMap depC ++ depC d)) (hg : Grew w w' v v') (hw1 : w1 = w'.setCell ⟨g, k * 5 + 4, none⟩ v') : EO w0 w1 g n c (L.set k ⟨{ x with history := x.history ++ [d] }, u, v'⟩) := by
  have hm := List.mem_of_getElem? hk
  have hs := h.sub _ hm
  have hl := h.ltU hm
  refine h.put hk hg.by_ (.inr (.inr rfl)) (e' := ⟨{ x with history := x.history ++ [d] }, u, v'⟩) ⟨hs.wt.grown hg.by_ (fun b hb e => hs.d b hb e) (fun b hb => (hs.ht.1.lt b hb).1), ?_, fun b hb hv => ?_⟩ (NewB.refl _ _) (fun b hb => ?_) 4 v' (by decide) rfl w1 hw1
  · show Own w0 w' depT 5 v' (x.history ++ [d]).length ((x.history ++ [d]).flatMap depC)
    rw [List.length_append, List.flatMap_append]
    exact ho
  · have hv2 : v'.ownBlock = some b := hv
    rcases hg.at_ with h1 | h1
    · exact hs.d b hb (h1 ▸ hv2)
    · rw [h1] at hv2
      injection hv2 with hv2
      have := hl.1 b hb
      omega
  · have hb2 : v'.ownBlock = some b := hb
    rcases hg.at_ with h1 | h1
    · exact .inl (h1 ▸ hb2)
    · rw [h1] at hb2
      injection hb2 with hb2
      exact .inr (by omega)
theorem EP.cutH {w0 w w' w1 : World} {g n c k b m m' cc : Nat} {L : List EnvV} {x : Env} {u : Value} {t : List Dep} (h : EO w0 w g n c L) (hk : L[k]? = some ⟨x, u, .slice (some ⟨b, 0, none⟩) m cc⟩) (hm' : m' = t.length) (ho : Own w0 w' depT 5 (.slice (some ⟨b, 0, none⟩) m' cc) m' (t.flatMap depC)) (hg : w.grownBy w' (some b)) (hw1 : w1 = w'.setCell ⟨g, k * 5 + 4, none⟩ (.slice (some ⟨b, 0, none⟩) m' cc)) : EO w0 w1 g n c (L.set k ⟨{ x with history := t }, u, .slice (some ⟨b, 0, none⟩) m' cc⟩) := by
  have hm := List.mem_of_getElem? hk
  have hs := h.sub _ hm
  subst hm'
  exact h.put hk hg (.inr (.inr rfl)) (e' := ⟨{ x with history := t }, u, .slice (some ⟨b, 0, none⟩) t.length cc⟩) ⟨hs.wt.grown hg (fun b' hb e => by injection e with e; exact hs.d b' hb (by rw [← e]; rfl)) (fun b' hb => by injection hb with hb; subst hb; exact (hs.ht.1.lt b rfl).1), ho, fun b' hb hv => hs.d b' hb hv⟩ (NewB.refl _ _) (fun b' hb => .inl hb) 4 _ (by decide) rfl w1 hw1
set_option maxRecDepth 100000 in
set_option maxHeartbeats 6000000 in
theorem finish_any (l : List Env) (r : Ref) (ver st now : Int) (A : Option Addr) (n c : Nat) (w : World) (h : Envs w A n c l) (hH : ∀ x ∈ l, x.history.length ≤ 999999) :
    Calls Tryd.prog 22 #[.slice A n c, .agg #[.string r.run, .string r.job], .int .u64 ver, .int .i64 st, .int .i64 now] w (RetL w (finL l ⟨r, ver, now, st⟩)) := by
  obtain ⟨w1, hw1⟩ : ∃ w1, w1 = w.alloc (.cells #[.string r.run, .string r.job] refT) := ⟨_, rfl⟩
  have hb0 : Below w.heap.size w w1 := by rw [hw1]; exact (Below.refl _ _).alloc (Nat.le_refl _) _
  have q1 : w1.cell? ⟨w.heap.size, 0, none⟩ = some (.string r.run) := by
    rw [hw1]; exact (CellsAt.new w #[.string r.run, .string r.job] refT).cell 0 _ rfl
  have q2 : w1.cell? ⟨w.heap.size, 1, none⟩ = some (.string r.job) := by
    rw [hw1]; exact (CellsAt.new w #[.string r.run, .string r.job] refT).cell 1 _ rfl
  have zr : w.heap.size < w1.heap.size := by rw [hw1]; simp
  go_enter Tryd.func22, Tryd.ntmps22
  go_upto_region 1 with (fail)
  rw [← hw1]
  clear hw1
  have h1 := h.below hb0
  have hl := h.len
  have hW := h.each
  have hn := h.n
  replace hn := Lib.hid hn
  have C := copied_any l A n c w1 h1
  replace C := Lib.hid C
  clear h
  repeat' ((fail_if_success at_builtin); (first | go_skip | go_guarded | go_step))
  refine C.out.mono ?_
  clear C
  rintro e w2 ⟨g, L, rfl, hE, hLx⟩
  dsimp only
  have hbe := hE.bel
  replace q1 := (hbe.cell (p := ⟨w.heap.size, 0, none⟩) zr).trans q1
  replace q2 := (hbe.cell (p := ⟨w.heap.size, 1, none⟩) zr).trans q2
  replace zr := Nat.lt_of_lt_of_le zr hbe.size
  clear h1 hbe
  by_cases hs1 : st = 1
  · subst hs1
    by_cases ha1 : now < 0
    · have hm : finL l ⟨r, ver, now, 1⟩ = (l, 2) := by unfold finL; rw [if_neg (by simp), if_pos (Or.inl ha1)]
      replace hm := Lib.hid hm
      replace hE := Lib.hid hE
      repeat' ((fail_if_success at_builtin); (first | go_skip | go_guarded | go_step))
      go_ret2
      rw [hm.out]
      exact hE.out.ret hLx hb0 2
    · by_cases ha2 : 1125899906842624 < now
      · have hm : finL l ⟨r, ver, now, 1⟩ = (l, 2) := by unfold finL; rw [if_neg (by simp), if_pos (Or.inr ha2)]
        replace hm := Lib.hid hm
        replace hE := Lib.hid hE
        repeat' ((fail_if_success at_builtin); (first | go_skip | go_guarded | go_step))
        go_ret2
        rw [hm.out]
        exact hE.out.ret hLx hb0 2
      · have hm0 : finL l ⟨r, ver, now, 1⟩ = if properR r = false then (l, (8 : Int)) else match l[posA (holdE r) l]? with
            | none => (l, (8 : Int))
            | some x => (l.set (posA (holdE r) l) (finE ⟨r, ver, now, 1⟩ x), (0 : Int)) := by unfold finL; rw [if_neg (by simp), if_neg (by show ¬ (now < 0 ∨ 1125899906842624 < now); omega)]; rfl
        have C := idxE_any 55 w.heap.size (enters_of Tryd.func55 (by kernel_rfl) rfl) (holdE r) l (some ⟨g, 0, none⟩) n n w2 (hE.envs hLx hl hW) (fun x hx A1 c1 A2 c2 w' hb' => fin1_any x A1 c1 A2 c2 r w.heap.size w' ((hb'.cell (p := ⟨w.heap.size, 0, none⟩) zr).trans q1) ((hb'.cell (p := ⟨w.heap.size, 1, none⟩) zr).trans q2))
        by_cases hk : posA (holdE r) l < l.length
        · rw [posI_in hk] at C
          obtain ⟨x, hx⟩ : ∃ x, l[posA (holdE r) l]? = some x := ⟨_, List.getElem?_eq_getElem hk⟩
          rw [hx] at hm0
          dsimp only at hm0
          replace hk : posA (holdE r) l < n := by rw [← hn.out]; exact hk
          have hhl := hH x (List.mem_of_getElem? hx)
          obtain ⟨A1, c1, A2, c2, hLk⟩ := hE.at_ hLx hx
          clear hx
          generalize posA (holdE r) l = k at *
          have k0 : (0 : Int) ≤ (k : Int) := by omega
          have k1 : (k : Int) < (n : Int) := by omega
          have k3 : ¬ (k : Int) < 0 := by omega
          replace C := Lib.hid C
          repeat' ((fail_if_success at_builtin); (first | go_skip | go_guarded | go_step))
          refine C.out.mono ?_
          clear C
          rintro e w3 ⟨rfl, hb3⟩
          dsimp only
          replace q1 := (hb3.cell (p := ⟨w.heap.size, 0, none⟩) zr).trans q1
          replace q2 := (hb3.cell (p := ⟨w.heap.size, 1, none⟩) zr).trans q2
          replace zr := Nat.lt_of_lt_of_le zr hb3.size
          have hE3 := hE.below hb3
          clear hE hb3
          have C := proper_any r w3
          cases hpr : properR r with
          | false =>
            rw [hpr] at C hm0
            have hm : finL l ⟨r, ver, now, 1⟩ = (l, 8) := by rw [hm0, if_pos rfl]
            replace hm := Lib.hid hm
            replace C := Lib.hid C
            clear hm0
            repeat' ((fail_if_success at_builtin); (first | go_skip | go_guarded | go_step))
            refine C.out.mono ?_
            clear C
            rintro e w4 ⟨rfl, hb4⟩
            dsimp only
            have hE4 := hE3.below hb4
            replace hE4 := Lib.hid hE4
            clear hE3
            repeat' ((fail_if_success at_builtin); (first | go_skip | go_guarded | go_step))
            go_ret2
            rw [hm.out]
            exact hE4.out.ret hLx hb0 8
          | true =>
            rw [hpr] at C hm0
            have hm : finL l ⟨r, ver, now, 1⟩ = (l.set k (finE ⟨r, ver, now, 1⟩ x), 0) := by rw [hm0, if_neg (by simp)]
            replace hm := Lib.hid hm
            replace C := Lib.hid C
            clear hm0 hpr
            repeat' ((fail_if_success at_builtin); (first | go_skip | go_guarded | go_step))
            refine C.out.mono ?_
            clear C
            rintro e w4 ⟨rfl, hb4⟩
            dsimp only
            replace q1 := (hb4.cell (p := ⟨w.heap.size, 0, none⟩) zr).trans q1
            replace q2 := (hb4.cell (p := ⟨w.heap.size, 1, none⟩) zr).trans q2
            replace zr := Nat.lt_of_lt_of_le zr hb4.size
            have hE4 := hE3.below hb4
            clear hE3 hb4
            go_upto_region 10 with (fail)
            by_cases hc : 64 < x.history.length + 1
            · have hcN := Lib.hid hc
              have hc1 : (64 : Int) < (x.history.length : Int) + 1 := by omega
              clear hc
              have hown := (hE4.sub _ (List.mem_of_getElem? hLk)).ht.below (Below.refl w4.heap.size w4).drew
              have hEd := fun ob => hE4.below (((Below.refl w4.heap.size w4).drew).alloc (Nat.le_refl _) ob)
              have e4 := hE4.cell hLk 4 rfl
              have m3 := fun ob => (hEd ob).cell hLk 4 rfl
              have hbd := fun ob => ((Below.refl w4.heap.size w4).drew).alloc (Nat.le_refl _) ob
              have m0 := fun ob => ((hbd ob).cell (p := ⟨w.heap.size, 0, none⟩) zr).trans q1
              have m1 := fun ob => ((hbd ob).cell (p := ⟨w.heap.size, 1, none⟩) zr).trans q2
              have m4 := fun ob => (hE4.below ((Below.refl w4.heap.size w4).alloc (Nat.le_refl _) ob)).cell hLk 4 rfl
              have hby : (x.history.length + 1) * 56 ≤ 140737488355328 := by omega
              have mixed : Tryd.prog.follows .mixedOrders = true := by kernel_rfl
              go_region_law_o (refine step_app1 hown Tryd.underlying59 dep_info hby ?_; intro v5 w5 ho5 hg5; obtain ⟨A5, c5, hv5⟩ := ho5.slice_form; subst hv5; have hrow := (hEd _).rowG hLk hg5.by_ (.inr (.inr rfl)); have e4w := EP.cellG (j := 4) hrow hLk rfl; have hfw := hrow.1.frozenAt)
              all_goals
                go_upto_region 11 with (fail)
                generalize hx_ : World.setCell w5 _ _ = w6
                have hE6 := (hEd _).done (d := ⟨r, ver, now, 1⟩) hLk ho5 hg5 hx_.symm
                have hL6 := List.getElem?_set_self (l := L) (i := k) (a := (⟨{ x with history := x.history ++ [(⟨r, ver, now, 1⟩ : Dep)] }, .slice A1 x.waiting.length c1, .slice A5 (x.history.length + 1) c5⟩ : EnvV)) (by rw [hE4.ln]; exact hk)
                clear hx_ hrow e4w hfw m0 m1 m3 m4 hbd hEd hown hE4 e4
                have e1 := hE6.cell hL6 1 rfl
                have e2 := hE6.cell hL6 2 rfl
                have e4 := hE6.cell hL6 4 rfl
                have hfr := hE6.fr
                have hs6 := hE6.sub _ (List.mem_of_getElem? hL6)
                have hht : Own w1 w6 depT 5 (.slice A5 (x.history.length + 1) c5) (x.history.length + 1) ((x.history ++ [(⟨r, ver, now, 1⟩ : Dep)]).flatMap depC) := by
                  have := hs6.ht
                  simp only [List.length_append] at this
                  exact this
                obtain ⟨bY, hY1, _, _⟩ := hht.blk (Nat.succ_pos _)
                subst hY1
                have D := delD_any ((x.history ++ [(⟨r, ver, now, 1⟩ : Dep)]).flatMap depC) bY c5 (x.history.length + 1) 0 w1 w6 hht (Nat.succ_pos _) (by omega) (by
                  intro u hu
                  obtain ⟨z, _, hz⟩ := List.mem_flatMap.1 hu
                  simp at hz
                  rcases hz with rfl | rfl | rfl | rfl | rfl <;> rfl)
                replace D := Lib.hid D
                clear hht hs6
                repeat' ((fail_if_success at_builtin); (first | go_skip | go_guarded | go_step))
                refine D.out.mono ?_
                clear D
                rintro e w7 ⟨rfl, ho7, hg7⟩
                dsimp only
                have hrow := hE6.rowG hL6 hg7 (.inr (.inr rfl))
                have hfr7 : ∀ j, w7.frozen? ⟨g, j, none⟩ = false := hrow.1.frozenAt
                have e4 := EP.cellG (j := 4) hrow hL6 rfl
                have ht7 : ((x.history ++ [(⟨r, ver, now, 1⟩ : Dep)]).flatMap depC).take (0 * 5) ++ ((x.history ++ [(⟨r, ver, now, 1⟩ : Dep)]).flatMap depC).drop ((0 + 1) * 5) = ((x.history ++ [(⟨r, ver, now, 1⟩ : Dep)]).drop 1).flatMap depC := by
                  cases x.history with
                  | nil => rfl
                  | cons y t => rfl
                have hm1 : x.history.length + 1 - 1 = ((x.history ++ [(⟨r, ver, now, 1⟩ : Dep)]).drop 1).length := by simp
                rw [ht7] at ho7
                replace hm1 := Lib.hid hm1
                go_upto_region 13 with (fail)
                generalize hx_ : World.setCell w7 _ _ = w8
                have hE8 := hE6.cutH hL6 hm1.out ho7 hg7 hx_.symm
                rw [List.set_set] at hE8
                have hL8 := List.getElem?_set_self (l := L) (i := k) (a := (⟨{ x with history := (x.history ++ [(⟨r, ver, now, 1⟩ : Dep)]).drop 1 }, .slice A1 x.waiting.length c1, .slice (some ⟨bY, 0, none⟩) (x.history.length + 1 - 1) c5⟩ : EnvV)) (List.getElem?_eq_some_iff.1 hLk).1
                clear hx_ hrow hfr7 e1 e2 e4 hfr hE6 ho7
                have e1 := hE8.cell hL8 1 rfl
                have e2 := hE8.cell hL8 2 rfl
                have hfr := hE8.fr
                go_upto_region 14 with (fail)
                generalize hx_ : World.setCell (World.setCell w8 _ _) _ _ = w9
                have hE9 := hE8.putH hL8 zR w9 hx_.symm
                rw [List.set_set] at hE9
                have hLx9 : (L.set k ⟨{ x with holder := zR, history := (x.history ++ [(⟨r, ver, now, 1⟩ : Dep)]).drop 1 }, .slice A1 x.waiting.length c1, .slice (some ⟨bY, 0, none⟩) (x.history.length + 1 - 1) c5⟩).map (·.x) = l.set k (finE ⟨r, ver, now, 1⟩ x) := by
                  rw [List.map_set, hLx]
                  congr 1
                  unfold finE capH
                  rw [if_pos (by rw [List.length_append]; have := hcN.out; simp; omega)]
                replace hE9 := Lib.hid hE9
                clear hx_ e1 e2 hfr hE8
                repeat' ((fail_if_success at_builtin); (first | go_skip | go_guarded | go_step))
                go_ret2
                rw [hm.out]
                exact hE9.out.ret hLx9 hb0 0
            · have hcN := Lib.hid hc
              have hc1 : ¬ (64 : Int) < (x.history.length : Int) + 1 := by omega
              clear hc
              have hown := (hE4.sub _ (List.mem_of_getElem? hLk)).ht.below (Below.refl w4.heap.size w4).drew
              have hEd := fun ob => hE4.below (((Below.refl w4.heap.size w4).drew).alloc (Nat.le_refl _) ob)
              have e4 := hE4.cell hLk 4 rfl
              have m3 := fun ob => (hEd ob).cell hLk 4 rfl
              have hbd := fun ob => ((Below.refl w4.heap.size w4).drew).alloc (Nat.le_refl _) ob
              have m0 := fun ob => ((hbd ob).cell (p := ⟨w.heap.size, 0, none⟩) zr).trans q1
              have m1 := fun ob => ((hbd ob).cell (p := ⟨w.heap.size, 1, none⟩) zr).trans q2
              have m4 := fun ob => (hE4.below ((Below.refl w4.heap.size w4).alloc (Nat.le_refl _) ob)).cell hLk 4 rfl
              have hby : (x.history.length + 1) * 56 ≤ 140737488355328 := by omega
              have mixed : Tryd.prog.follows .mixedOrders = true := by kernel_rfl
              go_region_law_o (refine step_app1 hown Tryd.underlying59 dep_info hby ?_; intro v5 w5 ho5 hg5; obtain ⟨A5, c5, hv5⟩ := ho5.slice_form; subst hv5; have hrow := (hEd _).rowG hLk hg5.by_ (.inr (.inr rfl)); have e4w := EP.cellG (j := 4) hrow hLk rfl; have hfw := hrow.1.frozenAt)
              all_goals
                go_upto_region 11 with (fail)
                generalize hx_ : World.setCell w5 _ _ = w6
                have hE6 := (hEd _).done (d := ⟨r, ver, now, 1⟩) hLk ho5 hg5 hx_.symm
                have hL6 := List.getElem?_set_self (l := L) (i := k) (a := (⟨{ x with history := x.history ++ [(⟨r, ver, now, 1⟩ : Dep)] }, .slice A1 x.waiting.length c1, .slice A5 (x.history.length + 1) c5⟩ : EnvV)) (by rw [hE4.ln]; exact hk)
                clear hx_ hrow e4w hfw m0 m1 m3 m4 hbd hEd hown hE4 e4
                have e1 := hE6.cell hL6 1 rfl
                have e2 := hE6.cell hL6 2 rfl
                have e4 := hE6.cell hL6 4 rfl
                have hfr := hE6.fr
                go_upto_region 14 with (fail)
                generalize hx_ : World.setCell (World.setCell w6 _ _) _ _ = w9
                have hE9 := hE6.putH hL6 zR w9 hx_.symm
                rw [List.set_set] at hE9
                have hLx9 : (L.set k ⟨{ x with holder := zR, history := (x.history ++ [(⟨r, ver, now, 1⟩ : Dep)]) }, .slice A1 x.waiting.length c1, .slice A5 (x.history.length + 1) c5⟩).map (·.x) = l.set k (finE ⟨r, ver, now, 1⟩ x) := by
                  rw [List.map_set, hLx]
                  congr 1
                  unfold finE capH
                  rw [if_neg (by rw [List.length_append]; have := hcN.out; simp; omega)]
                replace hE9 := Lib.hid hE9
                clear hx_ e1 e2 hfr hE6
                repeat' ((fail_if_success at_builtin); (first | go_skip | go_guarded | go_step))
                go_ret2
                rw [hm.out]
                exact hE9.out.ret hLx9 hb0 0
        · rw [posI_out hk] at C
          rw [List.getElem?_eq_none (by omega)] at hm0
          have hm : finL l ⟨r, ver, now, 1⟩ = (l, 8) := by rw [hm0]; exact ite_self _
          clear hm0
          replace hm := Lib.hid hm
          replace C := Lib.hid C
          clear hk
          repeat' ((fail_if_success at_builtin); (first | go_skip | go_guarded | go_step))
          refine C.out.mono ?_
          clear C
          rintro e w3 ⟨rfl, hb3⟩
          dsimp only
          replace q1 := (hb3.cell (p := ⟨w.heap.size, 0, none⟩) zr).trans q1
          replace q2 := (hb3.cell (p := ⟨w.heap.size, 1, none⟩) zr).trans q2
          replace zr := Nat.lt_of_lt_of_le zr hb3.size
          have hE3 := hE.below hb3
          clear hE hb3
          have C := proper_any r w3
          cases hpr : properR r with
          | false =>
            rw [hpr] at C
            replace C := Lib.hid C
            repeat' ((fail_if_success at_builtin); (first | go_skip | go_guarded | go_step))
            refine C.out.mono ?_
            clear C
            rintro e w4 ⟨rfl, hb4⟩
            dsimp only
            have hE4 := hE3.below hb4
            replace hE4 := Lib.hid hE4
            clear hE3
            repeat' ((fail_if_success at_builtin); (first | go_skip | go_guarded | go_step))
            go_ret2
            rw [hm.out]
            exact hE4.out.ret hLx hb0 8
          | true =>
            rw [hpr] at C
            replace C := Lib.hid C
            repeat' ((fail_if_success at_builtin); (first | go_skip | go_guarded | go_step))
            refine C.out.mono ?_
            clear C
            rintro e w4 ⟨rfl, hb4⟩
            dsimp only
            have hE4 := hE3.below hb4
            replace hE4 := Lib.hid hE4
            clear hE3
            repeat' ((fail_if_success at_builtin); (first | go_skip | go_guarded | go_step))
            go_ret2
            rw [hm.out]
            exact hE4.out.ret hLx hb0 8
  · by_cases hs2 : st = 2
    · subst hs2
      by_cases ha1 : now < 0
      · have hm : finL l ⟨r, ver, now, 2⟩ = (l, 2) := by unfold finL; rw [if_neg (by simp), if_pos (Or.inl ha1)]
        replace hm := Lib.hid hm
        replace hE := Lib.hid hE
        repeat' ((fail_if_success at_builtin); (first | go_skip | go_guarded | go_step))
        go_ret2
        rw [hm.out]
        exact hE.out.ret hLx hb0 2
      · by_cases ha2 : 1125899906842624 < now
        · have hm : finL l ⟨r, ver, now, 2⟩ = (l, 2) := by unfold finL; rw [if_neg (by simp), if_pos (Or.inr ha2)]
          replace hm := Lib.hid hm
          replace hE := Lib.hid hE
          repeat' ((fail_if_success at_builtin); (first | go_skip | go_guarded | go_step))
          go_ret2
          rw [hm.out]
          exact hE.out.ret hLx hb0 2
        · have hm0 : finL l ⟨r, ver, now, 2⟩ = if properR r = false then (l, (8 : Int)) else match l[posA (holdE r) l]? with
              | none => (l, (8 : Int))
              | some x => (l.set (posA (holdE r) l) (finE ⟨r, ver, now, 2⟩ x), (0 : Int)) := by unfold finL; rw [if_neg (by simp), if_neg (by show ¬ (now < 0 ∨ 1125899906842624 < now); omega)]; rfl
          have C := idxE_any 55 w.heap.size (enters_of Tryd.func55 (by kernel_rfl) rfl) (holdE r) l (some ⟨g, 0, none⟩) n n w2 (hE.envs hLx hl hW) (fun x hx A1 c1 A2 c2 w' hb' => fin1_any x A1 c1 A2 c2 r w.heap.size w' ((hb'.cell (p := ⟨w.heap.size, 0, none⟩) zr).trans q1) ((hb'.cell (p := ⟨w.heap.size, 1, none⟩) zr).trans q2))
          by_cases hk : posA (holdE r) l < l.length
          · rw [posI_in hk] at C
            obtain ⟨x, hx⟩ : ∃ x, l[posA (holdE r) l]? = some x := ⟨_, List.getElem?_eq_getElem hk⟩
            rw [hx] at hm0
            dsimp only at hm0
            replace hk : posA (holdE r) l < n := by rw [← hn.out]; exact hk
            have hhl := hH x (List.mem_of_getElem? hx)
            obtain ⟨A1, c1, A2, c2, hLk⟩ := hE.at_ hLx hx
            clear hx
            generalize posA (holdE r) l = k at *
            have k0 : (0 : Int) ≤ (k : Int) := by omega
            have k1 : (k : Int) < (n : Int) := by omega
            have k3 : ¬ (k : Int) < 0 := by omega
            replace C := Lib.hid C
            repeat' ((fail_if_success at_builtin); (first | go_skip | go_guarded | go_step))
            refine C.out.mono ?_
            clear C
            rintro e w3 ⟨rfl, hb3⟩
            dsimp only
            replace q1 := (hb3.cell (p := ⟨w.heap.size, 0, none⟩) zr).trans q1
            replace q2 := (hb3.cell (p := ⟨w.heap.size, 1, none⟩) zr).trans q2
            replace zr := Nat.lt_of_lt_of_le zr hb3.size
            have hE3 := hE.below hb3
            clear hE hb3
            have C := proper_any r w3
            cases hpr : properR r with
            | false =>
              rw [hpr] at C hm0
              have hm : finL l ⟨r, ver, now, 2⟩ = (l, 8) := by rw [hm0, if_pos rfl]
              replace hm := Lib.hid hm
              replace C := Lib.hid C
              clear hm0
              repeat' ((fail_if_success at_builtin); (first | go_skip | go_guarded | go_step))
              refine C.out.mono ?_
              clear C
              rintro e w4 ⟨rfl, hb4⟩
              dsimp only
              have hE4 := hE3.below hb4
              replace hE4 := Lib.hid hE4
              clear hE3
              repeat' ((fail_if_success at_builtin); (first | go_skip | go_guarded | go_step))
              go_ret2
              rw [hm.out]
              exact hE4.out.ret hLx hb0 8
            | true =>
              rw [hpr] at C hm0
              have hm : finL l ⟨r, ver, now, 2⟩ = (l.set k (finE ⟨r, ver, now, 2⟩ x), 0) := by rw [hm0, if_neg (by simp)]
              replace hm := Lib.hid hm
              replace C := Lib.hid C
              clear hm0 hpr
              repeat' ((fail_if_success at_builtin); (first | go_skip | go_guarded | go_step))
              refine C.out.mono ?_
              clear C
              rintro e w4 ⟨rfl, hb4⟩
              dsimp only
              replace q1 := (hb4.cell (p := ⟨w.heap.size, 0, none⟩) zr).trans q1
              replace q2 := (hb4.cell (p := ⟨w.heap.size, 1, none⟩) zr).trans q2
              replace zr := Nat.lt_of_lt_of_le zr hb4.size
              have hE4 := hE3.below hb4
              clear hE3 hb4
              go_upto_region 10 with (fail)
              by_cases hc : 64 < x.history.length + 1
              · have hcN := Lib.hid hc
                have hc1 : (64 : Int) < (x.history.length : Int) + 1 := by omega
                clear hc
                have hown := (hE4.sub _ (List.mem_of_getElem? hLk)).ht.below (Below.refl w4.heap.size w4).drew
                have hEd := fun ob => hE4.below (((Below.refl w4.heap.size w4).drew).alloc (Nat.le_refl _) ob)
                have e4 := hE4.cell hLk 4 rfl
                have m3 := fun ob => (hEd ob).cell hLk 4 rfl
                have hbd := fun ob => ((Below.refl w4.heap.size w4).drew).alloc (Nat.le_refl _) ob
                have m0 := fun ob => ((hbd ob).cell (p := ⟨w.heap.size, 0, none⟩) zr).trans q1
                have m1 := fun ob => ((hbd ob).cell (p := ⟨w.heap.size, 1, none⟩) zr).trans q2
                have m4 := fun ob => (hE4.below ((Below.refl w4.heap.size w4).alloc (Nat.le_refl _) ob)).cell hLk 4 rfl
                have hby : (x.history.length + 1) * 56 ≤ 140737488355328 := by omega
                have mixed : Tryd.prog.follows .mixedOrders = true := by kernel_rfl
                go_region_law_o (refine step_app1 hown Tryd.underlying59 dep_info hby ?_; intro v5 w5 ho5 hg5; obtain ⟨A5, c5, hv5⟩ := ho5.slice_form; subst hv5; have hrow := (hEd _).rowG hLk hg5.by_ (.inr (.inr rfl)); have e4w := EP.cellG (j := 4) hrow hLk rfl; have hfw := hrow.1.frozenAt)
                all_goals
                  go_upto_region 11 with (fail)
                  generalize hx_ : World.setCell w5 _ _ = w6
                  have hE6 := (hEd _).done (d := ⟨r, ver, now, 2⟩) hLk ho5 hg5 hx_.symm
                  have hL6 := List.getElem?_set_self (l := L) (i := k) (a := (⟨{ x with history := x.history ++ [(⟨r, ver, now, 2⟩ : Dep)] }, .slice A1 x.waiting.length c1, .slice A5 (x.history.length + 1) c5⟩ : EnvV)) (by rw [hE4.ln]; exact hk)
                  clear hx_ hrow e4w hfw m0 m1 m3 m4 hbd hEd hown hE4 e4
                  have e1 := hE6.cell hL6 1 rfl
                  have e2 := hE6.cell hL6 2 rfl
                  have e4 := hE6.cell hL6 4 rfl
                  have hfr := hE6.fr
                  have hs6 := hE6.sub _ (List.mem_of_getElem? hL6)
                  have hht : Own w1 w6 depT 5 (.slice A5 (x.history.length + 1) c5) (x.history.length + 1) ((x.history ++ [(⟨r, ver, now, 2⟩ : Dep)]).flatMap depC) := by
                    have := hs6.ht
                    simp only [List.length_append] at this
                    exact this
                  obtain ⟨bY, hY1, _, _⟩ := hht.blk (Nat.succ_pos _)
                  subst hY1
                  have D := delD_any ((x.history ++ [(⟨r, ver, now, 2⟩ : Dep)]).flatMap depC) bY c5 (x.history.length + 1) 0 w1 w6 hht (Nat.succ_pos _) (by omega) (by
                    intro u hu
                    obtain ⟨z, _, hz⟩ := List.mem_flatMap.1 hu
                    simp at hz
                    rcases hz with rfl | rfl | rfl | rfl | rfl <;> rfl)
                  replace D := Lib.hid D
                  clear hht hs6
                  repeat' ((fail_if_success at_builtin); (first | go_skip | go_guarded | go_step))
                  refine D.out.mono ?_
                  clear D
                  rintro e w7 ⟨rfl, ho7, hg7⟩
                  dsimp only
                  have hrow := hE6.rowG hL6 hg7 (.inr (.inr rfl))
                  have hfr7 : ∀ j, w7.frozen? ⟨g, j, none⟩ = false := hrow.1.frozenAt
                  have e4 := EP.cellG (j := 4) hrow hL6 rfl
                  have ht7 : ((x.history ++ [(⟨r, ver, now, 2⟩ : Dep)]).flatMap depC).take (0 * 5) ++ ((x.history ++ [(⟨r, ver, now, 2⟩ : Dep)]).flatMap depC).drop ((0 + 1) * 5) = ((x.history ++ [(⟨r, ver, now, 2⟩ : Dep)]).drop 1).flatMap depC := by
                    cases x.history with
                    | nil => rfl
                    | cons y t => rfl
                  have hm1 : x.history.length + 1 - 1 = ((x.history ++ [(⟨r, ver, now, 2⟩ : Dep)]).drop 1).length := by simp
                  rw [ht7] at ho7
                  replace hm1 := Lib.hid hm1
                  go_upto_region 13 with (fail)
                  generalize hx_ : World.setCell w7 _ _ = w8
                  have hE8 := hE6.cutH hL6 hm1.out ho7 hg7 hx_.symm
                  rw [List.set_set] at hE8
                  have hL8 := List.getElem?_set_self (l := L) (i := k) (a := (⟨{ x with history := (x.history ++ [(⟨r, ver, now, 2⟩ : Dep)]).drop 1 }, .slice A1 x.waiting.length c1, .slice (some ⟨bY, 0, none⟩) (x.history.length + 1 - 1) c5⟩ : EnvV)) (List.getElem?_eq_some_iff.1 hLk).1
                  clear hx_ hrow hfr7 e1 e2 e4 hfr hE6 ho7
                  have e1 := hE8.cell hL8 1 rfl
                  have e2 := hE8.cell hL8 2 rfl
                  have hfr := hE8.fr
                  go_upto_region 14 with (fail)
                  generalize hx_ : World.setCell (World.setCell w8 _ _) _ _ = w9
                  have hE9 := hE8.putH hL8 zR w9 hx_.symm
                  rw [List.set_set] at hE9
                  have hLx9 : (L.set k ⟨{ x with holder := zR, history := (x.history ++ [(⟨r, ver, now, 2⟩ : Dep)]).drop 1 }, .slice A1 x.waiting.length c1, .slice (some ⟨bY, 0, none⟩) (x.history.length + 1 - 1) c5⟩).map (·.x) = l.set k (finE ⟨r, ver, now, 2⟩ x) := by
                    rw [List.map_set, hLx]
                    congr 1
                    unfold finE capH
                    rw [if_pos (by rw [List.length_append]; have := hcN.out; simp; omega)]
                  replace hE9 := Lib.hid hE9
                  clear hx_ e1 e2 hfr hE8
                  repeat' ((fail_if_success at_builtin); (first | go_skip | go_guarded | go_step))
                  go_ret2
                  rw [hm.out]
                  exact hE9.out.ret hLx9 hb0 0
              · have hcN := Lib.hid hc
                have hc1 : ¬ (64 : Int) < (x.history.length : Int) + 1 := by omega
                clear hc
                have hown := (hE4.sub _ (List.mem_of_getElem? hLk)).ht.below (Below.refl w4.heap.size w4).drew
                have hEd := fun ob => hE4.below (((Below.refl w4.heap.size w4).drew).alloc (Nat.le_refl _) ob)
                have e4 := hE4.cell hLk 4 rfl
                have m3 := fun ob => (hEd ob).cell hLk 4 rfl
                have hbd := fun ob => ((Below.refl w4.heap.size w4).drew).alloc (Nat.le_refl _) ob
                have m0 := fun ob => ((hbd ob).cell (p := ⟨w.heap.size, 0, none⟩) zr).trans q1
                have m1 := fun ob => ((hbd ob).cell (p := ⟨w.heap.size, 1, none⟩) zr).trans q2
                have m4 := fun ob => (hE4.below ((Below.refl w4.heap.size w4).alloc (Nat.le_refl _) ob)).cell hLk 4 rfl
                have hby : (x.history.length + 1) * 56 ≤ 140737488355328 := by omega
                have mixed : Tryd.prog.follows .mixedOrders = true := by kernel_rfl
                go_region_law_o (refine step_app1 hown Tryd.underlying59 dep_info hby ?_; intro v5 w5 ho5 hg5; obtain ⟨A5, c5, hv5⟩ := ho5.slice_form; subst hv5; have hrow := (hEd _).rowG hLk hg5.by_ (.inr (.inr rfl)); have e4w := EP.cellG (j := 4) hrow hLk rfl; have hfw := hrow.1.frozenAt)
                all_goals
                  go_upto_region 11 with (fail)
                  generalize hx_ : World.setCell w5 _ _ = w6
                  have hE6 := (hEd _).done (d := ⟨r, ver, now, 2⟩) hLk ho5 hg5 hx_.symm
                  have hL6 := List.getElem?_set_self (l := L) (i := k) (a := (⟨{ x with history := x.history ++ [(⟨r, ver, now, 2⟩ : Dep)] }, .slice A1 x.waiting.length c1, .slice A5 (x.history.length + 1) c5⟩ : EnvV)) (by rw [hE4.ln]; exact hk)
                  clear hx_ hrow e4w hfw m0 m1 m3 m4 hbd hEd hown hE4 e4
                  have e1 := hE6.cell hL6 1 rfl
                  have e2 := hE6.cell hL6 2 rfl
                  have e4 := hE6.cell hL6 4 rfl
                  have hfr := hE6.fr
                  go_upto_region 14 with (fail)
                  generalize hx_ : World.setCell (World.setCell w6 _ _) _ _ = w9
                  have hE9 := hE6.putH hL6 zR w9 hx_.symm
                  rw [List.set_set] at hE9
                  have hLx9 : (L.set k ⟨{ x with holder := zR, history := (x.history ++ [(⟨r, ver, now, 2⟩ : Dep)]) }, .slice A1 x.waiting.length c1, .slice A5 (x.history.length + 1) c5⟩).map (·.x) = l.set k (finE ⟨r, ver, now, 2⟩ x) := by
                    rw [List.map_set, hLx]
                    congr 1
                    unfold finE capH
                    rw [if_neg (by rw [List.length_append]; have := hcN.out; simp; omega)]
                  replace hE9 := Lib.hid hE9
                  clear hx_ e1 e2 hfr hE6
                  repeat' ((fail_if_success at_builtin); (first | go_skip | go_guarded | go_step))
                  go_ret2
                  rw [hm.out]
                  exact hE9.out.ret hLx9 hb0 0
          · rw [posI_out hk] at C
            rw [List.getElem?_eq_none (by omega)] at hm0
            have hm : finL l ⟨r, ver, now, 2⟩ = (l, 8) := by rw [hm0]; exact ite_self _
            clear hm0
            replace hm := Lib.hid hm
            replace C := Lib.hid C
            clear hk
            repeat' ((fail_if_success at_builtin); (first | go_skip | go_guarded | go_step))
            refine C.out.mono ?_
            clear C
            rintro e w3 ⟨rfl, hb3⟩
            dsimp only
            replace q1 := (hb3.cell (p := ⟨w.heap.size, 0, none⟩) zr).trans q1
            replace q2 := (hb3.cell (p := ⟨w.heap.size, 1, none⟩) zr).trans q2
            replace zr := Nat.lt_of_lt_of_le zr hb3.size
            have hE3 := hE.below hb3
            clear hE hb3
            have C := proper_any r w3
            cases hpr : properR r with
            | false =>
              rw [hpr] at C
              replace C := Lib.hid C
              repeat' ((fail_if_success at_builtin); (first | go_skip | go_guarded | go_step))
              refine C.out.mono ?_
              clear C
              rintro e w4 ⟨rfl, hb4⟩
              dsimp only
              have hE4 := hE3.below hb4
              replace hE4 := Lib.hid hE4
              clear hE3
              repeat' ((fail_if_success at_builtin); (first | go_skip | go_guarded | go_step))
              go_ret2
              rw [hm.out]
              exact hE4.out.ret hLx hb0 8
            | true =>
              rw [hpr] at C
              replace C := Lib.hid C
              repeat' ((fail_if_success at_builtin); (first | go_skip | go_guarded | go_step))
              refine C.out.mono ?_
              clear C
              rintro e w4 ⟨rfl, hb4⟩
              dsimp only
              have hE4 := hE3.below hb4
              replace hE4 := Lib.hid hE4
              clear hE3
              repeat' ((fail_if_success at_builtin); (first | go_skip | go_guarded | go_step))
              go_ret2
              rw [hm.out]
              exact hE4.out.ret hLx hb0 8
    · have f1 : (st == 1) = false := by simpa using hs1
      have f2 : (st == 2) = false := by simpa using hs2
      have hm : finL l ⟨r, ver, now, st⟩ = (l, 1) := by unfold finL; rw [if_pos (by show (st == 1 || st == 2) = false; rw [f1, f2]; rfl)]
      replace hm := Lib.hid hm
      replace hE := Lib.hid hE
      clear f1 f2
      have f1 : (st != 1) = true := by simpa using hs1
      have f2 : (st != 2) = true := by simpa using hs2
      clear hs1 hs2
      repeat' ((fail_if_success at_builtin); (first | go_skip | go_guarded | go_step))
      go_ret2
      rw [hm.out]
      exact hE.out.ret hLx hb0 1
end Go.Proofs.YtennhjkhjplmoaaDoor
