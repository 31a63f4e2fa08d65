/- Deploy: Lock. -/
import Derived.Test.YtennhjkhjplmoaaDoorDpMy
import Derived.Test.YtennhjkhjplmoaaDoorHk
namespace Go.Proofs.YtennhjkhjplmoaaDoor
open Go.RowKit
theorem Own.blk {w0 w : World} {e : TypeId} {sz n c m : Nat} {A : Option Addr} {xs : List Value} (h : Own w0 w e sz (.slice A n c) m xs) (h0 : 0 < m) : ∃ g, A = some ⟨g, 0, none⟩ ∧ w0.heap.size ≤ g ∧ g < w.heap.size := by
  rcases h.1.2 with ⟨_, h1⟩ | ⟨g, cap, cur, hv, hb, hg, _⟩
  · omega
  · injection hv with h1
    exact ⟨g, h1, hb, (Array.getElem?_eq_some_iff.1 hg).1⟩
/-- environments and an error -/
def RetL (w : World) (p : List Env × Int) (e : Ending) (w' : World) : Prop := ∃ A n c, e = .returned (.tuple #[.slice A n c, .int .i64 p.2]) ∧ Below w.heap.size w w' ∧ RSlice rEnv 5 w' (fun b => b < w'.heap.size) A n c p.1
section
variable {w0 w w' : World} {g n c k : Nat} {L : List EnvV} {x : Env} {u v : Value}
theorem EP.putH (h : EO w0 w g n c L) (hk : L[k]? = some ⟨x, u, v⟩) (r : Ref) (w1 : World) (hw1 : w1 = (w.setCell ⟨g, k * 5 + 1, none⟩ (.string r.run)).setCell ⟨g, k * 5 + 2, none⟩ (.string r.job)) : EO w0 w1 g n c (L.set k ⟨{ x with holder := r }, u, v⟩) := by
  have hkl := (List.getElem?_eq_some_iff.1 hk).1
  have hs := h.sub _ (List.mem_of_getElem? hk)
  have h1 := h.put hk (World.grownBy.refl w none) (.inl rfl) (e' := ⟨{ x with holder := ⟨r.run, x.holder.job⟩ }, u, v⟩) ⟨hs.wt, hs.ht, hs.d⟩ (NewB.refl _ _) (NewB.refl _ _) 1 (.string r.run) (by decide) rfl _ rfl
  have hk2 : (L.set k ⟨{ x with holder := ⟨r.run, x.holder.job⟩ }, u, v⟩)[k]? = some ⟨{ x with holder := ⟨r.run, x.holder.job⟩ }, u, v⟩ := List.getElem?_set_self hkl
  have hs2 := h1.sub _ (List.mem_of_getElem? hk2)
  have h2 := h1.put hk2 (World.grownBy.refl _ none) (.inl rfl) (e' := ⟨{ x with holder := r }, u, v⟩) ⟨hs2.wt, hs2.ht, hs2.d⟩ (NewB.refl _ _) (NewB.refl _ _) 2 (.string r.job) (by decide) rfl w1 hw1
  rw [List.set_set] at h2
  exact h2
theorem EP.at_ (h : EO w0 w g n c L) {l : List Env} (hl : L.map (·.x) = l) {x : Env} (hx : l[k]? = some x) : ∃ A1 c1 A2 c2, L[k]? = some ⟨x, .slice A1 x.waiting.length c1, .slice A2 x.history.length c2⟩ := by
  subst hl
  rw [List.getElem?_map] at hx
  cases hL : L[k]? with
  | none => rw [hL] at hx; cases hx
  | some e =>
    rw [hL] at hx
    injection hx with hx
    subst hx
    have hs := h.sub e (List.mem_of_getElem? hL)
    obtain ⟨A1, c1, e1⟩ := hs.wt.slice_form
    obtain ⟨A2, c2, e2⟩ := hs.ht.slice_form
    exact ⟨A1, c1, A2, c2, by rw [← e1, ← e2]⟩
theorem EP.ret (h : EO w0 w' g n c L) {l : List Env} (hl : L.map (·.x) = l) (hb : Below w.heap.size w w0) (code : Int) : RetL w (l, code) (.returned (.tuple #[.slice (some ⟨g, 0, none⟩) n c, .int .i64 code])) w' :=
  ⟨_, _, _, rfl, hb.trans (h.bel.mono hb.size), by rw [← hl]; exact h.read⟩
end
set_option maxRecDepth 100000 in
set_option maxHeartbeats 6000000 in
theorem lock_any (l : List Env) (s : ByteArray) (r : Ref) (A : Option Addr) (n c : Nat) (w : World) (h : Envs w A n c l) :
    Calls Tryd.prog 18 #[.slice A n c, .string s, .agg #[.string r.run, .string r.job]] w (RetL w (lockL l s r)) := by
  have hb0 := (Below.refl w.heap.size w).alloc (Nat.le_refl _) (.cells #[.string r.run, .string r.job] refT)
  have q0 := (CellsAt.new w #[.string r.run, .string r.job] refT).cell 0 _ rfl
  have q1 := (CellsAt.new w #[.string r.run, .string r.job] refT).cell 1 _ rfl
  have zz : w.heap.size < (w.alloc (.cells #[.string r.run, .string r.job] refT)).heap.size := by simp
  go_enter Tryd.func18, Tryd.ntmps18
  go_upto_region 1 with (fail)
  generalize World.alloc w _ = w1 at *
  have h1 := h.below hb0
  have hl := h.len
  have hW := h.each
  have hn := h.n
  replace hn := Lib.hid hn
  have C := copied_any l A n c w1 h1
  replace C := Lib.hid C
  clear h
  repeat' ((fail_if_success at_builtin); (first | go_skip | go_guarded | go_step))
  refine C.out.mono ?_
  clear C
  rintro e w2 ⟨g, L, rfl, hE, hLx⟩
  dsimp only
  have C := find_any l s (some ⟨g, 0, none⟩) n n w2 (hE.envs hLx hl hW)
  have hbe := hE.bel
  have p0 := (hbe.cell (p := ⟨w.heap.size, 0, none⟩) zz).trans q0
  have p1 := (hbe.cell (p := ⟨w.heap.size, 1, none⟩) zz).trans q1
  clear q0 q1 h1
  by_cases hk : posA (nameE s) l < l.length
  · rw [posI_in hk] at C
    obtain ⟨x, hx⟩ : ∃ x, l[posA (nameE s) l]? = some x := ⟨_, List.getElem?_eq_getElem hk⟩
    have hm : lockL l s r = if hasR x.waiting r = false then (l, 8) else if eqR x.holder zR = false then (l, 19) else if headR x.waiting r = false then (l, 22) else (l.set (posA (nameE s) l) (lockE r x), 0) := by unfold lockL; rw [hx]
    replace hk : posA (nameE s) l < n := by rw [← hn.out]; exact hk
    have hxW := hW x (List.mem_of_getElem? hx)
    obtain ⟨A1, c1, A2, c2, hLk⟩ := hE.at_ hLx hx
    clear hx
    generalize posA (nameE s) l = k at *
    have i0 : (0 : Int) ≤ (k : Int) := by omega
    have i1 : (k : Int) < (n : Int) := by omega
    have i3 : ¬ (k : Int) < 0 := by omega
    replace C := Lib.hid C
    repeat' ((fail_if_success at_builtin); (first | go_skip | go_guarded | go_step))
    refine C.out.mono ?_
    clear C
    rintro e w3 ⟨rfl, hb3⟩
    dsimp only
    have q0 := (hb3.cell (p := ⟨w.heap.size, 0, none⟩) (Nat.lt_of_lt_of_le zz hbe.size)).trans p0
    have q1 := (hb3.cell (p := ⟨w.heap.size, 1, none⟩) (Nat.lt_of_lt_of_le zz hbe.size)).trans p1
    have hbx : w.heap.size < w3.heap.size := Nat.lt_of_lt_of_le zz (Nat.le_trans hbe.size hb3.size)
    have hE3 := hE.below hb3
    clear p0 p1 hE hbe
    have hgl := hE3.lt
    have hs3 := hE3.sub _ (List.mem_of_getElem? hLk)
    have hwr := (Own.refR hs3.wt).slice rRef_ok
    have hwl : x.waiting.length ≤ 1000000 := hxW.wait
    have e1 := hE3.cell hLk 1 rfl
    have e2 := hE3.cell hLk 2 rfl
    have e3 := hE3.cell hLk 3 rfl
    clear hs3
    cases hh : hasR x.waiting r with
    | false =>
      rw [hh, if_pos rfl] at hm
      replace hm := Lib.hid hm
      clear e1 e2
      have hS0 : (Below w3.heap.size w3 w3 ∧ w3.cell? ⟨g, k * 5 + 3, none⟩ = some (.slice A1 x.waiting.length c1) ∧ w3.cell? ⟨w.heap.size, 0, none⟩ = some (.string r.run) ∧ w3.cell? ⟨w.heap.size, 1, none⟩ = some (.string r.job)) := ⟨Below.refl _ _, e3, q0, q1⟩
      have keepS : ∀ v1 v2 : World, (Below w3.heap.size w3 v1 ∧ v1.cell? ⟨g, k * 5 + 3, none⟩ = some (.slice A1 x.waiting.length c1) ∧ v1.cell? ⟨w.heap.size, 0, none⟩ = some (.string r.run) ∧ v1.cell? ⟨w.heap.size, 1, none⟩ = some (.string r.job)) → Below v1.heap.size v1 v2 → (Below w3.heap.size w3 v2 ∧ v2.cell? ⟨g, k * 5 + 3, none⟩ = some (.slice A1 x.waiting.length c1) ∧ v2.cell? ⟨w.heap.size, 0, none⟩ = some (.string r.run) ∧ v2.cell? ⟨w.heap.size, 1, none⟩ = some (.string r.job)) := fun v1 v2 h hb => ⟨h.1.trans (hb.mono h.1.size), (hb.cell (p := ⟨g, _, none⟩) (Nat.lt_of_lt_of_le hgl h.1.size)).trans h.2.1, (hb.cell (p := ⟨w.heap.size, _, none⟩) (Nat.lt_of_lt_of_le hbx h.1.size)).trans h.2.2.1, (hb.cell (p := ⟨w.heap.size, _, none⟩) (Nat.lt_of_lt_of_le hbx h.1.size)).trans h.2.2.2⟩
      have hS1 : (Below w3.heap.size w3 w3.drew ∧ w3.drew.cell? ⟨g, k * 5 + 3, none⟩ = some (.slice A1 x.waiting.length c1) ∧ w3.drew.cell? ⟨w.heap.size, 0, none⟩ = some (.string r.run) ∧ w3.drew.cell? ⟨w.heap.size, 1, none⟩ = some (.string r.job)) := keepS _ _ hS0 ((Below.refl _ _).drew)
      replace keepS := Lib.hid keepS
      clear hS0
      go_upto_region 3 with (fail)
      refine wp_region_held_drew (S := fun w' => Below w3.heap.size w3 w' ∧ w'.cell? ⟨g, k * 5 + 3, none⟩ = some (.slice A1 x.waiting.length c1) ∧ w'.cell? ⟨w.heap.size, 0, none⟩ = some (.string r.run) ∧ w'.cell? ⟨w.heap.size, 1, none⟩ = some (.string r.job)) (by kernel_rfl) ?_ (fun hHeld => ?_)
      · (try dsimp only)
        exact hS1
      refine tkY 0 (v := ?v1) rfl (.inl ⟨by rfl, ?hy1⟩) ?hr1
      case hy1 => (intro w hSw; (try dsimp only at hSw); go_simp; try with_reducible rfl)
      simp only [Act.put, List.getElem_toArray, List.getElem_cons_zero, List.setIfInBounds_toArray, List.set_cons_zero, List.set_cons_succ]
      refine tkY 1 (v := ?v2) rfl (.inl ⟨by rfl, ?hy2⟩) ?hr2
      case hy2 => (intro w hSw; (try dsimp only at hSw); go_simp; try with_reducible rfl)
      simp only [Act.put, List.getElem_toArray, List.getElem_cons_zero, List.getElem_cons_succ, List.setIfInBounds_toArray, List.set_cons_zero, List.set_cons_succ]
      refine tkY 2 (v := ?v3) rfl (.inl ⟨by rfl, ?hy3⟩) ?hr3
      case hy3 => (intro w hSw; (try dsimp only at hSw); go_simp; try with_reducible rfl)
      simp only [Act.put, List.getElem_toArray, List.getElem_cons_zero, List.getElem_cons_succ, List.setIfInBounds_toArray, List.set_cons_zero, List.set_cons_succ]
      refine tkY 3 (v := ?v4) rfl (.inl ⟨by rfl, ?hy4⟩) ?hr4
      case hy4 => (intro w hSw; (try dsimp only at hSw); go_simp; try with_reducible rfl)
      simp only [Act.put, List.getElem_toArray, List.getElem_cons_zero, List.getElem_cons_succ, List.setIfInBounds_toArray, List.set_cons_zero, List.set_cons_succ]
      refine tkY 4 (v := ?v5) rfl (.inl ⟨by rfl, ?hy5⟩) ?hr5
      case hy5 => (intro w hSw; (try dsimp only at hSw); go_simp; try with_reducible rfl)
      simp only [Act.put, List.getElem_toArray, List.getElem_cons_zero, List.getElem_cons_succ, List.setIfInBounds_toArray, List.set_cons_zero, List.set_cons_succ]
      refine tkY 5 (v := ?v6) rfl (.inl ⟨by rfl, ?hy6⟩) ?hr6
      case hy6 => (intro w hSw; (try dsimp only at hSw); go_simp; try with_reducible rfl)
      simp only [Act.put, List.getElem_toArray, List.getElem_cons_zero, List.getElem_cons_succ, List.setIfInBounds_toArray, List.set_cons_zero, List.set_cons_succ]
      refine tkY 6 (v := ?v7) rfl (.inl ⟨by rfl, ?hy7⟩) ?hr7
      case hy7 => (intro w hSw; (try dsimp only at hSw); go_simp; try with_reducible rfl)
      simp only [Act.put, List.getElem_toArray, List.getElem_cons_zero, List.getElem_cons_succ, List.setIfInBounds_toArray, List.set_cons_zero, List.set_cons_succ]
      refine tkY 7 (v := ?v8) rfl (.inl ⟨by rfl, ?hy8⟩) ?hr8
      case hy8 => (intro w hSw; (try dsimp only at hSw); go_simp; try with_reducible rfl)
      simp only [Act.put, List.getElem_toArray, List.getElem_cons_zero, List.getElem_cons_succ, List.setIfInBounds_toArray, List.set_cons_zero, List.set_cons_succ]
      refine tkY 8 (v := ?v9) rfl (.inl ⟨by rfl, ?hy9⟩) ?hr9
      case hy9 => (intro w hSw; (try dsimp only at hSw); go_simp; try with_reducible rfl)
      simp only [Act.put, List.getElem_toArray, List.getElem_cons_zero, List.getElem_cons_succ, List.setIfInBounds_toArray, List.set_cons_zero, List.set_cons_succ]
      refine wpAnyH_ready (rs := [9]) (by kernel_rfl) (by simp) ?_
      refine AllReadyH.cons rfl (fun K hK => ?_) AllReadyH.nil
      go_simp
      go_at_call 39
      have CJ := cnR_any x.waiting r A1 x.waiting.length c1 _ ⟨(hwr.below rRef_ok hHeld.1).more rRef_ok (fun _ hp => Nat.lt_of_lt_of_le hp hHeld.1.size), hwl⟩
      refine CJ.mono ?_
      clear CJ
      rintro e r9 ⟨rfl, hbq⟩
      dsimp only
      rw [hh]
      refine hK.out _ _ ?_ (fun hHeld => ?_)
      · (try dsimp only)
        exact keepS.out _ _ hHeld hbq
      clear hK K
      try simp only [Act.put, List.getElem_toArray, List.getElem_cons_zero, List.getElem_cons_succ, List.setIfInBounds_toArray, List.set_cons_zero, List.set_cons_succ]
      refine tkY 10 (v := ?v10) rfl (.inl ⟨by rfl, ?hy10⟩) ?hr10
      case hy10 => (intro w hSw; (try dsimp only at hSw); go_simp; try with_reducible rfl)
      simp only [Act.put, List.getElem_toArray, List.getElem_cons_zero, List.getElem_cons_succ, List.setIfInBounds_toArray, List.set_cons_zero, List.set_cons_succ]
      refine tkY 11 (v := ?v11) rfl (.inl ⟨by rfl, ?hy11⟩) ?hr11
      case hy11 => (intro w hSw; (try dsimp only at hSw); go_simp; try with_reducible rfl)
      simp only [Act.put, List.getElem_toArray, List.getElem_cons_zero, List.getElem_cons_succ, List.setIfInBounds_toArray, List.set_cons_zero, List.set_cons_succ]
      refine tkY 12 (v := ?v12) rfl (.inl ⟨by rfl, ?hy12⟩) ?hr12
      case hy12 => (intro w hSw; (try dsimp only at hSw); go_simp; try with_reducible rfl)
      simp only [Act.put, List.getElem_toArray, List.getElem_cons_zero, List.getElem_cons_succ, List.setIfInBounds_toArray, List.set_cons_zero, List.set_cons_succ]
      refine wpAnyH_done (by kernel_rfl) ?_ _
      have hbW := hHeld.1
      clear hHeld hS1 keepS
      have hE4 := hE3.below hbW
      clear hE3 hwr e3 q0 q1 hh
      replace hE4 := Lib.hid hE4
      repeat' ((fail_if_success at_builtin); (first | go_skip | go_guarded | go_step))
      go_ret2
      rw [hm.out]
      exact hE4.out.ret hLx hb0 8
    | true =>
      rw [hh, if_neg (by simp)] at hm
      have qE1 := qE_R x.holder zR
      cases hz : eqR x.holder zR with
      | false =>
        rw [hz, if_pos rfl] at hm
        simp only [hz] at qE1
        replace hm := Lib.hid hm
        have hS0 : (Below w3.heap.size w3 w3 ∧ w3.cell? ⟨g, k * 5 + 3, none⟩ = some (.slice A1 x.waiting.length c1) ∧ w3.cell? ⟨w.heap.size, 0, none⟩ = some (.string r.run) ∧ w3.cell? ⟨w.heap.size, 1, none⟩ = some (.string r.job)) := ⟨Below.refl _ _, e3, q0, q1⟩
        have keepS : ∀ v1 v2 : World, (Below w3.heap.size w3 v1 ∧ v1.cell? ⟨g, k * 5 + 3, none⟩ = some (.slice A1 x.waiting.length c1) ∧ v1.cell? ⟨w.heap.size, 0, none⟩ = some (.string r.run) ∧ v1.cell? ⟨w.heap.size, 1, none⟩ = some (.string r.job)) → Below v1.heap.size v1 v2 → (Below w3.heap.size w3 v2 ∧ v2.cell? ⟨g, k * 5 + 3, none⟩ = some (.slice A1 x.waiting.length c1) ∧ v2.cell? ⟨w.heap.size, 0, none⟩ = some (.string r.run) ∧ v2.cell? ⟨w.heap.size, 1, none⟩ = some (.string r.job)) := fun v1 v2 h hb => ⟨h.1.trans (hb.mono h.1.size), (hb.cell (p := ⟨g, _, none⟩) (Nat.lt_of_lt_of_le hgl h.1.size)).trans h.2.1, (hb.cell (p := ⟨w.heap.size, _, none⟩) (Nat.lt_of_lt_of_le hbx h.1.size)).trans h.2.2.1, (hb.cell (p := ⟨w.heap.size, _, none⟩) (Nat.lt_of_lt_of_le hbx h.1.size)).trans h.2.2.2⟩
        have hS1 : (Below w3.heap.size w3 w3.drew ∧ w3.drew.cell? ⟨g, k * 5 + 3, none⟩ = some (.slice A1 x.waiting.length c1) ∧ w3.drew.cell? ⟨w.heap.size, 0, none⟩ = some (.string r.run) ∧ w3.drew.cell? ⟨w.heap.size, 1, none⟩ = some (.string r.job)) := keepS _ _ hS0 ((Below.refl _ _).drew)
        replace keepS := Lib.hid keepS
        clear hS0
        go_upto_region 3 with (fail)
        refine wp_region_held_drew (S := fun w' => Below w3.heap.size w3 w' ∧ w'.cell? ⟨g, k * 5 + 3, none⟩ = some (.slice A1 x.waiting.length c1) ∧ w'.cell? ⟨w.heap.size, 0, none⟩ = some (.string r.run) ∧ w'.cell? ⟨w.heap.size, 1, none⟩ = some (.string r.job)) (by kernel_rfl) ?_ (fun hHeld => ?_)
        · (try dsimp only)
          exact hS1
        refine tkY 0 (v := ?v13) rfl (.inl ⟨by rfl, ?hy13⟩) ?hr13
        case hy13 => (intro w hSw; (try dsimp only at hSw); go_simp; try with_reducible rfl)
        simp only [Act.put, List.getElem_toArray, List.getElem_cons_zero, List.setIfInBounds_toArray, List.set_cons_zero, List.set_cons_succ]
        refine tkY 1 (v := ?v14) rfl (.inl ⟨by rfl, ?hy14⟩) ?hr14
        case hy14 => (intro w hSw; (try dsimp only at hSw); go_simp; try with_reducible rfl)
        simp only [Act.put, List.getElem_toArray, List.getElem_cons_zero, List.getElem_cons_succ, List.setIfInBounds_toArray, List.set_cons_zero, List.set_cons_succ]
        refine tkY 2 (v := ?v15) rfl (.inl ⟨by rfl, ?hy15⟩) ?hr15
        case hy15 => (intro w hSw; (try dsimp only at hSw); go_simp; try with_reducible rfl)
        simp only [Act.put, List.getElem_toArray, List.getElem_cons_zero, List.getElem_cons_succ, List.setIfInBounds_toArray, List.set_cons_zero, List.set_cons_succ]
        refine tkY 3 (v := ?v16) rfl (.inl ⟨by rfl, ?hy16⟩) ?hr16
        case hy16 => (intro w hSw; (try dsimp only at hSw); go_simp; try with_reducible rfl)
        simp only [Act.put, List.getElem_toArray, List.getElem_cons_zero, List.getElem_cons_succ, List.setIfInBounds_toArray, List.set_cons_zero, List.set_cons_succ]
        refine tkY 4 (v := ?v17) rfl (.inl ⟨by rfl, ?hy17⟩) ?hr17
        case hy17 => (intro w hSw; (try dsimp only at hSw); go_simp; try with_reducible rfl)
        simp only [Act.put, List.getElem_toArray, List.getElem_cons_zero, List.getElem_cons_succ, List.setIfInBounds_toArray, List.set_cons_zero, List.set_cons_succ]
        refine tkY 5 (v := ?v18) rfl (.inl ⟨by rfl, ?hy18⟩) ?hr18
        case hy18 => (intro w hSw; (try dsimp only at hSw); go_simp; try with_reducible rfl)
        simp only [Act.put, List.getElem_toArray, List.getElem_cons_zero, List.getElem_cons_succ, List.setIfInBounds_toArray, List.set_cons_zero, List.set_cons_succ]
        refine tkY 6 (v := ?v19) rfl (.inl ⟨by rfl, ?hy19⟩) ?hr19
        case hy19 => (intro w hSw; (try dsimp only at hSw); go_simp; try with_reducible rfl)
        simp only [Act.put, List.getElem_toArray, List.getElem_cons_zero, List.getElem_cons_succ, List.setIfInBounds_toArray, List.set_cons_zero, List.set_cons_succ]
        refine tkY 7 (v := ?v20) rfl (.inl ⟨by rfl, ?hy20⟩) ?hr20
        case hy20 => (intro w hSw; (try dsimp only at hSw); go_simp; try with_reducible rfl)
        simp only [Act.put, List.getElem_toArray, List.getElem_cons_zero, List.getElem_cons_succ, List.setIfInBounds_toArray, List.set_cons_zero, List.set_cons_succ]
        refine tkY 8 (v := ?v21) rfl (.inl ⟨by rfl, ?hy21⟩) ?hr21
        case hy21 => (intro w hSw; (try dsimp only at hSw); go_simp; try with_reducible rfl)
        simp only [Act.put, List.getElem_toArray, List.getElem_cons_zero, List.getElem_cons_succ, List.setIfInBounds_toArray, List.set_cons_zero, List.set_cons_succ]
        refine wpAnyH_ready (rs := [9]) (by kernel_rfl) (by simp) ?_
        refine AllReadyH.cons rfl (fun K hK => ?_) AllReadyH.nil
        go_simp
        go_at_call 39
        have CJ := cnR_any x.waiting r A1 x.waiting.length c1 _ ⟨(hwr.below rRef_ok hHeld.1).more rRef_ok (fun _ hp => Nat.lt_of_lt_of_le hp hHeld.1.size), hwl⟩
        refine CJ.mono ?_
        clear CJ
        rintro e r9 ⟨rfl, hbq⟩
        dsimp only
        rw [hh]
        refine hK.out _ _ ?_ (fun hHeld => ?_)
        · (try dsimp only)
          exact keepS.out _ _ hHeld hbq
        clear hK K
        try simp only [Act.put, List.getElem_toArray, List.getElem_cons_zero, List.getElem_cons_succ, List.setIfInBounds_toArray, List.set_cons_zero, List.set_cons_succ]
        refine tkY 10 (v := ?v22) rfl (.inl ⟨by rfl, ?hy22⟩) ?hr22
        case hy22 => (intro w hSw; (try dsimp only at hSw); go_simp; try with_reducible rfl)
        simp only [Act.put, List.getElem_toArray, List.getElem_cons_zero, List.getElem_cons_succ, List.setIfInBounds_toArray, List.set_cons_zero, List.set_cons_succ]
        refine tkY 11 (v := ?v23) rfl (.inl ⟨by rfl, ?hy23⟩) ?hr23
        case hy23 => (intro w hSw; (try dsimp only at hSw); go_simp; try with_reducible rfl)
        simp only [Act.put, List.getElem_toArray, List.getElem_cons_zero, List.getElem_cons_succ, List.setIfInBounds_toArray, List.set_cons_zero, List.set_cons_succ]
        refine tkY 12 (v := ?v24) rfl (.inl ⟨by rfl, ?hy24⟩) ?hr24
        case hy24 => (intro w hSw; (try dsimp only at hSw); go_simp; try with_reducible rfl)
        simp only [Act.put, List.getElem_toArray, List.getElem_cons_zero, List.getElem_cons_succ, List.setIfInBounds_toArray, List.set_cons_zero, List.set_cons_succ]
        refine wpAnyH_done (by kernel_rfl) ?_ _
        have hbW := hHeld.1
        clear hHeld hS1 keepS
        have hE4 := hE3.below hbW
        clear hE3 hwr e3 q0 q1 hh e1 e2
        have e1 := hE4.cell hLk 1 rfl
        have e2 := hE4.cell hLk 2 rfl
        replace hE4 := Lib.hid hE4
        repeat' ((fail_if_success at_builtin); (first | ((with_reducible show wpList _ _ _ _ _ _); first | refine wpList_eqS rfl rfl rfl rfl (by first | exact qE1 _ | exact qE2 _ | exact qE3 _ | exact qE4 _) (by kernel_rfl) ?_ | refine wpList_neS rfl rfl rfl rfl (by first | exact qE1 _ | exact qE2 _ | exact qE3 _ | exact qE4 _) (by kernel_rfl) ?_) | go_skip | go_guarded | go_step))
        go_ret2
        rw [hm.out]
        exact hE4.out.ret hLx hb0 19
      | true =>
        rw [hz, if_neg (by simp)] at hm
        simp only [hz] at qE1
        cases hw : x.waiting with
        | nil => rw [hw] at hh; cases hh
        | cons y t =>
          rw [hw] at hm
          have hy : headR (y :: t) r = eqR y r := rfl
          rw [hy] at hm
          have hq2 := run_neR y r
          have hll : 0 < x.waiting.length := by rw [hw]; simp
          have hll2 : (0 : Int) < (x.waiting.length : Int) := by omega
          replace hw := Lib.hid hw
          cases hv : eqR y r with
          | false =>
            rw [hv, if_pos rfl] at hm
            simp only [hv] at hq2
            replace hm := Lib.hid hm
            have hS0 : (Below w3.heap.size w3 w3 ∧ w3.cell? ⟨g, k * 5 + 3, none⟩ = some (.slice A1 x.waiting.length c1) ∧ w3.cell? ⟨w.heap.size, 0, none⟩ = some (.string r.run) ∧ w3.cell? ⟨w.heap.size, 1, none⟩ = some (.string r.job)) := ⟨Below.refl _ _, e3, q0, q1⟩
            have keepS : ∀ v1 v2 : World, (Below w3.heap.size w3 v1 ∧ v1.cell? ⟨g, k * 5 + 3, none⟩ = some (.slice A1 x.waiting.length c1) ∧ v1.cell? ⟨w.heap.size, 0, none⟩ = some (.string r.run) ∧ v1.cell? ⟨w.heap.size, 1, none⟩ = some (.string r.job)) → Below v1.heap.size v1 v2 → (Below w3.heap.size w3 v2 ∧ v2.cell? ⟨g, k * 5 + 3, none⟩ = some (.slice A1 x.waiting.length c1) ∧ v2.cell? ⟨w.heap.size, 0, none⟩ = some (.string r.run) ∧ v2.cell? ⟨w.heap.size, 1, none⟩ = some (.string r.job)) := fun v1 v2 h hb => ⟨h.1.trans (hb.mono h.1.size), (hb.cell (p := ⟨g, _, none⟩) (Nat.lt_of_lt_of_le hgl h.1.size)).trans h.2.1, (hb.cell (p := ⟨w.heap.size, _, none⟩) (Nat.lt_of_lt_of_le hbx h.1.size)).trans h.2.2.1, (hb.cell (p := ⟨w.heap.size, _, none⟩) (Nat.lt_of_lt_of_le hbx h.1.size)).trans h.2.2.2⟩
            have hS1 : (Below w3.heap.size w3 w3.drew ∧ w3.drew.cell? ⟨g, k * 5 + 3, none⟩ = some (.slice A1 x.waiting.length c1) ∧ w3.drew.cell? ⟨w.heap.size, 0, none⟩ = some (.string r.run) ∧ w3.drew.cell? ⟨w.heap.size, 1, none⟩ = some (.string r.job)) := keepS _ _ hS0 ((Below.refl _ _).drew)
            replace keepS := Lib.hid keepS
            clear hS0
            go_upto_region 3 with (fail)
            refine wp_region_held_drew (S := fun w' => Below w3.heap.size w3 w' ∧ w'.cell? ⟨g, k * 5 + 3, none⟩ = some (.slice A1 x.waiting.length c1) ∧ w'.cell? ⟨w.heap.size, 0, none⟩ = some (.string r.run) ∧ w'.cell? ⟨w.heap.size, 1, none⟩ = some (.string r.job)) (by kernel_rfl) ?_ (fun hHeld => ?_)
            · (try dsimp only)
              exact hS1
            refine tkY 0 (v := ?v25) rfl (.inl ⟨by rfl, ?hy25⟩) ?hr25
            case hy25 => (intro w hSw; (try dsimp only at hSw); go_simp; try with_reducible rfl)
            simp only [Act.put, List.getElem_toArray, List.getElem_cons_zero, List.setIfInBounds_toArray, List.set_cons_zero, List.set_cons_succ]
            refine tkY 1 (v := ?v26) rfl (.inl ⟨by rfl, ?hy26⟩) ?hr26
            case hy26 => (intro w hSw; (try dsimp only at hSw); go_simp; try with_reducible rfl)
            simp only [Act.put, List.getElem_toArray, List.getElem_cons_zero, List.getElem_cons_succ, List.setIfInBounds_toArray, List.set_cons_zero, List.set_cons_succ]
            refine tkY 2 (v := ?v27) rfl (.inl ⟨by rfl, ?hy27⟩) ?hr27
            case hy27 => (intro w hSw; (try dsimp only at hSw); go_simp; try with_reducible rfl)
            simp only [Act.put, List.getElem_toArray, List.getElem_cons_zero, List.getElem_cons_succ, List.setIfInBounds_toArray, List.set_cons_zero, List.set_cons_succ]
            refine tkY 3 (v := ?v28) rfl (.inl ⟨by rfl, ?hy28⟩) ?hr28
            case hy28 => (intro w hSw; (try dsimp only at hSw); go_simp; try with_reducible rfl)
            simp only [Act.put, List.getElem_toArray, List.getElem_cons_zero, List.getElem_cons_succ, List.setIfInBounds_toArray, List.set_cons_zero, List.set_cons_succ]
            refine tkY 4 (v := ?v29) rfl (.inl ⟨by rfl, ?hy29⟩) ?hr29
            case hy29 => (intro w hSw; (try dsimp only at hSw); go_simp; try with_reducible rfl)
            simp only [Act.put, List.getElem_toArray, List.getElem_cons_zero, List.getElem_cons_succ, List.setIfInBounds_toArray, List.set_cons_zero, List.set_cons_succ]
            refine tkY 5 (v := ?v30) rfl (.inl ⟨by rfl, ?hy30⟩) ?hr30
            case hy30 => (intro w hSw; (try dsimp only at hSw); go_simp; try with_reducible rfl)
            simp only [Act.put, List.getElem_toArray, List.getElem_cons_zero, List.getElem_cons_succ, List.setIfInBounds_toArray, List.set_cons_zero, List.set_cons_succ]
            refine tkY 6 (v := ?v31) rfl (.inl ⟨by rfl, ?hy31⟩) ?hr31
            case hy31 => (intro w hSw; (try dsimp only at hSw); go_simp; try with_reducible rfl)
            simp only [Act.put, List.getElem_toArray, List.getElem_cons_zero, List.getElem_cons_succ, List.setIfInBounds_toArray, List.set_cons_zero, List.set_cons_succ]
            refine tkY 7 (v := ?v32) rfl (.inl ⟨by rfl, ?hy32⟩) ?hr32
            case hy32 => (intro w hSw; (try dsimp only at hSw); go_simp; try with_reducible rfl)
            simp only [Act.put, List.getElem_toArray, List.getElem_cons_zero, List.getElem_cons_succ, List.setIfInBounds_toArray, List.set_cons_zero, List.set_cons_succ]
            refine tkY 8 (v := ?v33) rfl (.inl ⟨by rfl, ?hy33⟩) ?hr33
            case hy33 => (intro w hSw; (try dsimp only at hSw); go_simp; try with_reducible rfl)
            simp only [Act.put, List.getElem_toArray, List.getElem_cons_zero, List.getElem_cons_succ, List.setIfInBounds_toArray, List.set_cons_zero, List.set_cons_succ]
            refine wpAnyH_ready (rs := [9]) (by kernel_rfl) (by simp) ?_
            refine AllReadyH.cons rfl (fun K hK => ?_) AllReadyH.nil
            go_simp
            go_at_call 39
            have CJ := cnR_any x.waiting r A1 x.waiting.length c1 _ ⟨(hwr.below rRef_ok hHeld.1).more rRef_ok (fun _ hp => Nat.lt_of_lt_of_le hp hHeld.1.size), hwl⟩
            refine CJ.mono ?_
            clear CJ
            rintro e r9 ⟨rfl, hbq⟩
            dsimp only
            rw [hh]
            refine hK.out _ _ ?_ (fun hHeld => ?_)
            · (try dsimp only)
              exact keepS.out _ _ hHeld hbq
            clear hK K
            try simp only [Act.put, List.getElem_toArray, List.getElem_cons_zero, List.getElem_cons_succ, List.setIfInBounds_toArray, List.set_cons_zero, List.set_cons_succ]
            refine tkY 10 (v := ?v34) rfl (.inl ⟨by rfl, ?hy34⟩) ?hr34
            case hy34 => (intro w hSw; (try dsimp only at hSw); go_simp; try with_reducible rfl)
            simp only [Act.put, List.getElem_toArray, List.getElem_cons_zero, List.getElem_cons_succ, List.setIfInBounds_toArray, List.set_cons_zero, List.set_cons_succ]
            refine tkY 11 (v := ?v35) rfl (.inl ⟨by rfl, ?hy35⟩) ?hr35
            case hy35 => (intro w hSw; (try dsimp only at hSw); go_simp; try with_reducible rfl)
            simp only [Act.put, List.getElem_toArray, List.getElem_cons_zero, List.getElem_cons_succ, List.setIfInBounds_toArray, List.set_cons_zero, List.set_cons_succ]
            refine tkY 12 (v := ?v36) rfl (.inl ⟨by rfl, ?hy36⟩) ?hr36
            case hy36 => (intro w hSw; (try dsimp only at hSw); go_simp; try with_reducible rfl)
            simp only [Act.put, List.getElem_toArray, List.getElem_cons_zero, List.getElem_cons_succ, List.setIfInBounds_toArray, List.set_cons_zero, List.set_cons_succ]
            refine wpAnyH_done (by kernel_rfl) ?_ _
            have hbW := hHeld.1
            clear hHeld hS1 keepS
            have hE4 := hE3.below hbW
            have hbx4 := Nat.lt_of_lt_of_le hbx hbW.size
            have r0 := (hbW.cell (p := ⟨w.heap.size, 0, none⟩) hbx).trans q0
            have r1 := (hbW.cell (p := ⟨w.heap.size, 1, none⟩) hbx).trans q1
            clear hE3 e1 e2 e3 q0 q1 hh
            have e1 := hE4.cell hLk 1 rfl
            have e2 := hE4.cell hLk 2 rfl
            have e3 := hE4.cell hLk 3 rfl
            have hs4 := hE4.sub _ (List.mem_of_getElem? hLk)
            have hwr4 := (Own.refR hs4.wt).slice rRef_ok
            obtain ⟨bY, oY, hA1, hbw, y0, y1⟩ := ref_at hwr4 (i := 0) (x := y) (by rw [hw.out]; rfl)
            rw [Nat.zero_mul, Nat.add_zero] at y0 y1
            subst hA1
            clear hs4 hwr4 hwr
            replace hE4 := Lib.hid hE4
            repeat' ((fail_if_success at_builtin); (first | ((with_reducible show wpList _ _ _ _ _ _); first | refine wpList_eqS rfl rfl rfl rfl (by first | exact qE1 _ | exact qE2 _ | exact qE3 _ | exact qE4 _) (by kernel_rfl) ?_ | refine wpList_neS rfl rfl rfl rfl (by first | exact qE1 _ | exact qE2 _ | exact qE3 _ | exact qE4 _) (by kernel_rfl) ?_) | go_skip | go_guarded | go_step))
            go_quiet (fail)
            have hb9 := Below.drewN r9 nq
            have hE5 := hE4.out.below hb9
            generalize r9.drewN nq = w5 at *
            replace hE5 := Lib.hid hE5
            clear hE4 hb9
            repeat' ((fail_if_success at_builtin); (first | go_skip | go_guarded | go_step))
            go_ret2
            rw [hm.out]
            exact hE5.out.ret hLx hb0 22
          | true =>
            rw [hv, if_neg (by simp)] at hm
            simp only [hv] at hq2
            replace hm := Lib.hid hm
            have hS0 : (Below w3.heap.size w3 w3 ∧ w3.cell? ⟨g, k * 5 + 3, none⟩ = some (.slice A1 x.waiting.length c1) ∧ w3.cell? ⟨w.heap.size, 0, none⟩ = some (.string r.run) ∧ w3.cell? ⟨w.heap.size, 1, none⟩ = some (.string r.job)) := ⟨Below.refl _ _, e3, q0, q1⟩
            have keepS : ∀ v1 v2 : World, (Below w3.heap.size w3 v1 ∧ v1.cell? ⟨g, k * 5 + 3, none⟩ = some (.slice A1 x.waiting.length c1) ∧ v1.cell? ⟨w.heap.size, 0, none⟩ = some (.string r.run) ∧ v1.cell? ⟨w.heap.size, 1, none⟩ = some (.string r.job)) → Below v1.heap.size v1 v2 → (Below w3.heap.size w3 v2 ∧ v2.cell? ⟨g, k * 5 + 3, none⟩ = some (.slice A1 x.waiting.length c1) ∧ v2.cell? ⟨w.heap.size, 0, none⟩ = some (.string r.run) ∧ v2.cell? ⟨w.heap.size, 1, none⟩ = some (.string r.job)) := fun v1 v2 h hb => ⟨h.1.trans (hb.mono h.1.size), (hb.cell (p := ⟨g, _, none⟩) (Nat.lt_of_lt_of_le hgl h.1.size)).trans h.2.1, (hb.cell (p := ⟨w.heap.size, _, none⟩) (Nat.lt_of_lt_of_le hbx h.1.size)).trans h.2.2.1, (hb.cell (p := ⟨w.heap.size, _, none⟩) (Nat.lt_of_lt_of_le hbx h.1.size)).trans h.2.2.2⟩
            have hS1 : (Below w3.heap.size w3 w3.drew ∧ w3.drew.cell? ⟨g, k * 5 + 3, none⟩ = some (.slice A1 x.waiting.length c1) ∧ w3.drew.cell? ⟨w.heap.size, 0, none⟩ = some (.string r.run) ∧ w3.drew.cell? ⟨w.heap.size, 1, none⟩ = some (.string r.job)) := keepS _ _ hS0 ((Below.refl _ _).drew)
            replace keepS := Lib.hid keepS
            clear hS0
            go_upto_region 3 with (fail)
            refine wp_region_held_drew (S := fun w' => Below w3.heap.size w3 w' ∧ w'.cell? ⟨g, k * 5 + 3, none⟩ = some (.slice A1 x.waiting.length c1) ∧ w'.cell? ⟨w.heap.size, 0, none⟩ = some (.string r.run) ∧ w'.cell? ⟨w.heap.size, 1, none⟩ = some (.string r.job)) (by kernel_rfl) ?_ (fun hHeld => ?_)
            · (try dsimp only)
              exact hS1
            refine tkY 0 (v := ?v37) rfl (.inl ⟨by rfl, ?hy37⟩) ?hr37
            case hy37 => (intro w hSw; (try dsimp only at hSw); go_simp; try with_reducible rfl)
            simp only [Act.put, List.getElem_toArray, List.getElem_cons_zero, List.setIfInBounds_toArray, List.set_cons_zero, List.set_cons_succ]
            refine tkY 1 (v := ?v38) rfl (.inl ⟨by rfl, ?hy38⟩) ?hr38
            case hy38 => (intro w hSw; (try dsimp only at hSw); go_simp; try with_reducible rfl)
            simp only [Act.put, List.getElem_toArray, List.getElem_cons_zero, List.getElem_cons_succ, List.setIfInBounds_toArray, List.set_cons_zero, List.set_cons_succ]
            refine tkY 2 (v := ?v39) rfl (.inl ⟨by rfl, ?hy39⟩) ?hr39
            case hy39 => (intro w hSw; (try dsimp only at hSw); go_simp; try with_reducible rfl)
            simp only [Act.put, List.getElem_toArray, List.getElem_cons_zero, List.getElem_cons_succ, List.setIfInBounds_toArray, List.set_cons_zero, List.set_cons_succ]
            refine tkY 3 (v := ?v40) rfl (.inl ⟨by rfl, ?hy40⟩) ?hr40
            case hy40 => (intro w hSw; (try dsimp only at hSw); go_simp; try with_reducible rfl)
            simp only [Act.put, List.getElem_toArray, List.getElem_cons_zero, List.getElem_cons_succ, List.setIfInBounds_toArray, List.set_cons_zero, List.set_cons_succ]
            refine tkY 4 (v := ?v41) rfl (.inl ⟨by rfl, ?hy41⟩) ?hr41
            case hy41 => (intro w hSw; (try dsimp only at hSw); go_simp; try with_reducible rfl)
            simp only [Act.put, List.getElem_toArray, List.getElem_cons_zero, List.getElem_cons_succ, List.setIfInBounds_toArray, List.set_cons_zero, List.set_cons_succ]
            refine tkY 5 (v := ?v42) rfl (.inl ⟨by rfl, ?hy42⟩) ?hr42
            case hy42 => (intro w hSw; (try dsimp only at hSw); go_simp; try with_reducible rfl)
            simp only [Act.put, List.getElem_toArray, List.getElem_cons_zero, List.getElem_cons_succ, List.setIfInBounds_toArray, List.set_cons_zero, List.set_cons_succ]
            refine tkY 6 (v := ?v43) rfl (.inl ⟨by rfl, ?hy43⟩) ?hr43
            case hy43 => (intro w hSw; (try dsimp only at hSw); go_simp; try with_reducible rfl)
            simp only [Act.put, List.getElem_toArray, List.getElem_cons_zero, List.getElem_cons_succ, List.setIfInBounds_toArray, List.set_cons_zero, List.set_cons_succ]
            refine tkY 7 (v := ?v44) rfl (.inl ⟨by rfl, ?hy44⟩) ?hr44
            case hy44 => (intro w hSw; (try dsimp only at hSw); go_simp; try with_reducible rfl)
            simp only [Act.put, List.getElem_toArray, List.getElem_cons_zero, List.getElem_cons_succ, List.setIfInBounds_toArray, List.set_cons_zero, List.set_cons_succ]
            refine tkY 8 (v := ?v45) rfl (.inl ⟨by rfl, ?hy45⟩) ?hr45
            case hy45 => (intro w hSw; (try dsimp only at hSw); go_simp; try with_reducible rfl)
            simp only [Act.put, List.getElem_toArray, List.getElem_cons_zero, List.getElem_cons_succ, List.setIfInBounds_toArray, List.set_cons_zero, List.set_cons_succ]
            refine wpAnyH_ready (rs := [9]) (by kernel_rfl) (by simp) ?_
            refine AllReadyH.cons rfl (fun K hK => ?_) AllReadyH.nil
            go_simp
            go_at_call 39
            have CJ := cnR_any x.waiting r A1 x.waiting.length c1 _ ⟨(hwr.below rRef_ok hHeld.1).more rRef_ok (fun _ hp => Nat.lt_of_lt_of_le hp hHeld.1.size), hwl⟩
            refine CJ.mono ?_
            clear CJ
            rintro e r9 ⟨rfl, hbq⟩
            dsimp only
            rw [hh]
            refine hK.out _ _ ?_ (fun hHeld => ?_)
            · (try dsimp only)
              exact keepS.out _ _ hHeld hbq
            clear hK K
            try simp only [Act.put, List.getElem_toArray, List.getElem_cons_zero, List.getElem_cons_succ, List.setIfInBounds_toArray, List.set_cons_zero, List.set_cons_succ]
            refine tkY 10 (v := ?v46) rfl (.inl ⟨by rfl, ?hy46⟩) ?hr46
            case hy46 => (intro w hSw; (try dsimp only at hSw); go_simp; try with_reducible rfl)
            simp only [Act.put, List.getElem_toArray, List.getElem_cons_zero, List.getElem_cons_succ, List.setIfInBounds_toArray, List.set_cons_zero, List.set_cons_succ]
            refine tkY 11 (v := ?v47) rfl (.inl ⟨by rfl, ?hy47⟩) ?hr47
            case hy47 => (intro w hSw; (try dsimp only at hSw); go_simp; try with_reducible rfl)
            simp only [Act.put, List.getElem_toArray, List.getElem_cons_zero, List.getElem_cons_succ, List.setIfInBounds_toArray, List.set_cons_zero, List.set_cons_succ]
            refine tkY 12 (v := ?v48) rfl (.inl ⟨by rfl, ?hy48⟩) ?hr48
            case hy48 => (intro w hSw; (try dsimp only at hSw); go_simp; try with_reducible rfl)
            simp only [Act.put, List.getElem_toArray, List.getElem_cons_zero, List.getElem_cons_succ, List.setIfInBounds_toArray, List.set_cons_zero, List.set_cons_succ]
            refine wpAnyH_done (by kernel_rfl) ?_ _
            have hbW := hHeld.1
            clear hHeld hS1 keepS
            have hE4 := hE3.below hbW
            have hbx4 := Nat.lt_of_lt_of_le hbx hbW.size
            have r0 := (hbW.cell (p := ⟨w.heap.size, 0, none⟩) hbx).trans q0
            have r1 := (hbW.cell (p := ⟨w.heap.size, 1, none⟩) hbx).trans q1
            clear hE3 e1 e2 e3 q0 q1 hh
            have e1 := hE4.cell hLk 1 rfl
            have e2 := hE4.cell hLk 2 rfl
            have e3 := hE4.cell hLk 3 rfl
            have hs4 := hE4.sub _ (List.mem_of_getElem? hLk)
            have hwr4 := (Own.refR hs4.wt).slice rRef_ok
            obtain ⟨bY, oY, hA1, hbw, y0, y1⟩ := ref_at hwr4 (i := 0) (x := y) (by rw [hw.out]; rfl)
            rw [Nat.zero_mul, Nat.add_zero] at y0 y1
            subst hA1
            clear hs4 hwr4 hwr
            replace hE4 := Lib.hid hE4
            repeat' ((fail_if_success at_builtin); (first | ((with_reducible show wpList _ _ _ _ _ _); first | refine wpList_eqS rfl rfl rfl rfl (by first | exact qE1 _ | exact qE2 _ | exact qE3 _ | exact qE4 _) (by kernel_rfl) ?_ | refine wpList_neS rfl rfl rfl rfl (by first | exact qE1 _ | exact qE2 _ | exact qE3 _ | exact qE4 _) (by kernel_rfl) ?_) | go_skip | go_guarded | go_step))
            go_quiet (fail)
            have hb9 := Below.drewN r9 nq
            have hE5 := hE4.out.below hb9
            have r0 := (hb9.cell (p := ⟨w.heap.size, 0, none⟩) hbx4).trans r0
            have r1 := (hb9.cell (p := ⟨w.heap.size, 1, none⟩) hbx4).trans r1
            generalize r9.drewN nq = w5 at *
            clear hE4 hb9 e1 e2 e3 y0 y1
            have e1 := hE5.cell hLk 1 rfl
            have e2 := hE5.cell hLk 2 rfl
            have e3 := hE5.cell hLk 3 rfl
            have hfr := hE5.fr
            go_upto_region 10 with (fail)
            generalize hx_ : World.setCell (World.setCell w5 _ _) _ _ = w6
            have hE6 := hE5.putH hLk r w6 hx_.symm
            have hL6 : (L.set k ⟨{ x with holder := r }, .slice (some ⟨bY, oY, none⟩) x.waiting.length c1, .slice A2 x.history.length c2⟩)[k]? = some _ := List.getElem?_set_self (by rw [hE5.ln]; exact hk)
            clear hx_ e1 e2 e3 hfr hE5 r0 r1
            have hs6 := hE6.sub _ (List.mem_of_getElem? hL6)
            obtain ⟨bw, hbw1, hbw2, hbw3⟩ := hs6.wt.blk hll
            injection hbw1 with hbw1
            injection hbw1 with hx1 hx2
            subst hx1 hx2
            have D := delR_any (x.waiting.flatMap refC) bY c1 x.waiting.length 0 w1 w6 hs6.wt hll (by omega) (by
              intro u hu
              obtain ⟨z, _, hz⟩ := List.mem_flatMap.1 hu
              simp at hz
              rcases hz with rfl | rfl <;> rfl)
            have e3 := hE6.cell hL6 3 rfl
            replace D := Lib.hid D
            repeat' ((fail_if_success at_builtin); (first | go_skip | go_guarded | go_step))
            refine D.out.mono ?_
            clear D
            rintro e w7 ⟨rfl, ho7, hg7⟩
            dsimp only
            have hrow := hE6.rowG hL6 hg7 (.inr (.inl rfl))
            have hfr7 : ∀ j, w7.frozen? ⟨g, j, none⟩ = false := hrow.1.frozenAt
            have e3 : w7.cell? ⟨g, k * 5 + 3, none⟩ = some (.slice (some ⟨bY, 0, none⟩) x.waiting.length c1) := by
              have := hrow.1.cells (g := g) rfl (k * 5 + 3) _ (vsC_at 3 hL6 rfl)
              rw [Addr.add_lit, Nat.zero_add] at this
              exact this
            have ht7 : (x.waiting.flatMap refC).take (0 * 2) ++ (x.waiting.flatMap refC).drop ((0 + 1) * 2) = t.flatMap refC := by rw [hw.out]; rfl
            have hm1 : x.waiting.length - 1 = t.length := by rw [hw.out]; rfl
            rw [ht7, hm1] at ho7
            replace hm1 := Lib.hid hm1
            go_upto_region 11 with (fail)
            generalize hx_ : World.setCell w7 _ _ = w8
            have hE8 := hE6.put hL6 hg7 (.inr (.inl rfl)) (e' := ⟨lockE r x, .slice (some ⟨bY, 0, none⟩) (x.waiting.length - 1) c1, .slice A2 x.history.length c2⟩)
              ⟨by rw [hm1.out]; unfold lockE; rw [hw.out]; exact ho7, hs6.ht.grown hg7 (fun b hb e => by injection e with e; exact hs6.d b (by rw [← e]; rfl) hb) (fun b hb => by injection hb with hb; omega), fun b hb => hs6.d b hb⟩
              (fun b hb => .inl hb) (NewB.refl _ _) 3 _ (by decide) rfl w8 hx_.symm
            rw [List.set_set] at hE8
            have hLx8 : (L.set k ⟨lockE r x, .slice (some ⟨bY, 0, none⟩) (x.waiting.length - 1) c1, .slice A2 x.history.length c2⟩).map (·.x) = l.set k (lockE r x) := by rw [List.map_set, hLx]
            clear hx_ hE6 hs6 hrow
            replace hE8 := Lib.hid hE8
            repeat' ((fail_if_success at_builtin); (first | go_skip | go_guarded | go_step))
            go_ret2
            rw [hm.out]
            exact hE8.out.ret hLx8 hb0 0
  · rw [posI_out hk] at C
    have hm : lockL l s r = (l, 8) := by unfold lockL; rw [List.getElem?_eq_none (by omega)]
    replace hm := Lib.hid hm
    replace C := Lib.hid C
    clear hk
    repeat' ((fail_if_success at_builtin); (first | go_skip | go_guarded | go_step))
    refine C.out.mono ?_
    clear C
    rintro e w3 ⟨rfl, hb3⟩
    dsimp only
    have hE3 := hE.below hb3
    clear p0 p1 hE hbe
    have hS0 : (Below w3.heap.size w3 w3 ∧ True) := ⟨Below.refl _ _, trivial⟩
    have keepS : ∀ v1 v2 : World, (Below w3.heap.size w3 v1 ∧ True) → Below v1.heap.size v1 v2 → (Below w3.heap.size w3 v2 ∧ True) := fun v1 v2 h hb => ⟨h.1.trans (hb.mono h.1.size), trivial⟩
    have hS1 : (Below w3.heap.size w3 w3.drew ∧ True) := keepS _ _ hS0 ((Below.refl _ _).drew)
    replace keepS := Lib.hid keepS
    clear hS0
    go_upto_region 3 with (fail)
    refine wp_region_held_drew (S := fun w' => Below w3.heap.size w3 w' ∧ True) (by kernel_rfl) ?_ (fun hHeld => ?_)
    · (try dsimp only)
      exact hS1
    refine tkY 0 (v := ?v49) rfl (.inl ⟨by rfl, ?hy49⟩) ?hr49
    case hy49 => (intro w hSw; (try dsimp only at hSw); go_simp; try with_reducible rfl)
    simp only [Act.put, List.getElem_toArray, List.getElem_cons_zero, List.setIfInBounds_toArray, List.set_cons_zero, List.set_cons_succ]
    refine tkY 1 (v := ?v50) rfl (.inl ⟨by rfl, ?hy50⟩) ?hr50
    case hy50 => (intro w hSw; (try dsimp only at hSw); go_simp; try with_reducible rfl)
    simp only [Act.put, List.getElem_toArray, List.getElem_cons_zero, List.getElem_cons_succ, List.setIfInBounds_toArray, List.set_cons_zero, List.set_cons_succ]
    refine tkY 2 (v := ?v51) rfl (.inl ⟨by rfl, ?hy51⟩) ?hr51
    case hy51 => (intro w hSw; (try dsimp only at hSw); go_simp; try with_reducible rfl)
    simp only [Act.put, List.getElem_toArray, List.getElem_cons_zero, List.getElem_cons_succ, List.setIfInBounds_toArray, List.set_cons_zero, List.set_cons_succ]
    refine tkN 3 rfl ?_
    simp only [Act.put, List.getElem_toArray, List.getElem_cons_zero, List.getElem_cons_succ, List.setIfInBounds_toArray, List.set_cons_zero, List.set_cons_succ]
    refine tkN 4 rfl ?_
    simp only [Act.put, List.getElem_toArray, List.getElem_cons_zero, List.getElem_cons_succ, List.setIfInBounds_toArray, List.set_cons_zero, List.set_cons_succ]
    refine tkN 5 rfl ?_
    simp only [Act.put, List.getElem_toArray, List.getElem_cons_zero, List.getElem_cons_succ, List.setIfInBounds_toArray, List.set_cons_zero, List.set_cons_succ]
    refine tkN 6 rfl ?_
    simp only [Act.put, List.getElem_toArray, List.getElem_cons_zero, List.getElem_cons_succ, List.setIfInBounds_toArray, List.set_cons_zero, List.set_cons_succ]
    refine tkN 7 rfl ?_
    simp only [Act.put, List.getElem_toArray, List.getElem_cons_zero, List.getElem_cons_succ, List.setIfInBounds_toArray, List.set_cons_zero, List.set_cons_succ]
    refine tkN 8 rfl ?_
    simp only [Act.put, List.getElem_toArray, List.getElem_cons_zero, List.getElem_cons_succ, List.setIfInBounds_toArray, List.set_cons_zero, List.set_cons_succ]
    refine tkN 9 rfl ?_
    simp only [Act.put, List.getElem_toArray, List.getElem_cons_zero, List.getElem_cons_succ, List.setIfInBounds_toArray, List.set_cons_zero, List.set_cons_succ]
    refine tkN 10 rfl ?_
    simp only [Act.put, List.getElem_toArray, List.getElem_cons_zero, List.getElem_cons_succ, List.setIfInBounds_toArray, List.set_cons_zero, List.set_cons_succ]
    refine tkY 11 (v := ?v52) rfl (.inl ⟨by rfl, ?hy52⟩) ?hr52
    case hy52 => (intro w hSw; (try dsimp only at hSw); go_simp; try with_reducible rfl)
    simp only [Act.put, List.getElem_toArray, List.getElem_cons_zero, List.getElem_cons_succ, List.setIfInBounds_toArray, List.set_cons_zero, List.set_cons_succ]
    refine tkY 12 (v := ?v53) rfl (.inl ⟨by rfl, ?hy53⟩) ?hr53
    case hy53 => (intro w hSw; (try dsimp only at hSw); go_simp; try with_reducible rfl)
    simp only [Act.put, List.getElem_toArray, List.getElem_cons_zero, List.getElem_cons_succ, List.setIfInBounds_toArray, List.set_cons_zero, List.set_cons_succ]
    refine wpAnyH_done (by kernel_rfl) ?_ _
    have hbW := hHeld.1
    clear hHeld hS1 keepS
    have hE4 := hE3.below hbW
    clear hE3
    replace hE4 := Lib.hid hE4
    repeat' ((fail_if_success at_builtin); (first | go_skip | go_guarded | go_step))
    go_ret2
    rw [hm.out]
    exact hE4.out.ret hLx hb0 8
end Go.Proofs.YtennhjkhjplmoaaDoor
