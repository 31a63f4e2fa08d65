/- Deploy: the document's Abandon. -/
import Derived.Test.YtennhjkhjplmoaaDoorDpAp
import Derived.Test.YtennhjkhjplmoaaDoorHk
namespace Go.Proofs.YtennhjkhjplmoaaDoor
open Go.RowKit
/-- the reading of an own row of references, in its own block -/
theorem OwnR.sliceR {w0 w : World} {e : TypeId} {l : List Ref} {A : Option Addr} {c : Nat} (h : OwnR rRef 2 w0 w e (.slice A l.length c) l) {S : Nat → Prop} (hS : ∀ b, Value.ownBlock (.slice A l.length c) = some b → b < w.heap.size → S b) : RSlice rRef 2 w S A l.length c l := by
  obtain ⟨h1, h2, h3, cs, hseq, hlist⟩ := h.slice rRef_ok
  refine ⟨h1, h2, h3, cs, ⟨hseq.1, fun hp => ?_⟩, RList.map (r := rRef) (w := w) (S := fun b => b < w.heap.size) (fun x cs (hc : cs = refC x) => (hc : cs = refC x)) hlist⟩
  obtain ⟨b, o, hA, hb, hc⟩ := hseq.2 hp
  exact ⟨b, o, hA, hS b (by rw [hA]; rfl) hb, hc⟩
set_option maxRecDepth 100000 in
set_option maxHeartbeats 6000000 in
theorem rabandon_any (l : List Env) (r : Ref) (A : Option Addr) (n c : Nat) (w : World) (h : Envs w A n c l) :
    Calls Tryd.prog 17 #[.slice A n c, .agg #[.string r.run, .string r.job]] w fun e w' => ∃ A' n' c', e = .returned (.slice A' n' c') ∧ Below w.heap.size w w' ∧ RSlice rEnv 5 w' (fun b => b < w'.heap.size) A' n' c' (abL l r) := by
  go_enter Tryd.func17, Tryd.ntmps17
  have hl := h.len
  have hn := h.n
  go_upto_region 1 with (fail)
  generalize hx_ : World.alloc w _ = wo1
  have hO1 : OwnB w wo1 [(w.heap.size, [.string r.run, .string r.job])] := by rw [← hx_]; exact (OwnB.refl w).new #[.string r.run, .string r.job] _ (g := w.heap.size)
  have hbn : Below w.heap.size w wo1 := by rw [← hx_]; exact (Below.refl _ _).alloc (Nat.le_refl _) _
  have zwo1 : w.heap.size + 0 < wo1.heap.size := by rw [← hx_]; simp <;> omega
  clear hx_
  have c0_0 : wo1.cell? ⟨w.heap.size, 0, none⟩ = some (.string r.run) := hO1.c 0 0
  have c0_1 : wo1.cell? ⟨w.heap.size, 1, none⟩ = some (.string r.job) := hO1.c 0 1
  have cf0 := hO1.fr 0
  clear hbn
  obtain ⟨wA, hwA⟩ : ∃ wA, wA = wo1 := ⟨_, rfl⟩
  subst hwA
  replace hn := Lib.hid hn
  repeat' ((fail_if_success at_builtin); (first | go_skip | go_guarded | go_step))
  go_loopw [5, 6] (fun u5 u6 wr => ∃ i : Nat, i ≤ n ∧ u6 = .int .i64 (i : Int) ∧ OwnR rEnv 5 wA wr envT u5 (abL (l.take i) r)) (fun _ u6 _ => n - (intOf u6).toNat)
  case atStart => exact ⟨0, by omega, rfl, OwnR.nil _ envT⟩
  case round =>
    obtain ⟨wq, hwq⟩ : ∃ wq, wq = wr := ⟨wr, rfl⟩
    subst hwq
    obtain ⟨i, hi, rfl, hO⟩ := hrel
    have i0 : (0 : Int) ≤ (i : Int) := by omega
    have i2 : IntKind.i64.wrap ((i : Int) + 1) = (i : Int) + 1 := IntWalk.i64_in _ (by have := hn.out; omega)
    have hb := hO.bel
    have zwq := hb.size
    have hO2 : OwnB w wq [(w.heap.size, [.string r.run, .string r.job])] := hO1.kept hb
    clear c0_0 c0_1 cf0 hO1
    have c0_0 : wq.cell? ⟨w.heap.size, 0, none⟩ = some (.string r.run) := hO2.c 0 0
    have c0_1 : wq.cell? ⟨w.heap.size, 1, none⟩ = some (.string r.job) := hO2.c 0 1
    have cf0 := hO2.fr 0
    have hbS := hO2.below
    have hpl := hO2.lt 0
    obtain ⟨A5, c5, rfl⟩ := hO.form
    by_cases hlt : i < n
    · have i1 : (i : Int) < (n : Int) := by omega
      have hk : i < l.length := by have := hn.out; omega
      obtain ⟨x, hx⟩ : ∃ x, l[i]? = some x := ⟨_, List.getElem?_eq_getElem hk⟩
      have hxw := (h.each x (List.mem_of_getElem? hx)).wait
      have hnx : abL (l.take (i + 1)) r = abL (l.take i) r ++ [leaveE r x] := by unfold abL; rw [List.take_add_one, hx, List.map_append]; rfl
      have hal : (abL (l.take i) r).length = i := by unfold abL; rw [List.length_map, List.length_take]; omega
      rw [hal] at hO ⊢
      obtain ⟨g, o, A1, c1, A2, c2, rfl, hg, hS⟩ := env_at h.rd hx
      have hT := hS.below hg hbS
      have e0 := hT.e0
      have e1 := hT.e1
      have e2 := hT.e2
      have e3 := hT.e3
      have e4 := hT.e4
      have hwW : w.heap.size ≤ wA.heap.size := by omega
      have hwq : wA.heap.size ≤ wq.heap.size := hb.size
      replace hnx := Lib.hid hnx
      replace hal := Lib.hid hal
      clear hT hx
      go_upto_region 6 with (fail)
      generalize hx_ : World.alloc wq _ = wo1
      have hP1 : OwnB wq wo1 [(wq.heap.size, [.string x.name, .string x.holder.run, .string x.holder.job, .slice A1 x.waiting.length c1, .slice A2 x.history.length c2])] := by rw [← hx_]; exact (OwnB.refl wq).new #[.string x.name, .string x.holder.run, .string x.holder.job, .slice A1 x.waiting.length c1, .slice A2 x.history.length c2] _ (g := wq.heap.size)
      have hbn : Below wq.heap.size wq wo1 := by rw [← hx_]; exact (Below.refl _ _).alloc (Nat.le_refl _) _
      have zwo1 : wq.heap.size + 0 < wo1.heap.size := by rw [← hx_]; simp <;> omega
      clear hx_
      have d0_0 : wo1.cell? ⟨wq.heap.size, 0, none⟩ = some (.string x.name) := hP1.c 0 0
      have d0_1 : wo1.cell? ⟨wq.heap.size, 1, none⟩ = some (.string x.holder.run) := hP1.c 0 1
      have d0_2 : wo1.cell? ⟨wq.heap.size, 2, none⟩ = some (.string x.holder.job) := hP1.c 0 2
      have d0_3 : wo1.cell? ⟨wq.heap.size, 3, none⟩ = some (.slice A1 x.waiting.length c1) := hP1.c 0 3
      have d0_4 : wo1.cell? ⟨wq.heap.size, 4, none⟩ = some (.slice A2 x.history.length c2) := hP1.c 0 4
      have df0 := hP1.fr 0
      clear hbn
      clear e0 e1 e2 e3 e4
      have q0 := (hP1.below.cell (p := ⟨w.heap.size, 0, none⟩) hpl).trans c0_0
      have q1 := (hP1.below.cell (p := ⟨w.heap.size, 1, none⟩) hpl).trans c0_1
      have qE1 := qE_R x.holder r
      cases hz : eqR x.holder r with
      | true =>
        simp only [hz] at qE1
        repeat' ((fail_if_success at_builtin); (first | ((with_reducible show wpList _ _ _ _ _ _); first | refine wpList_eqS rfl rfl rfl rfl (by first | exact qE1 _ | exact qE2 _ | exact qE3 _ | exact qE4 _) (by kernel_rfl) ?_ | refine wpList_neS rfl rfl rfl rfl (by first | exact qE1 _ | exact qE2 _ | exact qE3 _ | exact qE4 _) (by kernel_rfl) ?_) | go_skip | go_guarded | go_step))
        clear q0 q1
        generalize hx_ : World.setCell (World.setCell _ _ _) _ _ = wo2
        have hP2 : OwnB wq wo2 [(wq.heap.size, [.string x.name, .string ⟨#[]⟩, .string ⟨#[]⟩, .slice A1 x.waiting.length c1, .slice A2 x.history.length c2])] := by rw [← hx_]; exact (hP1.store 0 rfl 1 _).store 0 rfl 2 _
        have zwo2 : wo1.heap.size ≤ wo2.heap.size := by rw [← hx_]; simp [World.setCell]
        clear hx_ d0_0 d0_1 d0_2 d0_3 d0_4 df0 hP1
        have d0_0 : wo2.cell? ⟨wq.heap.size, 0, none⟩ = some (.string x.name) := hP2.c 0 0
        have d0_1 : wo2.cell? ⟨wq.heap.size, 1, none⟩ = some (.string ⟨#[]⟩) := hP2.c 0 1
        have d0_2 : wo2.cell? ⟨wq.heap.size, 2, none⟩ = some (.string ⟨#[]⟩) := hP2.c 0 2
        have d0_3 : wo2.cell? ⟨wq.heap.size, 3, none⟩ = some (.slice A1 x.waiting.length c1) := hP2.c 0 3
        have d0_4 : wo2.cell? ⟨wq.heap.size, 4, none⟩ = some (.slice A2 x.history.length c2) := hP2.c 0 4
        have df0 := hP2.fr 0
        have q0 := (hP2.below.cell (p := ⟨w.heap.size, 0, none⟩) hpl).trans c0_0
        have q1 := (hP2.below.cell (p := ⟨w.heap.size, 1, none⟩) hpl).trans c0_1
        clear qE1
        repeat' ((fail_if_success at_builtin); (first | go_skip | go_guarded | go_step))
        have hbQ := hP2.below
        have hxl := hP2.lt 0
        go_loopw [8, 9] (fun u8 u9 wr => ∃ k : Nat, k ≤ x.waiting.length ∧ u9 = .int .i64 (k : Int) ∧ OwnR rRef 2 wo2 wr refT u8 ((x.waiting.take k).filter fun y => !eqR y r)) (fun _ u9 _ => x.waiting.length - (intOf u9).toNat)
        case atStart => exact ⟨0, by omega, rfl, OwnR.nil _ refT⟩
        case round =>
          obtain ⟨k, hk2, rfl, hQ⟩ := hrel
          have k0 : (0 : Int) ≤ (k : Int) := by omega
          have k2 : IntKind.i64.wrap ((k : Int) + 1) = (k : Int) + 1 := IntWalk.i64_in _ (by omega)
          have hb2 := hQ.bel
          clear q0 q1
          have zwr := hb2.size
          have hP3 : OwnB wq wr [(wq.heap.size, [.string x.name, .string ⟨#[]⟩, .string ⟨#[]⟩, .slice A1 x.waiting.length c1, .slice A2 x.history.length c2])] := hP2.kept hb2
          clear d0_0 d0_1 d0_2 d0_3 d0_4 df0 hP2
          have d0_0 : wr.cell? ⟨wq.heap.size, 0, none⟩ = some (.string x.name) := hP3.c 0 0
          have d0_1 : wr.cell? ⟨wq.heap.size, 1, none⟩ = some (.string ⟨#[]⟩) := hP3.c 0 1
          have d0_2 : wr.cell? ⟨wq.heap.size, 2, none⟩ = some (.string ⟨#[]⟩) := hP3.c 0 2
          have d0_3 : wr.cell? ⟨wq.heap.size, 3, none⟩ = some (.slice A1 x.waiting.length c1) := hP3.c 0 3
          have d0_4 : wr.cell? ⟨wq.heap.size, 4, none⟩ = some (.slice A2 x.history.length c2) := hP3.c 0 4
          have df0 := hP3.fr 0
          have q0 := (hP3.below.cell (p := ⟨w.heap.size, 0, none⟩) hpl).trans c0_0
          have q1 := (hP3.below.cell (p := ⟨w.heap.size, 1, none⟩) hpl).trans c0_1
          have hbT := hbS.trans (hP3.below.mono hbS.size)
          obtain ⟨A8, c8, rfl⟩ := hQ.form
          have hQl : ((x.waiting.take k).filter fun y => !eqR y r).length ≤ k := Nat.le_trans (List.length_filter_le _ _) (by rw [List.length_take]; omega)
          by_cases hlt2 : k < x.waiting.length
          · have k1 : (k : Int) < (x.waiting.length : Int) := by omega
            obtain ⟨y, hy⟩ : ∃ y, x.waiting[k]? = some y := ⟨_, List.getElem?_eq_getElem hlt2⟩
            have hny : (x.waiting.take (k + 1)).filter (fun y => !eqR y r) = (x.waiting.take k).filter (fun y => !eqR y r) ++ (if eqR y r = true then [] else [y]) := by
              rw [List.take_add_one, hy, List.filter_append]
              congr 1
              cases hq : eqR y r <;> simp [hq]
            obtain ⟨g2, o2, hA2, hg2, hSy⟩ := ref_at hS.wait hy
            subst hA2
            have y0 := (hbT.cell (p := ⟨g2, _, none⟩) hg2).trans hSy.1
            have y1 := (hbT.cell (p := ⟨g2, _, none⟩) hg2).trans hSy.2
            have hg3 : g2 < wr.heap.size := Nat.lt_of_lt_of_le hg2 hbT.size
            have hq := run_neR y r
            have hdn : ∀ m, Below wr.heap.size wr (wr.drewN m) := fun m => Below.drewN wr m
            clear hSy hy
            cases hv : eqR y r with
            | true =>
              rw [hv, if_pos rfl, List.append_nil] at hny
              simp only [hv] at hq
              replace hny := Lib.hid hny
              clear hv
              repeat' ((fail_if_success at_builtin); (first | go_skip | go_guarded | go_step))
              go_quiet (fail)
              have hQ2 := hQ.below rRef_ok (hdn nq)
              repeat' ((fail_if_success at_builtin); (first | go_skip | go_guarded | go_step))
              go_roundw
              case rel => exact ⟨k + 1, by omega, by first | rfl | go_num, by rw [hny.out]; exact hQ2⟩
              case measure => (try go_num); (try simp [intOf]); (try omega)
            | false =>
              rw [hv, if_neg (by simp)] at hny
              simp only [hv] at hq
              replace hny := Lib.hid hny
              clear hv
              repeat' ((fail_if_success at_builtin); (first | go_skip | go_guarded | go_step))
              go_quiet (fail)
              have hdq := hdn nq
              have hQ2 := hQ.below rRef_ok hdq
              have y0 := (hdq.cell (p := ⟨g2, _, none⟩) hg3).trans y0
              have y1 := (hdq.cell (p := ⟨g2, _, none⟩) hg3).trans y1
              generalize wr.drewN nq = wd at *
              clear hdn
              have zwd := hdq.size
              have hP4 : OwnB wq wd [(wq.heap.size, [.string x.name, .string ⟨#[]⟩, .string ⟨#[]⟩, .slice (some ⟨g2, o2, none⟩) x.waiting.length c1, .slice A2 x.history.length c2])] := hP3.kept hdq
              clear d0_0 d0_1 d0_2 d0_3 d0_4 df0 hP3
              have d0_0 : wd.cell? ⟨wq.heap.size, 0, none⟩ = some (.string x.name) := hP4.c 0 0
              have d0_1 : wd.cell? ⟨wq.heap.size, 1, none⟩ = some (.string ⟨#[]⟩) := hP4.c 0 1
              have d0_2 : wd.cell? ⟨wq.heap.size, 2, none⟩ = some (.string ⟨#[]⟩) := hP4.c 0 2
              have d0_3 : wd.cell? ⟨wq.heap.size, 3, none⟩ = some (.slice (some ⟨g2, o2, none⟩) x.waiting.length c1) := hP4.c 0 3
              have d0_4 : wd.cell? ⟨wq.heap.size, 4, none⟩ = some (.slice A2 x.history.length c2) := hP4.c 0 4
              have df0 := hP4.fr 0
              have hby : (((x.waiting.take k).filter fun y => !eqR y r).length + 1) * 32 ≤ 140737488355328 := by omega
              repeat' ((fail_if_success at_builtin); (first | go_skip | go_guarded | go_step))
              refine wp_appR1 rRef_ok (cs := #[.string y.run, .string y.job]) hQ2 (Below.refl _ _) (x := y) rfl Tryd.underlying58 ref_info hby ?_
              intro v6 w6 hQ3
              repeat' ((fail_if_success at_builtin); (first | go_skip | go_guarded | go_step))
              go_roundw
              case rel => exact ⟨k + 1, by omega, by first | rfl | go_num, by rw [hny.out]; exact hQ3⟩
              case measure => (try go_num); (try simp [intOf]); (try omega)
          · have k1 : ¬ (k : Int) < (x.waiting.length : Int) := by omega
            rw [List.take_of_length_le (by omega)] at hQ hQl ⊢
            clear q0 q1 hbT
            go_upto_region 15 with (fail)
            have hne : Value.ownBlock (.slice A8 (x.waiting.filter fun y => !eqR y r).length c8) ≠ some wq.heap.size := fun e => by
              obtain ⟨cs, HH, _⟩ := hQ
              have := (HH.1.lt _ e).1
              omega
            have hR5 := (OwnR.up (w1 := wo2) hbQ hQ).farSet (xb := wq.heap.size) (o := 3) (u := .slice A8 (x.waiting.filter fun y => !eqR y r).length c8) rRef_ok hne (Nat.le_refl _) (fun x c h => h)
            generalize hx_ : World.setCell _ _ _ = wo4
            rw [hx_] at hR5
            have hP4 : OwnB wq wo4 [(wq.heap.size, [.string x.name, .string ⟨#[]⟩, .string ⟨#[]⟩, .slice A8 (x.waiting.filter fun y => !eqR y r).length c8, .slice A2 x.history.length c2])] := by rw [← hx_]; exact hP3.store 0 rfl 3 _
            have zwo4 : wr.heap.size ≤ wo4.heap.size := by rw [← hx_]; simp [World.setCell]
            clear hx_ d0_0 d0_1 d0_2 d0_3 d0_4 df0 hP3
            have d0_0 : wo4.cell? ⟨wq.heap.size, 0, none⟩ = some (.string x.name) := hP4.c 0 0
            have d0_1 : wo4.cell? ⟨wq.heap.size, 1, none⟩ = some (.string ⟨#[]⟩) := hP4.c 0 1
            have d0_2 : wo4.cell? ⟨wq.heap.size, 2, none⟩ = some (.string ⟨#[]⟩) := hP4.c 0 2
            have d0_3 : wo4.cell? ⟨wq.heap.size, 3, none⟩ = some (.slice A8 (x.waiting.filter fun y => !eqR y r).length c8) := hP4.c 0 3
            have d0_4 : wo4.cell? ⟨wq.heap.size, 4, none⟩ = some (.slice A2 x.history.length c2) := hP4.c 0 4
            have df0 := hP4.fr 0
            have hbF := hP4.below
            have hbT := hbS.trans (hbF.mono hbS.size)
            have hs5 := hR5.slice rRef_ok
            have hrow : ∀ b, Value.ownBlock (.slice A5 i c5) = some b → wA.heap.size ≤ b ∧ b < wq.heap.size := fun b e => by
              obtain ⟨cs, HH, _⟩ := hO
              exact HH.1.lt b e
            have hfb : ∀ b, Value.ownBlock (.slice A8 (x.waiting.filter fun y => !eqR y r).length c8) = some b → wq.heap.size ≤ b := fun b e => by
              obtain ⟨cs, HH, _⟩ := hR5
              exact (HH.1.lt b e).1
            have hfl : leaveE r x = { x with holder := zR, waiting := (x.waiting.filter fun y => !eqR y r) } := by
              unfold leaveE
              rw [hz]
              rfl
            have hrd : rEnv wo4 (Beh wo4 (.slice A5 i c5)) (leaveE r x) [.string x.name, .string ⟨#[]⟩, .string ⟨#[]⟩, .slice A8 (x.waiting.filter fun y => !eqR y r).length c8, .slice A2 x.history.length c2] := by
              rw [hfl]
              refine ⟨A8, c8, A2, c2, rfl, ?_, ?_⟩
              · exact hR5.sliceR (fun b hb hlt => ⟨hlt, fun e => by have := hfb b hb; have := (hrow b e.symm).2; omega⟩)
              · exact (hS.hist.below rDep_ok hbT).more rDep_ok (fun b hb => ⟨Nat.lt_of_lt_of_le hb hbT.size, fun e => by have := (hrow b e.symm).1; omega⟩)
            have hby3 : ((abL (l.take i) r).length + 1) * 96 ≤ 140737488355328 := by rw [hal.out]; omega
            replace hrd := Lib.hid hrd
            clear hs5 hfl
            repeat' ((fail_if_success at_builtin); (first | go_skip | go_guarded | go_step))
            refine wp_appR1 rEnv_ok (cs := #[.string x.name, .string ⟨#[]⟩, .string ⟨#[]⟩, .slice A8 (x.waiting.filter fun y => !eqR y r).length c8, .slice A2 x.history.length c2]) hO hbF (x := leaveE r x) hrd.out Tryd.underlying22 env_info hby3 ?_
            intro v7 w7 hO7
            repeat' ((fail_if_success at_builtin); (first | go_skip | go_guarded | go_step))
            go_roundw
            case rel => exact ⟨i + 1, by omega, by first | rfl | go_num, by rw [hnx.out]; exact hO7⟩
            case measure => (try go_num); (try simp [intOf]); (try omega)
      | false =>
        simp only [hz] at qE1
        repeat' ((fail_if_success at_builtin); (first | ((with_reducible show wpList _ _ _ _ _ _); first | refine wpList_eqS rfl rfl rfl rfl (by first | exact qE1 _ | exact qE2 _ | exact qE3 _ | exact qE4 _) (by kernel_rfl) ?_ | refine wpList_neS rfl rfl rfl rfl (by first | exact qE1 _ | exact qE2 _ | exact qE3 _ | exact qE4 _) (by kernel_rfl) ?_) | go_skip | go_guarded | go_step))
        clear qE1
        repeat' ((fail_if_success at_builtin); (first | go_skip | go_guarded | go_step))
        have hbQ := hP1.below
        have hxl := hP1.lt 0
        go_loopw [8, 9] (fun u8 u9 wr => ∃ k : Nat, k ≤ x.waiting.length ∧ u9 = .int .i64 (k : Int) ∧ OwnR rRef 2 wo1 wr refT u8 ((x.waiting.take k).filter fun y => !eqR y r)) (fun _ u9 _ => x.waiting.length - (intOf u9).toNat)
        case atStart => exact ⟨0, by omega, rfl, OwnR.nil _ refT⟩
        case round =>
          obtain ⟨k, hk2, rfl, hQ⟩ := hrel
          have k0 : (0 : Int) ≤ (k : Int) := by omega
          have k2 : IntKind.i64.wrap ((k : Int) + 1) = (k : Int) + 1 := IntWalk.i64_in _ (by omega)
          have hb2 := hQ.bel
          clear q0 q1
          have zwr := hb2.size
          have hP2 : OwnB wq wr [(wq.heap.size, [.string x.name, .string x.holder.run, .string x.holder.job, .slice A1 x.waiting.length c1, .slice A2 x.history.length c2])] := hP1.kept hb2
          clear d0_0 d0_1 d0_2 d0_3 d0_4 df0 hP1
          have d0_0 : wr.cell? ⟨wq.heap.size, 0, none⟩ = some (.string x.name) := hP2.c 0 0
          have d0_1 : wr.cell? ⟨wq.heap.size, 1, none⟩ = some (.string x.holder.run) := hP2.c 0 1
          have d0_2 : wr.cell? ⟨wq.heap.size, 2, none⟩ = some (.string x.holder.job) := hP2.c 0 2
          have d0_3 : wr.cell? ⟨wq.heap.size, 3, none⟩ = some (.slice A1 x.waiting.length c1) := hP2.c 0 3
          have d0_4 : wr.cell? ⟨wq.heap.size, 4, none⟩ = some (.slice A2 x.history.length c2) := hP2.c 0 4
          have df0 := hP2.fr 0
          have q0 := (hP2.below.cell (p := ⟨w.heap.size, 0, none⟩) hpl).trans c0_0
          have q1 := (hP2.below.cell (p := ⟨w.heap.size, 1, none⟩) hpl).trans c0_1
          have hbT := hbS.trans (hP2.below.mono hbS.size)
          obtain ⟨A8, c8, rfl⟩ := hQ.form
          have hQl : ((x.waiting.take k).filter fun y => !eqR y r).length ≤ k := Nat.le_trans (List.length_filter_le _ _) (by rw [List.length_take]; omega)
          by_cases hlt2 : k < x.waiting.length
          · have k1 : (k : Int) < (x.waiting.length : Int) := by omega
            obtain ⟨y, hy⟩ : ∃ y, x.waiting[k]? = some y := ⟨_, List.getElem?_eq_getElem hlt2⟩
            have hny : (x.waiting.take (k + 1)).filter (fun y => !eqR y r) = (x.waiting.take k).filter (fun y => !eqR y r) ++ (if eqR y r = true then [] else [y]) := by
              rw [List.take_add_one, hy, List.filter_append]
              congr 1
              cases hq : eqR y r <;> simp [hq]
            obtain ⟨g2, o2, hA2, hg2, hSy⟩ := ref_at hS.wait hy
            subst hA2
            have y0 := (hbT.cell (p := ⟨g2, _, none⟩) hg2).trans hSy.1
            have y1 := (hbT.cell (p := ⟨g2, _, none⟩) hg2).trans hSy.2
            have hg3 : g2 < wr.heap.size := Nat.lt_of_lt_of_le hg2 hbT.size
            have hq := run_neR y r
            have hdn : ∀ m, Below wr.heap.size wr (wr.drewN m) := fun m => Below.drewN wr m
            clear hSy hy
            cases hv : eqR y r with
            | true =>
              rw [hv, if_pos rfl, List.append_nil] at hny
              simp only [hv] at hq
              replace hny := Lib.hid hny
              clear hv
              repeat' ((fail_if_success at_builtin); (first | go_skip | go_guarded | go_step))
              go_quiet (fail)
              have hQ2 := hQ.below rRef_ok (hdn nq)
              repeat' ((fail_if_success at_builtin); (first | go_skip | go_guarded | go_step))
              go_roundw
              case rel => exact ⟨k + 1, by omega, by first | rfl | go_num, by rw [hny.out]; exact hQ2⟩
              case measure => (try go_num); (try simp [intOf]); (try omega)
            | false =>
              rw [hv, if_neg (by simp)] at hny
              simp only [hv] at hq
              replace hny := Lib.hid hny
              clear hv
              repeat' ((fail_if_success at_builtin); (first | go_skip | go_guarded | go_step))
              go_quiet (fail)
              have hdq := hdn nq
              have hQ2 := hQ.below rRef_ok hdq
              have y0 := (hdq.cell (p := ⟨g2, _, none⟩) hg3).trans y0
              have y1 := (hdq.cell (p := ⟨g2, _, none⟩) hg3).trans y1
              generalize wr.drewN nq = wd at *
              clear hdn
              have zwd := hdq.size
              have hP3 : OwnB wq wd [(wq.heap.size, [.string x.name, .string x.holder.run, .string x.holder.job, .slice (some ⟨g2, o2, none⟩) x.waiting.length c1, .slice A2 x.history.length c2])] := hP2.kept hdq
              clear d0_0 d0_1 d0_2 d0_3 d0_4 df0 hP2
              have d0_0 : wd.cell? ⟨wq.heap.size, 0, none⟩ = some (.string x.name) := hP3.c 0 0
              have d0_1 : wd.cell? ⟨wq.heap.size, 1, none⟩ = some (.string x.holder.run) := hP3.c 0 1
              have d0_2 : wd.cell? ⟨wq.heap.size, 2, none⟩ = some (.string x.holder.job) := hP3.c 0 2
              have d0_3 : wd.cell? ⟨wq.heap.size, 3, none⟩ = some (.slice (some ⟨g2, o2, none⟩) x.waiting.length c1) := hP3.c 0 3
              have d0_4 : wd.cell? ⟨wq.heap.size, 4, none⟩ = some (.slice A2 x.history.length c2) := hP3.c 0 4
              have df0 := hP3.fr 0
              have hby : (((x.waiting.take k).filter fun y => !eqR y r).length + 1) * 32 ≤ 140737488355328 := by omega
              repeat' ((fail_if_success at_builtin); (first | go_skip | go_guarded | go_step))
              refine wp_appR1 rRef_ok (cs := #[.string y.run, .string y.job]) hQ2 (Below.refl _ _) (x := y) rfl Tryd.underlying58 ref_info hby ?_
              intro v6 w6 hQ3
              repeat' ((fail_if_success at_builtin); (first | go_skip | go_guarded | go_step))
              go_roundw
              case rel => exact ⟨k + 1, by omega, by first | rfl | go_num, by rw [hny.out]; exact hQ3⟩
              case measure => (try go_num); (try simp [intOf]); (try omega)
          · have k1 : ¬ (k : Int) < (x.waiting.length : Int) := by omega
            rw [List.take_of_length_le (by omega)] at hQ hQl ⊢
            clear q0 q1 hbT
            go_upto_region 15 with (fail)
            have hne : Value.ownBlock (.slice A8 (x.waiting.filter fun y => !eqR y r).length c8) ≠ some wq.heap.size := fun e => by
              obtain ⟨cs, HH, _⟩ := hQ
              have := (HH.1.lt _ e).1
              omega
            have hR5 := (OwnR.up (w1 := wo1) hbQ hQ).farSet (xb := wq.heap.size) (o := 3) (u := .slice A8 (x.waiting.filter fun y => !eqR y r).length c8) rRef_ok hne (Nat.le_refl _) (fun x c h => h)
            generalize hx_ : World.setCell _ _ _ = wo3
            rw [hx_] at hR5
            have hP3 : OwnB wq wo3 [(wq.heap.size, [.string x.name, .string x.holder.run, .string x.holder.job, .slice A8 (x.waiting.filter fun y => !eqR y r).length c8, .slice A2 x.history.length c2])] := by rw [← hx_]; exact hP2.store 0 rfl 3 _
            have zwo3 : wr.heap.size ≤ wo3.heap.size := by rw [← hx_]; simp [World.setCell]
            clear hx_ d0_0 d0_1 d0_2 d0_3 d0_4 df0 hP2
            have d0_0 : wo3.cell? ⟨wq.heap.size, 0, none⟩ = some (.string x.name) := hP3.c 0 0
            have d0_1 : wo3.cell? ⟨wq.heap.size, 1, none⟩ = some (.string x.holder.run) := hP3.c 0 1
            have d0_2 : wo3.cell? ⟨wq.heap.size, 2, none⟩ = some (.string x.holder.job) := hP3.c 0 2
            have d0_3 : wo3.cell? ⟨wq.heap.size, 3, none⟩ = some (.slice A8 (x.waiting.filter fun y => !eqR y r).length c8) := hP3.c 0 3
            have d0_4 : wo3.cell? ⟨wq.heap.size, 4, none⟩ = some (.slice A2 x.history.length c2) := hP3.c 0 4
            have df0 := hP3.fr 0
            have hbF := hP3.below
            have hbT := hbS.trans (hbF.mono hbS.size)
            have hs5 := hR5.slice rRef_ok
            have hrow : ∀ b, Value.ownBlock (.slice A5 i c5) = some b → wA.heap.size ≤ b ∧ b < wq.heap.size := fun b e => by
              obtain ⟨cs, HH, _⟩ := hO
              exact HH.1.lt b e
            have hfb : ∀ b, Value.ownBlock (.slice A8 (x.waiting.filter fun y => !eqR y r).length c8) = some b → wq.heap.size ≤ b := fun b e => by
              obtain ⟨cs, HH, _⟩ := hR5
              exact (HH.1.lt b e).1
            have hfl : leaveE r x = { x with holder := x.holder, waiting := (x.waiting.filter fun y => !eqR y r) } := by
              unfold leaveE
              rw [hz]
              rfl
            have hrd : rEnv wo3 (Beh wo3 (.slice A5 i c5)) (leaveE r x) [.string x.name, .string x.holder.run, .string x.holder.job, .slice A8 (x.waiting.filter fun y => !eqR y r).length c8, .slice A2 x.history.length c2] := by
              rw [hfl]
              refine ⟨A8, c8, A2, c2, rfl, ?_, ?_⟩
              · exact hR5.sliceR (fun b hb hlt => ⟨hlt, fun e => by have := hfb b hb; have := (hrow b e.symm).2; omega⟩)
              · exact (hS.hist.below rDep_ok hbT).more rDep_ok (fun b hb => ⟨Nat.lt_of_lt_of_le hb hbT.size, fun e => by have := (hrow b e.symm).1; omega⟩)
            have hby3 : ((abL (l.take i) r).length + 1) * 96 ≤ 140737488355328 := by rw [hal.out]; omega
            replace hrd := Lib.hid hrd
            clear hs5 hfl
            repeat' ((fail_if_success at_builtin); (first | go_skip | go_guarded | go_step))
            refine wp_appR1 rEnv_ok (cs := #[.string x.name, .string x.holder.run, .string x.holder.job, .slice A8 (x.waiting.filter fun y => !eqR y r).length c8, .slice A2 x.history.length c2]) hO hbF (x := leaveE r x) hrd.out Tryd.underlying22 env_info hby3 ?_
            intro v7 w7 hO7
            repeat' ((fail_if_success at_builtin); (first | go_skip | go_guarded | go_step))
            go_roundw
            case rel => exact ⟨i + 1, by omega, by first | rfl | go_num, by rw [hnx.out]; exact hO7⟩
            case measure => (try go_num); (try simp [intOf]); (try omega)
    · have i1 : ¬ (i : Int) < (n : Int) := by omega
      rw [List.take_of_length_le (by have := hn.out; omega)] at hO ⊢
      have hs := hO.slice rEnv_ok
      generalize (abL l r).length = N at hs ⊢
      replace hs := Lib.hid hs
      clear hO
      repeat' ((fail_if_success at_builtin); (first | go_skip | go_guarded | go_step))
      go_ret
      exact ⟨_, _, _, rfl, hbS, hs.out⟩
end Go.Proofs.YtennhjkhjplmoaaDoor
