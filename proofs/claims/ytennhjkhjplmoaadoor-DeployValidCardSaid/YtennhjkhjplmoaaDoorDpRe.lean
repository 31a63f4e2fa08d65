/- Deploy: the document's environment, Valid. -/
import Derived.Test.YtennhjkhjplmoaaDoorDpRp
import Derived.Test.YtennhjkhjplmoaaDoorDpV
namespace Go.Proofs.YtennhjkhjplmoaaDoor
open Go.RowKit
set_option maxRecDepth 100000 in
set_option maxHeartbeats 6000000 in
theorem environment_any (l : List Env) (i : Nat) (x : Env) (A : Option Addr) (n c : Nat) (w : World) (h : Envs w A n c l) (hR : (refsL l).length ≤ 1000000) (hx : l[i]? = some x) :
    Calls Tryd.prog 37 #[.slice A n c, .int .i64 (i : Int)] w fun e w' => e = .returned (.int .i64 (envF (l.take i) x)) ∧ Below w.heap.size w w' := by
  go_enter Tryd.func37, Tryd.ntmps37
  have hn := h.n
  have hl := h.len
  have hnc := h.rd.2.1
  have hm := envF_at hx
  have hi := (List.getElem?_eq_some_iff.1 hx).1
  have i0 : (0 : Int) ≤ (i : Int) := by omega
  have i1 : (i : Int) < (n : Int) := by omega
  have i2 : IntKind.i64.wrap ((i : Int) + 1) = (i : Int) + 1 := IntWalk.i64_in _ (by omega)
  have i3 : (i : Int) + 1 ≤ (n : Int) := by omega
  have i4 : (i : Int) + 1 ≤ (c : Int) := by omega
  have i5 : (n : Int) ≤ (c : Int) := by omega
  have i6 : (0 : Int) ≤ (i : Int) + 1 := by omega
  have hxW := h.each x (List.mem_of_getElem? hx)
  have hxn := hxW.name
  have hxw := hxW.wait
  have hxh := hxW.hist
  have hlen := refsL_len l (i + 1)
  have hin : i < n := by omega
  replace hn := Lib.hid hn
  obtain ⟨g, o, A1, c1, A2, c2, rfl, hg, hS⟩ := env_at h.rd hx
  have e0 := hS.e0
  have e1 := hS.e1
  have e2 := hS.e2
  have e3 := hS.e3
  have e4 := hS.e4
  go_upto_region 2 with (fail)
  generalize hx_ : World.alloc w _ = wo1
  have hO1 : OwnB w wo1 [(w.heap.size, [.string x.name, .string x.holder.run, .string x.holder.job, .slice A1 x.waiting.length c1, .slice A2 x.history.length c2])] := by rw [← hx_]; exact (OwnB.refl w).new #[.string x.name, .string x.holder.run, .string x.holder.job, .slice A1 x.waiting.length c1, .slice A2 x.history.length c2] _ (g := w.heap.size)
  have hbn : Below w.heap.size w wo1 := by rw [← hx_]; exact (Below.refl _ _).alloc (Nat.le_refl _) _
  have zwo1 : w.heap.size + 0 < wo1.heap.size := by rw [← hx_]; simp <;> omega
  clear hx_
  have c0_0 : wo1.cell? ⟨w.heap.size, 0, none⟩ = some (.string x.name) := hO1.c 0 0
  have c0_1 : wo1.cell? ⟨w.heap.size, 1, none⟩ = some (.string x.holder.run) := hO1.c 0 1
  have c0_2 : wo1.cell? ⟨w.heap.size, 2, none⟩ = some (.string x.holder.job) := hO1.c 0 2
  have c0_3 : wo1.cell? ⟨w.heap.size, 3, none⟩ = some (.slice A1 x.waiting.length c1) := hO1.c 0 3
  have c0_4 : wo1.cell? ⟨w.heap.size, 4, none⟩ = some (.slice A2 x.history.length c2) := hO1.c 0 4
  have cf0 := hO1.fr 0
  clear hbn
  clear e0 e1 e2 e3 e4
  have C := refName_any x.name wo1 (by omega)
  cases hnm : nameS x.name.data.toList with
  | false =>
    rw [hnm] at C hm
    have hr := hm
    rw [if_pos rfl] at hr
    replace hr := Lib.hid hr
    replace C := Lib.hid C
    have hbz := hO1.below
    repeat' ((fail_if_success at_builtin); (first | go_skip | go_guarded | go_step))
    refine C.out.mono ?_
    clear C
    rintro e w2 ⟨rfl, hw2⟩
    subst w2
    dsimp only
    repeat' ((fail_if_success at_builtin); (first | go_skip | go_guarded | go_step))
    go_ret
    exact ⟨by rw [hr.out]; rfl, hbz⟩
  | true =>
    rw [hnm] at C hm
    rw [if_neg (by simp)] at hm
    replace hm := Lib.hid hm
    replace C := Lib.hid C
    repeat' ((fail_if_success at_builtin); (first | go_skip | go_guarded | go_step))
    refine C.out.mono ?_
    clear C
    rintro e w2 ⟨rfl, hw2⟩
    subst w2
    dsimp only
    go_upto_region 4 with (fail)
    go_cut [31] (fun u31 wx => ∃ wq : World, wq = wx ∧ u31 = .bool (ordF (l.take i) x) ∧ Below wo1.heap.size wo1 wx)
    case first =>
      clear hm
      cases i with
      | zero =>
        have hd : decide ((0 : Int) < ((0 : Nat) : Int)) = false := rfl
        have hS0 : (Below wo1.heap.size wo1 wo1 ∧ True) := ⟨Below.refl _ _, trivial⟩
        have keepS : ∀ v1 v2 : World, (Below wo1.heap.size wo1 v1 ∧ True) → Below v1.heap.size v1 v2 → (Below wo1.heap.size wo1 v2 ∧ True) := fun v1 v2 h hb => ⟨h.1.trans (hb.mono h.1.size), trivial⟩
        have hS1 : (Below wo1.heap.size wo1 wo1.drew ∧ True) := keepS _ _ hS0 ((Below.refl _ _).drew)
        replace keepS := Lib.hid keepS
        clear hS0
        refine wp_region_held_drew (S := fun w' => Below wo1.heap.size wo1 w' ∧ True) (by kernel_rfl) ?_ (fun hHeld => ?_)
        · (try dsimp only)
          exact hS1
        refine tkY 0 (v := ?v70) rfl (.inl ⟨by rfl, ?hy70⟩) ?hr70
        case hy70 => (intro w hSw; (try dsimp only at hSw); go_simp; try with_reducible rfl)
        simp only [Act.put, List.getElem_toArray, List.getElem_cons_zero, List.setIfInBounds_toArray, List.set_cons_zero, List.set_cons_succ]
        refine tkY 1 (v := ?v71) rfl (.inl ⟨by rfl, ?hy71⟩) ?hr71
        case hy71 => (intro w hSw; (try dsimp only at hSw); go_simp; try with_reducible rfl)
        simp only [Act.put, List.getElem_toArray, List.getElem_cons_zero, List.getElem_cons_succ, List.setIfInBounds_toArray, List.set_cons_zero, List.set_cons_succ]
        refine tkY 2 (v := ?v72) rfl (.inl ⟨by rfl, ?hy72⟩) ?hr72
        case hy72 => (intro w hSw; (try dsimp only at hSw); go_simp; try with_reducible rfl)
        simp only [Act.put, List.getElem_toArray, List.getElem_cons_zero, List.getElem_cons_succ, List.setIfInBounds_toArray, List.set_cons_zero, List.set_cons_succ]
        refine tkN 3 rfl ?_
        simp only [Act.put, List.getElem_toArray, List.getElem_cons_zero, List.getElem_cons_succ, List.setIfInBounds_toArray, List.set_cons_zero, List.set_cons_succ]
        refine tkN 4 rfl ?_
        simp only [Act.put, List.getElem_toArray, List.getElem_cons_zero, List.getElem_cons_succ, List.setIfInBounds_toArray, List.set_cons_zero, List.set_cons_succ]
        refine tkN 5 rfl ?_
        simp only [Act.put, List.getElem_toArray, List.getElem_cons_zero, List.getElem_cons_succ, List.setIfInBounds_toArray, List.set_cons_zero, List.set_cons_succ]
        refine tkN 6 rfl ?_
        simp only [Act.put, List.getElem_toArray, List.getElem_cons_zero, List.getElem_cons_succ, List.setIfInBounds_toArray, List.set_cons_zero, List.set_cons_succ]
        refine tkN 7 rfl ?_
        simp only [Act.put, List.getElem_toArray, List.getElem_cons_zero, List.getElem_cons_succ, List.setIfInBounds_toArray, List.set_cons_zero, List.set_cons_succ]
        refine tkN 8 rfl ?_
        simp only [Act.put, List.getElem_toArray, List.getElem_cons_zero, List.getElem_cons_succ, List.setIfInBounds_toArray, List.set_cons_zero, List.set_cons_succ]
        refine tkN 9 rfl ?_
        simp only [Act.put, List.getElem_toArray, List.getElem_cons_zero, List.getElem_cons_succ, List.setIfInBounds_toArray, List.set_cons_zero, List.set_cons_succ]
        refine tkN 10 rfl ?_
        simp only [Act.put, List.getElem_toArray, List.getElem_cons_zero, List.getElem_cons_succ, List.setIfInBounds_toArray, List.set_cons_zero, List.set_cons_succ]
        refine tkN 11 rfl ?_
        simp only [Act.put, List.getElem_toArray, List.getElem_cons_zero, List.getElem_cons_succ, List.setIfInBounds_toArray, List.set_cons_zero, List.set_cons_succ]
        refine tkN 12 rfl ?_
        simp only [Act.put, List.getElem_toArray, List.getElem_cons_zero, List.getElem_cons_succ, List.setIfInBounds_toArray, List.set_cons_zero, List.set_cons_succ]
        refine tkY 13 (v := ?v73) rfl (.inl ⟨by rfl, ?hy73⟩) ?hr73
        case hy73 => (intro w hSw; (try dsimp only at hSw); go_simp; try with_reducible rfl)
        simp only [Act.put, List.getElem_toArray, List.getElem_cons_zero, List.getElem_cons_succ, List.setIfInBounds_toArray, List.set_cons_zero, List.set_cons_succ]
        refine wpAnyH_done (by kernel_rfl) ?_ _
        have hbW := hHeld.1
        clear hHeld hS1 keepS
        (try repeat' ((fail_if_success at_builtin); (first | go_skip | go_guarded | go_step)))
        go_meet
        case rel => exact ⟨_, rfl, rfl, hbW⟩
      | succ j =>
        have hd : decide ((0 : Int) < ((j + 1 : Nat) : Int)) = true := decide_eq_true (by omega)
        have hd2 : (0 : Int) < (j : Int) + 1 := by omega
        have j1 : IntKind.i64.wrap (((j + 1 : Nat) : Int) - 1) = (j : Int) := by rw [show ((j + 1 : Nat) : Int) - 1 = (j : Int) from by omega]; exact IntWalk.i64_in _ (by omega)
        have j4 : IntKind.i64.wrap ((j : Int) + 1 - 1) = (j : Int) := by rw [show (j : Int) + 1 - 1 = (j : Int) from by omega]; exact IntWalk.i64_in _ (by omega)
        have j5 : IntKind.i64.wrap (j : Int) = (j : Int) := IntWalk.i64_in _ (by omega)
        have j2 : (0 : Int) ≤ (j : Int) := by omega
        have j3 : (j : Int) < (n : Int) := by omega
        obtain ⟨y, hy⟩ : ∃ y, l[j]? = some y := ⟨_, List.getElem?_eq_getElem (by have := hn.out; omega)⟩
        have hyn := (h.each y (List.mem_of_getElem? hy)).name
        have hor := ord_succ (x := x) hy
        obtain ⟨g2, o2, a1, k1, a2, k2, hA2, hg2, hS2⟩ := env_at h.rd hy
        injection hA2 with hA2
        injection hA2 with b1 b2
        subst b1 b2
        have y0 := (hS2.below hg2 hO1.below).e0
        have hgl := Nat.lt_of_lt_of_le hg hO1.below.size
        have hpl := hO1.lt 0
        clear hS2 hy
        replace hor := Lib.hid hor
        have hS0 : (Below wo1.heap.size wo1 wo1 ∧ wo1.cell? ⟨g, o + j * 5, none⟩ = some (.string y.name) ∧ wo1.cell? ⟨w.heap.size, 0, none⟩ = some (.string x.name)) := ⟨Below.refl _ _, y0, c0_0⟩
        have keepS : ∀ v1 v2 : World, (Below wo1.heap.size wo1 v1 ∧ v1.cell? ⟨g, o + j * 5, none⟩ = some (.string y.name) ∧ v1.cell? ⟨w.heap.size, 0, none⟩ = some (.string x.name)) → Below v1.heap.size v1 v2 → (Below wo1.heap.size wo1 v2 ∧ v2.cell? ⟨g, o + j * 5, none⟩ = some (.string y.name) ∧ v2.cell? ⟨w.heap.size, 0, none⟩ = some (.string x.name)) := fun v1 v2 h hb => ⟨h.1.trans (hb.mono h.1.size), (hb.cell (p := ⟨g, _, none⟩) (Nat.lt_of_lt_of_le hgl h.1.size)).trans h.2.1, (hb.cell (p := ⟨w.heap.size, _, none⟩) (Nat.lt_of_lt_of_le hpl h.1.size)).trans h.2.2⟩
        have hS1 : (Below wo1.heap.size wo1 wo1.drew ∧ wo1.drew.cell? ⟨g, o + j * 5, none⟩ = some (.string y.name) ∧ wo1.drew.cell? ⟨w.heap.size, 0, none⟩ = some (.string x.name)) := keepS _ _ hS0 ((Below.refl _ _).drew)
        replace keepS := Lib.hid keepS
        clear hS0
        refine wp_region_held_drew (S := fun w' => Below wo1.heap.size wo1 w' ∧ w'.cell? ⟨g, o + j * 5, none⟩ = some (.string y.name) ∧ w'.cell? ⟨w.heap.size, 0, none⟩ = some (.string x.name)) (by kernel_rfl) ?_ (fun hHeld => ?_)
        · (try dsimp only)
          exact hS1
        refine tkY 0 (v := ?v74) rfl (.inl ⟨by rfl, ?hy74⟩) ?hr74
        case hy74 => (intro w hSw; (try dsimp only at hSw); go_simp; try with_reducible rfl)
        simp only [Act.put, List.getElem_toArray, List.getElem_cons_zero, List.setIfInBounds_toArray, List.set_cons_zero, List.set_cons_succ]
        refine tkY 1 (v := ?v75) rfl (.inl ⟨by rfl, ?hy75⟩) ?hr75
        case hy75 => (intro w hSw; (try dsimp only at hSw); go_simp; try with_reducible rfl)
        simp only [Act.put, List.getElem_toArray, List.getElem_cons_zero, List.getElem_cons_succ, List.setIfInBounds_toArray, List.set_cons_zero, List.set_cons_succ]
        refine tkY 2 (v := ?v76) rfl (.inl ⟨by rfl, ?hy76⟩) ?hr76
        case hy76 => (intro w hSw; (try dsimp only at hSw); go_simp; try with_reducible rfl)
        simp only [Act.put, List.getElem_toArray, List.getElem_cons_zero, List.getElem_cons_succ, List.setIfInBounds_toArray, List.set_cons_zero, List.set_cons_succ]
        refine tkY 3 (v := ?v77) rfl (.inl ⟨by rfl, ?hy77⟩) ?hr77
        case hy77 => (intro w hSw; (try dsimp only at hSw); go_simp; try with_reducible rfl)
        simp only [Act.put, List.getElem_toArray, List.getElem_cons_zero, List.getElem_cons_succ, List.setIfInBounds_toArray, List.set_cons_zero, List.set_cons_succ]
        refine tkY 4 (v := ?v78) rfl (.inl ⟨by rfl, ?hy78⟩) ?hr78
        case hy78 => (intro w hSw; (try dsimp only at hSw); go_simp; try with_reducible rfl)
        simp only [Act.put, List.getElem_toArray, List.getElem_cons_zero, List.getElem_cons_succ, List.setIfInBounds_toArray, List.set_cons_zero, List.set_cons_succ]
        refine tkY 5 (v := ?v79) rfl (.inl ⟨by rfl, ?hy79⟩) ?hr79
        case hy79 => (intro w hSw; (try dsimp only at hSw); go_simp; try with_reducible rfl)
        simp only [Act.put, List.getElem_toArray, List.getElem_cons_zero, List.getElem_cons_succ, List.setIfInBounds_toArray, List.set_cons_zero, List.set_cons_succ]
        refine tkY 6 (v := ?v80) rfl (.inl ⟨by rfl, ?hy80⟩) ?hr80
        case hy80 => (intro w hSw; (try dsimp only at hSw); go_simp; try with_reducible rfl)
        simp only [Act.put, List.getElem_toArray, List.getElem_cons_zero, List.getElem_cons_succ, List.setIfInBounds_toArray, List.set_cons_zero, List.set_cons_succ]
        refine tkY 7 (v := ?v81) rfl (.inl ⟨by rfl, ?hy81⟩) ?hr81
        case hy81 => (intro w hSw; (try dsimp only at hSw); go_simp; try with_reducible rfl)
        simp only [Act.put, List.getElem_toArray, List.getElem_cons_zero, List.getElem_cons_succ, List.setIfInBounds_toArray, List.set_cons_zero, List.set_cons_succ]
        refine tkY 8 (v := ?v82) rfl (.inl ⟨by rfl, ?hy82⟩) ?hr82
        case hy82 => (intro w hSw; (try dsimp only at hSw); go_simp; try with_reducible rfl)
        simp only [Act.put, List.getElem_toArray, List.getElem_cons_zero, List.getElem_cons_succ, List.setIfInBounds_toArray, List.set_cons_zero, List.set_cons_succ]
        refine tkY 9 (v := ?v83) rfl (.inl ⟨by rfl, ?hy83⟩) ?hr83
        case hy83 => (intro w hSw; (try dsimp only at hSw); go_simp; try with_reducible rfl)
        simp only [Act.put, List.getElem_toArray, List.getElem_cons_zero, List.getElem_cons_succ, List.setIfInBounds_toArray, List.set_cons_zero, List.set_cons_succ]
        refine tkY 10 (v := ?v84) rfl (.inl ⟨by rfl, ?hy84⟩) ?hr84
        case hy84 => (intro w hSw; (try dsimp only at hSw); go_simp; try with_reducible rfl)
        simp only [Act.put, List.getElem_toArray, List.getElem_cons_zero, List.getElem_cons_succ, List.setIfInBounds_toArray, List.set_cons_zero, List.set_cons_succ]
        refine wpAnyH_ready (rs := [11]) (by kernel_rfl) (by simp) ?_
        refine AllReadyH.cons rfl (fun K hK => ?_) AllReadyH.nil
        go_simp
        go_at_call 71
        refine (refCompare_any y.name x.name _ (by omega) (by omega)).mono ?_
        rintro e r1 ⟨rfl, hbq⟩
        dsimp only
        refine hK.out _ _ ?_ (fun hHeld => ?_)
        · (try dsimp only)
          exact keepS.out _ _ hHeld hbq
        clear hK K
        try simp only [Act.put, List.getElem_toArray, List.getElem_cons_zero, List.getElem_cons_succ, List.setIfInBounds_toArray, List.set_cons_zero, List.set_cons_succ]
        refine tkY 12 (v := ?v85) rfl (.inl ⟨by rfl, ?hy85⟩) ?hr85
        case hy85 => (intro w hSw; (try dsimp only at hSw); go_simp; try with_reducible rfl)
        simp only [Act.put, List.getElem_toArray, List.getElem_cons_zero, List.getElem_cons_succ, List.setIfInBounds_toArray, List.set_cons_zero, List.set_cons_succ]
        refine tkY 13 (v := ?v86) rfl (.inl ⟨by rfl, ?hy86⟩) ?hr86
        case hy86 => (intro w hSw; (try dsimp only at hSw); go_simp; try with_reducible rfl)
        simp only [Act.put, List.getElem_toArray, List.getElem_cons_zero, List.getElem_cons_succ, List.setIfInBounds_toArray, List.set_cons_zero, List.set_cons_succ]
        refine wpAnyH_done (by kernel_rfl) ?_ _
        have hbW := hHeld.1
        clear hHeld hS1 keepS
        (try repeat' ((fail_if_success at_builtin); (first | go_skip | go_guarded | go_step)))
        go_meet
        case rel => exact ⟨_, rfl, by rw [hor.out] <;> rfl, hbW⟩
    case rest =>
      obtain ⟨r1, rfl, rfl, hb1⟩ := hcut
      have zr1 := hb1.size
      have hO2 : OwnB w r1 [(w.heap.size, [.string x.name, .string x.holder.run, .string x.holder.job, .slice A1 x.waiting.length c1, .slice A2 x.history.length c2])] := hO1.kept hb1
      clear c0_0 c0_1 c0_2 c0_3 c0_4 cf0 hO1
      have c0_0 : r1.cell? ⟨w.heap.size, 0, none⟩ = some (.string x.name) := hO2.c 0 0
      have c0_1 : r1.cell? ⟨w.heap.size, 1, none⟩ = some (.string x.holder.run) := hO2.c 0 1
      have c0_2 : r1.cell? ⟨w.heap.size, 2, none⟩ = some (.string x.holder.job) := hO2.c 0 2
      have c0_3 : r1.cell? ⟨w.heap.size, 3, none⟩ = some (.slice A1 x.waiting.length c1) := hO2.c 0 3
      have c0_4 : r1.cell? ⟨w.heap.size, 4, none⟩ = some (.slice A2 x.history.length c2) := hO2.c 0 4
      have cf0 := hO2.fr 0
      have hbz := hO2.below
      cases ho : ordF (l.take i) x with
      | true =>
        have hr := hm.out
        rw [ho, if_pos rfl] at hr
        replace hr := Lib.hid hr
        repeat' ((fail_if_success at_builtin); (first | go_skip | go_guarded | go_step))
        go_ret
        exact ⟨by rw [hr.out]; rfl, hbz⟩
      | false =>
        have hm2 := hm.out
        rw [ho, if_neg (by simp)] at hm2
        replace hm2 := Lib.hid hm2
        clear hm ho hbz
        go_upto_region 6 with (fail)
        go_cut [41] (fun u41 wx => ∃ wq : World, wq = wx ∧ u41 = .bool (!(eqR x.holder zR || properR x.holder)) ∧ Below r1.heap.size r1 wx)
        case first =>
          clear hm2
          have qE1 := qE_R x.holder zR
          cases hz : eqR x.holder zR with
          | true =>
            simp only [hz] at qE1
            repeat' ((fail_if_success at_builtin); (first | ((with_reducible show wpList _ _ _ _ _ _); first | refine wpList_eqS rfl rfl rfl rfl (by first | exact qE1 _ | exact qE2 _ | exact qE3 _ | exact qE4 _) (by kernel_rfl) ?_ | refine wpList_neS rfl rfl rfl rfl (by first | exact qE1 _ | exact qE2 _ | exact qE3 _ | exact qE4 _) (by kernel_rfl) ?_) | go_skip | go_guarded | go_step))
            go_meet
            case rel => exact ⟨_, rfl, by rw [hz]; rfl, Below.refl _ _⟩
          | false =>
            simp only [hz] at qE1
            have C := rproper_any x.holder r1
            replace C := Lib.hid C
            repeat' ((fail_if_success at_builtin); (first | ((with_reducible show wpList _ _ _ _ _ _); first | refine wpList_eqS rfl rfl rfl rfl (by first | exact qE1 _ | exact qE2 _ | exact qE3 _ | exact qE4 _) (by kernel_rfl) ?_ | refine wpList_neS rfl rfl rfl rfl (by first | exact qE1 _ | exact qE2 _ | exact qE3 _ | exact qE4 _) (by kernel_rfl) ?_) | go_skip | go_guarded | go_step))
            refine C.out.mono ?_
            clear C
            rintro e t1 ⟨rfl, ht1⟩
            dsimp only
            repeat' ((fail_if_success at_builtin); (first | go_skip | go_guarded | go_step))
            go_meet
            case rel => exact ⟨_, rfl, by rw [hz]; rfl, ht1⟩
        case rest =>
          obtain ⟨r2, rfl, rfl, hb2⟩ := hcut
          have zr2 := hb2.size
          have hO3 : OwnB w r2 [(w.heap.size, [.string x.name, .string x.holder.run, .string x.holder.job, .slice A1 x.waiting.length c1, .slice A2 x.history.length c2])] := hO2.kept hb2
          clear c0_0 c0_1 c0_2 c0_3 c0_4 cf0 hO2
          have c0_0 : r2.cell? ⟨w.heap.size, 0, none⟩ = some (.string x.name) := hO3.c 0 0
          have c0_1 : r2.cell? ⟨w.heap.size, 1, none⟩ = some (.string x.holder.run) := hO3.c 0 1
          have c0_2 : r2.cell? ⟨w.heap.size, 2, none⟩ = some (.string x.holder.job) := hO3.c 0 2
          have c0_3 : r2.cell? ⟨w.heap.size, 3, none⟩ = some (.slice A1 x.waiting.length c1) := hO3.c 0 3
          have c0_4 : r2.cell? ⟨w.heap.size, 4, none⟩ = some (.slice A2 x.history.length c2) := hO3.c 0 4
          have cf0 := hO3.fr 0
          have hbz := hO3.below
          have hho : holdOk x = ((eqR x.holder zR || properR x.holder) && x.waiting.all properR) := rfl
          cases hh : (eqR x.holder zR || properR x.holder) with
          | false =>
            rw [hh, Bool.false_and] at hho
            have hr := hm2.out
            rw [hho, if_pos rfl] at hr
            replace hr := Lib.hid hr
            clear hho hh
            repeat' ((fail_if_success at_builtin); (first | go_skip | go_guarded | go_step))
            go_ret
            exact ⟨by rw [hr.out]; rfl, hbz⟩
          | true =>
            rw [hh, Bool.true_and] at hho
            replace hho := Lib.hid hho
            clear hh hbz
            repeat' ((fail_if_success at_builtin); (first | go_skip | go_guarded | go_step))
            go_loopw [6] (fun u6 wr => ∃ k : Nat, k ≤ x.waiting.length ∧ u6 = .int .i64 (k : Int) ∧ Below r2.heap.size r2 wr ∧ (x.waiting.take k).all properR = true) (fun u6 _ => x.waiting.length - (intOf u6).toNat)
            case atStart => exact ⟨0, by omega, rfl, Below.refl _ _, by simp⟩
            case round =>
              obtain ⟨k, hk, rfl, hb3, hall⟩ := hrel
              have k0 : (0 : Int) ≤ (k : Int) := by omega
              have k2 : IntKind.i64.wrap ((k : Int) + 1) = (k : Int) + 1 := IntWalk.i64_in _ (by omega)
              replace hall := Lib.hid hall
              have zwr := hb3.size
              have hO4 : OwnB w wr [(w.heap.size, [.string x.name, .string x.holder.run, .string x.holder.job, .slice A1 x.waiting.length c1, .slice A2 x.history.length c2])] := hO3.kept hb3
              clear c0_0 c0_1 c0_2 c0_3 c0_4 cf0 hO3
              have c0_0 : wr.cell? ⟨w.heap.size, 0, none⟩ = some (.string x.name) := hO4.c 0 0
              have c0_1 : wr.cell? ⟨w.heap.size, 1, none⟩ = some (.string x.holder.run) := hO4.c 0 1
              have c0_2 : wr.cell? ⟨w.heap.size, 2, none⟩ = some (.string x.holder.job) := hO4.c 0 2
              have c0_3 : wr.cell? ⟨w.heap.size, 3, none⟩ = some (.slice A1 x.waiting.length c1) := hO4.c 0 3
              have c0_4 : wr.cell? ⟨w.heap.size, 4, none⟩ = some (.slice A2 x.history.length c2) := hO4.c 0 4
              have cf0 := hO4.fr 0
              have hbz := hO4.below
              by_cases hlt : k < x.waiting.length
              · have k1 : (k : Int) < (x.waiting.length : Int) := by omega
                obtain ⟨y, hy⟩ : ∃ y, x.waiting[k]? = some y := ⟨_, List.getElem?_eq_getElem hlt⟩
                obtain ⟨g2, o2, hA2, hg2, hSy⟩ := ref_at hS.wait hy
                subst hA2
                have y0 := (hbz.cell (p := ⟨g2, _, none⟩) hg2).trans hSy.1
                have y1 := (hbz.cell (p := ⟨g2, _, none⟩) hg2).trans hSy.2
                have hym := List.mem_of_getElem? hy
                have hnx : (x.waiting.take (k + 1)).all properR = properR y := by rw [List.take_add_one, hy, List.all_append, hall.out]; simp
                have C := rproper_any y wr
                clear hSy hy
                cases hpr : properR y with
                | false =>
                  rw [hpr] at C
                  have hr := hm2.out
                  rw [hho.out, show x.waiting.all properR = false from List.all_eq_false.2 ⟨y, hym, by rw [hpr]; simp⟩, if_pos rfl] at hr
                  replace hr := Lib.hid hr
                  replace C := Lib.hid C
                  clear hpr hnx
                  repeat' ((fail_if_success at_builtin); (first | go_skip | go_guarded | go_step))
                  refine C.out.mono ?_
                  clear C
                  rintro e t1 ⟨rfl, ht1⟩
                  dsimp only
                  have hbq := hbz.trans (ht1.mono hbz.size)
                  repeat' ((fail_if_success at_builtin); (first | go_skip | go_guarded | go_step))
                  go_ret
                  exact ⟨by rw [hr.out]; rfl, hbq⟩
                | true =>
                  rw [hpr] at C hnx
                  replace hnx := Lib.hid hnx
                  replace C := Lib.hid C
                  clear hpr
                  repeat' ((fail_if_success at_builtin); (first | go_skip | go_guarded | go_step))
                  refine C.out.mono ?_
                  clear C
                  rintro e t1 ⟨rfl, ht1⟩
                  dsimp only
                  have hbq := hb3.trans (ht1.mono hb3.size)
                  repeat' ((fail_if_success at_builtin); (first | go_skip | go_guarded | go_step))
                  go_roundw
                  case rel => exact ⟨k + 1, by omega, by first | rfl | go_num, hbq, hnx.out⟩
                  case measure => (try go_num); (try simp [intOf]); (try omega)
              · have k1 : ¬ (k : Int) < (x.waiting.length : Int) := by omega
                have hm3 := hm2.out
                rw [hho.out] at hm3
                have ha := hall.out
                rw [List.take_of_length_le (by omega)] at ha
                rw [ha, if_neg (by simp)] at hm3
                replace hm3 := Lib.hid hm3
                clear hm2 hho hall ha hlt
                have hEw := h.below hbz
                have hT : Envs wr (some ⟨g, o, none⟩) (i + 1) c (l.take (i + 1)) := ⟨hEw.rd.take (by omega), by rw [List.length_take]; omega, fun z hz => h.each z (List.mem_of_mem_take hz)⟩
                have C := refs_any (l.take (i + 1)) (some ⟨g, o, none⟩) (i + 1) c wr hT (by omega)
                replace C := Lib.hid C
                clear hT hEw
                repeat' ((fail_if_success at_builtin); (first | go_skip | go_guarded | go_step))
                refine C.out.mono ?_
                clear C
                rintro e t1 ⟨A', n', c', rfl, ht1, hRf⟩
                dsimp only
                have C := repeated_any _ A' n' c' t1 hRf
                replace C := Lib.hid C
                repeat' ((fail_if_success at_builtin); (first | go_skip | go_guarded | go_step))
                refine C.out.mono ?_
                clear C
                rintro e t2 ⟨rfl, ht2⟩
                dsimp only
                have ht3 := ht1.trans (ht2.mono ht1.size)
                replace ht1 := Lib.hid ht1
                replace ht2 := Lib.hid ht2
                clear hRf hbz
                have zt2 := ht3.size
                have hO5 : OwnB w t2 [(w.heap.size, [.string x.name, .string x.holder.run, .string x.holder.job, .slice A1 x.waiting.length c1, .slice A2 x.history.length c2])] := hO4.kept ht3
                clear c0_0 c0_1 c0_2 c0_3 c0_4 cf0 hO4
                have c0_0 : t2.cell? ⟨w.heap.size, 0, none⟩ = some (.string x.name) := hO5.c 0 0
                have c0_1 : t2.cell? ⟨w.heap.size, 1, none⟩ = some (.string x.holder.run) := hO5.c 0 1
                have c0_2 : t2.cell? ⟨w.heap.size, 2, none⟩ = some (.string x.holder.job) := hO5.c 0 2
                have c0_3 : t2.cell? ⟨w.heap.size, 3, none⟩ = some (.slice A1 x.waiting.length c1) := hO5.c 0 3
                have c0_4 : t2.cell? ⟨w.heap.size, 4, none⟩ = some (.slice A2 x.history.length c2) := hO5.c 0 4
                have cf0 := hO5.fr 0
                have hbz := hO5.below
                cases hdp : dupR (refsL (l.take (i + 1))) with
                | true =>
                  have hr := hm3.out
                  rw [hdp, if_pos rfl] at hr
                  replace hr := Lib.hid hr
                  repeat' ((fail_if_success at_builtin); (first | go_skip | go_guarded | go_step))
                  go_ret
                  exact ⟨by rw [hr.out]; rfl, hbz⟩
                | false =>
                  have hm4 := hm3.out
                  rw [hdp, if_neg (by simp)] at hm4
                  clear hm3 hdp
                  by_cases h64 : 64 < x.history.length
                  · have h64i : (64 : Int) < (x.history.length : Int) := by omega
                    have hr := hm4
                    unfold histF at hr
                    rw [if_pos h64] at hr
                    clear hm4
                    replace hr := Lib.hid hr
                    repeat' ((fail_if_success at_builtin); (first | go_skip | go_guarded | go_step))
                    go_ret
                    exact ⟨by rw [hr.out]; rfl, hbz⟩
                  · have h64i : ¬ (64 : Int) < (x.history.length : Int) := by omega
                    have hm5 : envF (l.take i) x = depsF 0 x.history := by rw [hm4]; unfold histF; rw [if_neg h64]
                    replace hm5 := Lib.hid hm5
                    clear hm4 hbz
                    obtain ⟨wz, hwz⟩ : ∃ wz, wz = wr := ⟨wr, rfl⟩
                    subst hwz
                    repeat' ((fail_if_success at_builtin); (first | go_skip | go_guarded | go_step))
                    go_loopw [7, 8] (fun u7 u8 wr => ∃ k : Nat, k ≤ x.history.length ∧ u8 = .int .i64 (k : Int) ∧ u7 = .int .i64 (lastAt x.history k) ∧ Below t2.heap.size t2 wr ∧ depsF 0 x.history = depsF (lastAt x.history k) (x.history.drop k)) (fun _ u8 _ => x.history.length - (intOf u8).toNat)
                    case atStart => exact ⟨0, by omega, rfl, rfl, Below.refl _ _, rfl⟩
                    case round =>
                      obtain ⟨kk, hkk, rfl, rfl, hb5, hp⟩ := hrel
                      have k0 : (0 : Int) ≤ (kk : Int) := by omega
                      have k2' : IntKind.i64.wrap ((kk : Int) + 1) = (kk : Int) + 1 := IntWalk.i64_in _ (by omega)
                      have zwr := hb5.size
                      have hO6 : OwnB w wr [(w.heap.size, [.string x.name, .string x.holder.run, .string x.holder.job, .slice A1 x.waiting.length c1, .slice A2 x.history.length c2])] := hO5.kept hb5
                      clear c0_0 c0_1 c0_2 c0_3 c0_4 cf0 hO5
                      have c0_0 : wr.cell? ⟨w.heap.size, 0, none⟩ = some (.string x.name) := hO6.c 0 0
                      have c0_1 : wr.cell? ⟨w.heap.size, 1, none⟩ = some (.string x.holder.run) := hO6.c 0 1
                      have c0_2 : wr.cell? ⟨w.heap.size, 2, none⟩ = some (.string x.holder.job) := hO6.c 0 2
                      have c0_3 : wr.cell? ⟨w.heap.size, 3, none⟩ = some (.slice A1 x.waiting.length c1) := hO6.c 0 3
                      have c0_4 : wr.cell? ⟨w.heap.size, 4, none⟩ = some (.slice A2 x.history.length c2) := hO6.c 0 4
                      have cf0 := hO6.fr 0
                      have hbz := hO6.below
                      by_cases hlt2 : kk < x.history.length
                      · have k1' : (kk : Int) < (x.history.length : Int) := by omega
                        obtain ⟨d, hd⟩ : ∃ d, x.history[kk]? = some d := ⟨_, List.getElem?_eq_getElem hlt2⟩
                        rw [deps_at hd, ← hm5.out] at hp
                        have hla : lastAt x.history (kk + 1) = d.at_ := by show (x.history[kk]?.getD zD).at_ = _; rw [hd]; rfl
                        obtain ⟨g2, o2, hA2, hg2, hSd⟩ := dep_at hS.hist hd
                        subst hA2
                        have hSd2 := hSd.below hg2 hbz
                        have d0 := hSd2.e0
                        have d1 := hSd2.e1
                        have d2 := hSd2.e2
                        have d3 := hSd2.e3
                        have d4 := hSd2.e4
                        have C := rdeployment_any d (lastAt x.history kk) wr
                        obtain ⟨er, her⟩ : ∃ er, er = depO (lastAt x.history kk) d := ⟨_, rfl⟩
                        rw [← her] at C hp
                        replace C := Lib.hid C
                        replace her := Lib.hid her
                        replace hla := Lib.hid hla
                        clear hSd hSd2 hd
                        by_cases hez : er = 0
                        · subst hez
                          rw [if_pos rfl, hm5.out] at hp
                          replace hp := Lib.hid hp
                          repeat' ((fail_if_success at_builtin); (first | go_skip | go_guarded | go_step))
                          refine C.out.mono ?_
                          clear C
                          rintro e s1 ⟨rfl, hs1⟩
                          dsimp only
                          have hbq := hb5.trans (hs1.mono hb5.size)
                          have hbq0 := hbz.trans (hs1.mono hbz.size)
                          have d3 := (hs1.cell (p := ⟨g2, _, none⟩) (Nat.lt_of_lt_of_le hg2 hbz.size)).trans d3
                          have c0_4 := (hs1.cell (p := ⟨w.heap.size, 4, none⟩) (hO6.lt 0)).trans c0_4
                          repeat' ((fail_if_success at_builtin); (first | go_skip | go_guarded | go_step))
                          go_roundw
                          case rel => exact ⟨kk + 1, by omega, by first | rfl | go_num, by rw [hla.out], hbq, hp.out⟩
                          case measure => (try go_num); (try simp [intOf]); (try omega)
                        · rw [if_neg hez] at hp
                          have hez2 : (er == 0) = false := beq_false_of_ne hez
                          have hez3 : (er != 0) = true := by simpa using hez
                          have hr := hp
                          replace hr := Lib.hid hr
                          clear hp
                          repeat' ((fail_if_success at_builtin); (first | go_skip | go_guarded | go_step))
                          refine C.out.mono ?_
                          clear C
                          rintro e s1 ⟨rfl, hs1⟩
                          dsimp only
                          have hbq0 := hbz.trans (hs1.mono hbz.size)
                          repeat' ((fail_if_success at_builtin); (first | go_skip | go_guarded | go_step))
                          go_ret
                          exact ⟨by rw [hr.out]; rfl, hbq0⟩
                      · have k1' : ¬ (kk : Int) < (x.history.length : Int) := by omega
                        have hr : envF (l.take i) x = 0 := by
                          rw [deps_end (by omega), ← hm5.out] at hp
                          exact hp
                        replace hr := Lib.hid hr
                        clear hp
                        repeat' ((fail_if_success at_builtin); (first | go_skip | go_guarded | go_step))
                        go_ret
                        exact ⟨by rw [hr.out]; rfl, hbz⟩
set_option maxRecDepth 100000 in
set_option maxHeartbeats 4000000 in
theorem rvalid_any (l : List Env) (A : Option Addr) (n c : Nat) (w : World) (h : Envs w A n c l) (hR : (refsL l).length ≤ 1000000) :
    Calls Tryd.prog 12 #[.slice A n c] w fun e w' => e = .returned (.int .i64 (validL l)) ∧ Below w.heap.size w w' := by
  go_enter Tryd.func12, Tryd.ntmps12
  have hn := h.n
  have hl := h.len
  have hvl : validL l = validF [] l := rfl
  replace hn := Lib.hid hn
  replace hvl := Lib.hid hvl
  repeat' ((fail_if_success at_builtin); (first | go_skip | go_guarded | go_step))
  go_loopw [3] (fun u3 wr => ∃ i : Nat, i ≤ n ∧ u3 = .int .i64 (i : Int) ∧ Below w.heap.size w wr ∧ validL l = validF (l.take i) (l.drop i)) (fun u3 _ => n - (intOf u3).toNat)
  case atStart => exact ⟨0, by omega, rfl, Below.refl _ _, rfl⟩
  case round =>
    obtain ⟨i, hi, rfl, hb, hp⟩ := hrel
    have i0 : (0 : Int) ≤ (i : Int) := by omega
    have i2 : IntKind.i64.wrap ((i : Int) + 1) = (i : Int) + 1 := IntWalk.i64_in _ (by have := hn.out; omega)
    by_cases hlt : i < n
    · have i1 : (i : Int) < (n : Int) := by omega
      obtain ⟨x, hx⟩ : ∃ x, l[i]? = some x := ⟨_, List.getElem?_eq_getElem (by have := hn.out; omega)⟩
      rw [valid_at hx] at hp
      have C := environment_any l i x A n c wr (h.below hb) hR hx
      clear hx
      generalize envF (l.take i) x = er at *
      replace C := Lib.hid C
      by_cases hez : er = 0
      · subst hez
        rw [if_pos rfl] at hp
        replace hp := Lib.hid hp
        repeat' ((fail_if_success at_builtin); (first | go_skip | go_guarded | go_step))
        refine C.out.mono ?_
        clear C
        rintro e s1 ⟨rfl, hs1⟩
        dsimp only
        have hbq := hb.trans (hs1.mono hb.size)
        repeat' ((fail_if_success at_builtin); (first | go_skip | go_guarded | go_step))
        go_roundw
        case rel => exact ⟨i + 1, by omega, by first | rfl | go_num, hbq, hp.out⟩
        case measure => (try go_num); (try simp [intOf]); (try omega)
      · rw [if_neg hez] at hp
        have hez2 : (er == 0) = false := beq_false_of_ne hez
        have hez3 : (er != 0) = true := by simpa using hez
        have hr := Lib.hid hp
        clear hp
        repeat' ((fail_if_success at_builtin); (first | go_skip | go_guarded | go_step))
        refine C.out.mono ?_
        clear C
        rintro e s1 ⟨rfl, hs1⟩
        dsimp only
        have hbq := hb.trans (hs1.mono hb.size)
        repeat' ((fail_if_success at_builtin); (first | go_skip | go_guarded | go_step))
        go_ret
        exact ⟨by rw [hr.out]; rfl, hbq⟩
    · have i1 : ¬ (i : Int) < (n : Int) := by omega
      have hr : validL l = 0 := by
        rw [valid_end (by have := hn.out; omega)] at hp
        exact hp
      replace hr := Lib.hid hr
      clear hp
      repeat' ((fail_if_success at_builtin); (first | go_skip | go_guarded | go_step))
      go_ret
      exact ⟨by rw [hr.out]; rfl, hb⟩
end Go.Proofs.YtennhjkhjplmoaaDoor
