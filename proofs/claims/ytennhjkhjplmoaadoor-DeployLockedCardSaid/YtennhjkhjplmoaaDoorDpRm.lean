/- Deploy: the document's May. -/
import Derived.Test.YtennhjkhjplmoaaDoorDpAp
import Derived.Test.YtennhjkhjplmoaaDoorHk
namespace Go.Proofs.YtennhjkhjplmoaaDoor
open Go.RowKit
set_option maxRecDepth 100000 in
set_option maxHeartbeats 4000000 in
theorem rmay_any (l : List Env) (s : ByteArray) (r : Ref) (A : Option Addr) (n c : Nat) (w : World) (h : Envs w A n c l) :
    Calls Tryd.prog 21 #[.slice A n c, .string s, .agg #[.string r.run, .string r.job]] w fun e w' => e = .returned (.bool (mayL l s r)) ∧ Below w.heap.size w w' := by
  go_enter Tryd.func21, Tryd.ntmps21
  have hl := h.len
  go_upto_region 1 with (fail)
  generalize hx_ : World.alloc w _ = wo1
  have hO1 : OwnB w wo1 [(w.heap.size, [.string r.run, .string r.job])] := by rw [← hx_]; exact (OwnB.refl w).new #[.string r.run, .string r.job] _ (g := w.heap.size)
  have hbn : Below w.heap.size w wo1 := by rw [← hx_]; exact (Below.refl _ _).alloc (Nat.le_refl _) _
  have zwo1 : w.heap.size + 0 < wo1.heap.size := by rw [← hx_]; simp <;> omega
  clear hx_
  have c0_0 : wo1.cell? ⟨w.heap.size, 0, none⟩ = some (.string r.run) := hO1.c 0 0
  have c0_1 : wo1.cell? ⟨w.heap.size, 1, none⟩ = some (.string r.job) := hO1.c 0 1
  have cf0 := hO1.fr 0
  clear hbn
  have hm0 : mayL l s r = match l[posA (nameE s) l]? with
    | none => false
    | some x => eqR x.holder zR && headR x.waiting r := rfl
  have C := rindex_any l s A n c wo1 (h.below hO1.below)
  by_cases hk : posA (nameE s) l < l.length
  · rw [posI_in hk] at C
    obtain ⟨x, hx⟩ : ∃ x, l[posA (nameE s) l]? = some x := ⟨_, List.getElem?_eq_getElem hk⟩
    rw [hx] at hm0
    dsimp only at hm0
    have hxW := h.each x (List.mem_of_getElem? hx)
    have hxw := hxW.wait
    have hk2 : posA (nameE s) l < n := by rw [← h.n]; exact hk
    obtain ⟨g, o, A1, c1, A2, c2, rfl, hg, hS⟩ := env_at h.rd hx
    clear hx
    generalize posA (nameE s) l = k at *
    have i0 : (0 : Int) ≤ (k : Int) := by omega
    have i1 : (k : Int) < (n : Int) := by omega
    have i3 : ¬ (k : Int) < 0 := by omega
    have i4 : (0 : Int) ≤ (k : Int) := by omega
    obtain ⟨q, hq⟩ : ∃ q, q = posI (fun x => eqR x r) x.waiting := ⟨_, rfl⟩
    have hqh := posI_has x.waiting r
    have hq0 := posI_head x.waiting r
    rw [← hq] at hqh hq0
    replace hq := Lib.hid hq
    replace C := Lib.hid C
    repeat' ((fail_if_success at_builtin); (first | go_skip | go_guarded | go_step))
    refine C.out.mono ?_
    clear C
    rintro e w2 ⟨rfl, hw2⟩
    subst w2
    dsimp only
    have hbS := hO1.below
    have hT := hS.below hg hbS
    have e1 := hT.e1
    have e2 := hT.e2
    have e3 := hT.e3
    have hgl : g < wo1.heap.size := Nat.lt_of_lt_of_le hg hbS.size
    have hpl : w.heap.size < wo1.heap.size := hO1.lt 0
    clear hT
    have hq1 := run_eqZ x.holder
    cases hz : eqR x.holder zR with
    | false =>
      rw [hz, Bool.false_and] at hm0
      simp only [hz] at hq1
      replace hm0 := Lib.hid hm0
      clear hqh hq0 hz
      have hS0 : (Below wo1.heap.size wo1 wo1 ∧ wo1.cell? ⟨g, o + k * 5 + 1, none⟩ = some (.string x.holder.run) ∧ wo1.cell? ⟨g, o + k * 5 + 2, none⟩ = some (.string x.holder.job)) := ⟨Below.refl _ _, e1, e2⟩
      have keepS : ∀ v1 v2 : World, (Below wo1.heap.size wo1 v1 ∧ v1.cell? ⟨g, o + k * 5 + 1, none⟩ = some (.string x.holder.run) ∧ v1.cell? ⟨g, o + k * 5 + 2, none⟩ = some (.string x.holder.job)) → Below v1.heap.size v1 v2 → (Below wo1.heap.size wo1 v2 ∧ v2.cell? ⟨g, o + k * 5 + 1, none⟩ = some (.string x.holder.run) ∧ v2.cell? ⟨g, o + k * 5 + 2, none⟩ = some (.string x.holder.job)) := fun v1 v2 h hb => ⟨h.1.trans (hb.mono h.1.size), (hb.cell (p := ⟨g, _, none⟩) (Nat.lt_of_lt_of_le hgl h.1.size)).trans h.2.1, (hb.cell (p := ⟨g, _, none⟩) (Nat.lt_of_lt_of_le hgl h.1.size)).trans h.2.2⟩
      have hS1 : (Below wo1.heap.size wo1 wo1.drew ∧ wo1.drew.cell? ⟨g, o + k * 5 + 1, none⟩ = some (.string x.holder.run) ∧ wo1.drew.cell? ⟨g, o + k * 5 + 2, none⟩ = some (.string x.holder.job)) := keepS _ _ hS0 ((Below.refl _ _).drew)
      replace keepS := Lib.hid keepS
      clear hS0
      go_upto_region 2 with (fail)
      refine wp_region_held_drew (S := fun w' => Below wo1.heap.size wo1 w' ∧ w'.cell? ⟨g, o + k * 5 + 1, none⟩ = some (.string x.holder.run) ∧ w'.cell? ⟨g, o + k * 5 + 2, none⟩ = some (.string x.holder.job)) (by kernel_rfl) ?_ (fun hHeld => ?_)
      · (try dsimp only)
        exact hS1
      refine tkY 0 (v := ?v74) rfl (.inl ⟨by rfl, ?hy74⟩) ?hr74
      case hy74 => (intro w hSw; (try dsimp only at hSw); go_simp; try with_reducible rfl)
      simp only [Act.put, List.getElem_toArray, List.getElem_cons_zero, List.setIfInBounds_toArray, List.set_cons_zero, List.set_cons_succ]
      refine tkY 1 (v := ?v75) rfl (.inl ⟨by rfl, ?hy75⟩) ?hr75
      case hy75 => (intro w hSw; (try dsimp only at hSw); go_simp; try with_reducible rfl)
      simp only [Act.put, List.getElem_toArray, List.getElem_cons_zero, List.getElem_cons_succ, List.setIfInBounds_toArray, List.set_cons_zero, List.set_cons_succ]
      refine tkY 2 (v := ?v76) rfl (.inl ⟨by rfl, ?hy76⟩) ?hr76
      case hy76 => (intro w hSw; (try dsimp only at hSw); go_simp; try with_reducible rfl)
      simp only [Act.put, List.getElem_toArray, List.getElem_cons_zero, List.getElem_cons_succ, List.setIfInBounds_toArray, List.set_cons_zero, List.set_cons_succ]
      refine tkY 3 (v := ?v77) rfl (.inl ⟨by rfl, ?hy77⟩) ?hr77
      case hy77 => (intro w hSw; (try dsimp only at hSw); go_simp; try with_reducible rfl)
      simp only [Act.put, List.getElem_toArray, List.getElem_cons_zero, List.getElem_cons_succ, List.setIfInBounds_toArray, List.set_cons_zero, List.set_cons_succ]
      refine tkY 4 (v := ?v78) rfl (.inl ⟨by rfl, ?hy78⟩) ?hr78
      case hy78 => (intro w hSw; (try dsimp only at hSw); go_simp; try with_reducible rfl)
      simp only [Act.put, List.getElem_toArray, List.getElem_cons_zero, List.getElem_cons_succ, List.setIfInBounds_toArray, List.set_cons_zero, List.set_cons_succ]
      refine tkY 5 (v := ?v79) rfl (.inl ⟨by rfl, ?hy79⟩) ?hr79
      case hy79 => (intro w hSw; (try dsimp only at hSw); go_simp; try with_reducible rfl)
      simp only [Act.put, List.getElem_toArray, List.getElem_cons_zero, List.getElem_cons_succ, List.setIfInBounds_toArray, List.set_cons_zero, List.set_cons_succ]
      refine tkY 6 (v := ?v80) rfl (.inl ⟨by rfl, ?hy80⟩) ?hr80
      case hy80 => (intro w hSw; (try dsimp only at hSw); go_simp; try with_reducible rfl)
      simp only [Act.put, List.getElem_toArray, List.getElem_cons_zero, List.getElem_cons_succ, List.setIfInBounds_toArray, List.set_cons_zero, List.set_cons_succ]
      refine tkY 7 (v := ?v81) rfl (.inl ⟨by rfl, ?hy81⟩) ?hr81
      case hy81 => (intro w hSw; (try dsimp only at hSw); go_simp; try with_reducible rfl)
      simp only [Act.put, List.getElem_toArray, List.getElem_cons_zero, List.getElem_cons_succ, List.setIfInBounds_toArray, List.set_cons_zero, List.set_cons_succ]
      refine tkY 8 (v := ?v82) rfl (.inl ⟨by rfl, ?hy82⟩) ?hr82
      case hy82 => (intro w hSw; (try dsimp only at hSw); go_simp; try with_reducible rfl)
      simp only [Act.put, List.getElem_toArray, List.getElem_cons_zero, List.getElem_cons_succ, List.setIfInBounds_toArray, List.set_cons_zero, List.set_cons_succ]
      refine tkY 9 (v := ?v83) rfl (.inl ⟨by rfl, ?hy83⟩) ?hr83
      case hy83 => (intro w hSw; (try dsimp only at hSw); go_simp; try with_reducible rfl)
      simp only [Act.put, List.getElem_toArray, List.getElem_cons_zero, List.getElem_cons_succ, List.setIfInBounds_toArray, List.set_cons_zero, List.set_cons_succ]
      refine tkY 10 (v := ?v84) rfl (.inl ⟨by rfl, ?hy84⟩) ?hr84
      case hy84 => (intro w hSw; (try dsimp only at hSw); go_simp; try with_reducible rfl)
      simp only [Act.put, List.getElem_toArray, List.getElem_cons_zero, List.getElem_cons_succ, List.setIfInBounds_toArray, List.set_cons_zero, List.set_cons_succ]
      refine tkY 11 (v := ?v85) rfl (.inl ⟨by rfl, ?hy85⟩) ?hr85
      case hy85 => (intro w hSw; (try dsimp only at hSw); go_simp; try with_reducible rfl)
      simp only [Act.put, List.getElem_toArray, List.getElem_cons_zero, List.getElem_cons_succ, List.setIfInBounds_toArray, List.set_cons_zero, List.set_cons_succ]
      refine tkN 12 rfl ?_
      simp only [Act.put, List.getElem_toArray, List.getElem_cons_zero, List.getElem_cons_succ, List.setIfInBounds_toArray, List.set_cons_zero, List.set_cons_succ]
      refine tkN 13 rfl ?_
      simp only [Act.put, List.getElem_toArray, List.getElem_cons_zero, List.getElem_cons_succ, List.setIfInBounds_toArray, List.set_cons_zero, List.set_cons_succ]
      refine tkN 14 rfl ?_
      simp only [Act.put, List.getElem_toArray, List.getElem_cons_zero, List.getElem_cons_succ, List.setIfInBounds_toArray, List.set_cons_zero, List.set_cons_succ]
      refine tkN 15 rfl ?_
      simp only [Act.put, List.getElem_toArray, List.getElem_cons_zero, List.getElem_cons_succ, List.setIfInBounds_toArray, List.set_cons_zero, List.set_cons_succ]
      refine tkN 16 rfl ?_
      simp only [Act.put, List.getElem_toArray, List.getElem_cons_zero, List.getElem_cons_succ, List.setIfInBounds_toArray, List.set_cons_zero, List.set_cons_succ]
      refine tkN 17 rfl ?_
      simp only [Act.put, List.getElem_toArray, List.getElem_cons_zero, List.getElem_cons_succ, List.setIfInBounds_toArray, List.set_cons_zero, List.set_cons_succ]
      refine tkN 18 rfl ?_
      simp only [Act.put, List.getElem_toArray, List.getElem_cons_zero, List.getElem_cons_succ, List.setIfInBounds_toArray, List.set_cons_zero, List.set_cons_succ]
      refine tkN 19 rfl ?_
      simp only [Act.put, List.getElem_toArray, List.getElem_cons_zero, List.getElem_cons_succ, List.setIfInBounds_toArray, List.set_cons_zero, List.set_cons_succ]
      refine tkY 20 (v := ?v86) rfl (.inl ⟨by rfl, ?hy86⟩) ?hr86
      case hy86 => (intro w hSw; (try dsimp only at hSw); go_simp; try with_reducible rfl)
      simp only [Act.put, List.getElem_toArray, List.getElem_cons_zero, List.getElem_cons_succ, List.setIfInBounds_toArray, List.set_cons_zero, List.set_cons_succ]
      refine tkY 21 (v := ?v87) rfl (.inl ⟨by rfl, ?hy87⟩) ?hr87
      case hy87 => (intro w hSw; (try dsimp only at hSw); go_simp; try with_reducible rfl)
      simp only [Act.put, List.getElem_toArray, List.getElem_cons_zero, List.getElem_cons_succ, List.setIfInBounds_toArray, List.set_cons_zero, List.set_cons_succ]
      refine wpAnyH_done (by kernel_rfl) ?_ _
      have hbW := hHeld.1
      clear hHeld hS1 keepS
      have hbz := hbS.trans (hbW.mono hbS.size)
      repeat' ((fail_if_success at_builtin); (first | go_skip | go_guarded | go_step))
      go_ret
      exact ⟨by rw [hm0.out]; rfl, hbz⟩
    | true =>
      rw [hz, Bool.true_and, ← hq0] at hm0
      simp only [hz] at hq1
      replace hm0 := Lib.hid hm0
      clear hqh hq0 hz
      have hS0 : (Below wo1.heap.size wo1 wo1 ∧ wo1.cell? ⟨g, o + k * 5 + 3, none⟩ = some (.slice A1 x.waiting.length c1) ∧ wo1.cell? ⟨g, o + k * 5 + 1, none⟩ = some (.string x.holder.run) ∧ wo1.cell? ⟨g, o + k * 5 + 2, none⟩ = some (.string x.holder.job) ∧ wo1.cell? ⟨w.heap.size, 0, none⟩ = some (.string r.run) ∧ wo1.cell? ⟨w.heap.size, 1, none⟩ = some (.string r.job)) := ⟨Below.refl _ _, e3, e1, e2, c0_0, c0_1⟩
      have keepS : ∀ v1 v2 : World, (Below wo1.heap.size wo1 v1 ∧ v1.cell? ⟨g, o + k * 5 + 3, none⟩ = some (.slice A1 x.waiting.length c1) ∧ v1.cell? ⟨g, o + k * 5 + 1, none⟩ = some (.string x.holder.run) ∧ v1.cell? ⟨g, o + k * 5 + 2, none⟩ = some (.string x.holder.job) ∧ v1.cell? ⟨w.heap.size, 0, none⟩ = some (.string r.run) ∧ v1.cell? ⟨w.heap.size, 1, none⟩ = some (.string r.job)) → Below v1.heap.size v1 v2 → (Below wo1.heap.size wo1 v2 ∧ v2.cell? ⟨g, o + k * 5 + 3, none⟩ = some (.slice A1 x.waiting.length c1) ∧ v2.cell? ⟨g, o + k * 5 + 1, none⟩ = some (.string x.holder.run) ∧ v2.cell? ⟨g, o + k * 5 + 2, none⟩ = some (.string x.holder.job) ∧ v2.cell? ⟨w.heap.size, 0, none⟩ = some (.string r.run) ∧ v2.cell? ⟨w.heap.size, 1, none⟩ = some (.string r.job)) := fun v1 v2 h hb => ⟨h.1.trans (hb.mono h.1.size), (hb.cell (p := ⟨g, _, none⟩) (Nat.lt_of_lt_of_le hgl h.1.size)).trans h.2.1, (hb.cell (p := ⟨g, _, none⟩) (Nat.lt_of_lt_of_le hgl h.1.size)).trans h.2.2.1, (hb.cell (p := ⟨g, _, none⟩) (Nat.lt_of_lt_of_le hgl h.1.size)).trans h.2.2.2.1, (hb.cell (p := ⟨w.heap.size, _, none⟩) (Nat.lt_of_lt_of_le hpl h.1.size)).trans h.2.2.2.2.1, (hb.cell (p := ⟨w.heap.size, _, none⟩) (Nat.lt_of_lt_of_le hpl h.1.size)).trans h.2.2.2.2.2⟩
      have hS1 : (Below wo1.heap.size wo1 wo1.drew ∧ wo1.drew.cell? ⟨g, o + k * 5 + 3, none⟩ = some (.slice A1 x.waiting.length c1) ∧ wo1.drew.cell? ⟨g, o + k * 5 + 1, none⟩ = some (.string x.holder.run) ∧ wo1.drew.cell? ⟨g, o + k * 5 + 2, none⟩ = some (.string x.holder.job) ∧ wo1.drew.cell? ⟨w.heap.size, 0, none⟩ = some (.string r.run) ∧ wo1.drew.cell? ⟨w.heap.size, 1, none⟩ = some (.string r.job)) := keepS _ _ hS0 ((Below.refl _ _).drew)
      replace keepS := Lib.hid keepS
      clear hS0
      go_upto_region 2 with (fail)
      refine wp_region_held_drew (S := fun w' => Below wo1.heap.size wo1 w' ∧ w'.cell? ⟨g, o + k * 5 + 3, none⟩ = some (.slice A1 x.waiting.length c1) ∧ w'.cell? ⟨g, o + k * 5 + 1, none⟩ = some (.string x.holder.run) ∧ w'.cell? ⟨g, o + k * 5 + 2, none⟩ = some (.string x.holder.job) ∧ w'.cell? ⟨w.heap.size, 0, none⟩ = some (.string r.run) ∧ w'.cell? ⟨w.heap.size, 1, none⟩ = some (.string r.job)) (by kernel_rfl) ?_ (fun hHeld => ?_)
      · (try dsimp only)
        exact hS1
      refine tkY 0 (v := ?v88) rfl (.inl ⟨by rfl, ?hy88⟩) ?hr88
      case hy88 => (intro w hSw; (try dsimp only at hSw); go_simp; try with_reducible rfl)
      simp only [Act.put, List.getElem_toArray, List.getElem_cons_zero, List.setIfInBounds_toArray, List.set_cons_zero, List.set_cons_succ]
      refine tkY 1 (v := ?v89) rfl (.inl ⟨by rfl, ?hy89⟩) ?hr89
      case hy89 => (intro w hSw; (try dsimp only at hSw); go_simp; try with_reducible rfl)
      simp only [Act.put, List.getElem_toArray, List.getElem_cons_zero, List.getElem_cons_succ, List.setIfInBounds_toArray, List.set_cons_zero, List.set_cons_succ]
      refine tkY 2 (v := ?v90) rfl (.inl ⟨by rfl, ?hy90⟩) ?hr90
      case hy90 => (intro w hSw; (try dsimp only at hSw); go_simp; try with_reducible rfl)
      simp only [Act.put, List.getElem_toArray, List.getElem_cons_zero, List.getElem_cons_succ, List.setIfInBounds_toArray, List.set_cons_zero, List.set_cons_succ]
      refine tkY 3 (v := ?v91) rfl (.inl ⟨by rfl, ?hy91⟩) ?hr91
      case hy91 => (intro w hSw; (try dsimp only at hSw); go_simp; try with_reducible rfl)
      simp only [Act.put, List.getElem_toArray, List.getElem_cons_zero, List.getElem_cons_succ, List.setIfInBounds_toArray, List.set_cons_zero, List.set_cons_succ]
      refine tkY 4 (v := ?v92) rfl (.inl ⟨by rfl, ?hy92⟩) ?hr92
      case hy92 => (intro w hSw; (try dsimp only at hSw); go_simp; try with_reducible rfl)
      simp only [Act.put, List.getElem_toArray, List.getElem_cons_zero, List.getElem_cons_succ, List.setIfInBounds_toArray, List.set_cons_zero, List.set_cons_succ]
      refine tkY 5 (v := ?v93) rfl (.inl ⟨by rfl, ?hy93⟩) ?hr93
      case hy93 => (intro w hSw; (try dsimp only at hSw); go_simp; try with_reducible rfl)
      simp only [Act.put, List.getElem_toArray, List.getElem_cons_zero, List.getElem_cons_succ, List.setIfInBounds_toArray, List.set_cons_zero, List.set_cons_succ]
      refine tkY 6 (v := ?v94) rfl (.inl ⟨by rfl, ?hy94⟩) ?hr94
      case hy94 => (intro w hSw; (try dsimp only at hSw); go_simp; try with_reducible rfl)
      simp only [Act.put, List.getElem_toArray, List.getElem_cons_zero, List.getElem_cons_succ, List.setIfInBounds_toArray, List.set_cons_zero, List.set_cons_succ]
      refine tkY 7 (v := ?v95) rfl (.inl ⟨by rfl, ?hy95⟩) ?hr95
      case hy95 => (intro w hSw; (try dsimp only at hSw); go_simp; try with_reducible rfl)
      simp only [Act.put, List.getElem_toArray, List.getElem_cons_zero, List.getElem_cons_succ, List.setIfInBounds_toArray, List.set_cons_zero, List.set_cons_succ]
      refine tkY 8 (v := ?v96) rfl (.inl ⟨by rfl, ?hy96⟩) ?hr96
      case hy96 => (intro w hSw; (try dsimp only at hSw); go_simp; try with_reducible rfl)
      simp only [Act.put, List.getElem_toArray, List.getElem_cons_zero, List.getElem_cons_succ, List.setIfInBounds_toArray, List.set_cons_zero, List.set_cons_succ]
      refine tkY 9 (v := ?v97) rfl (.inl ⟨by rfl, ?hy97⟩) ?hr97
      case hy97 => (intro w hSw; (try dsimp only at hSw); go_simp; try with_reducible rfl)
      simp only [Act.put, List.getElem_toArray, List.getElem_cons_zero, List.getElem_cons_succ, List.setIfInBounds_toArray, List.set_cons_zero, List.set_cons_succ]
      refine tkY 10 (v := ?v98) rfl (.inl ⟨by rfl, ?hy98⟩) ?hr98
      case hy98 => (intro w hSw; (try dsimp only at hSw); go_simp; try with_reducible rfl)
      simp only [Act.put, List.getElem_toArray, List.getElem_cons_zero, List.getElem_cons_succ, List.setIfInBounds_toArray, List.set_cons_zero, List.set_cons_succ]
      refine tkY 11 (v := ?v99) rfl (.inl ⟨by rfl, ?hy99⟩) ?hr99
      case hy99 => (intro w hSw; (try dsimp only at hSw); go_simp; try with_reducible rfl)
      simp only [Act.put, List.getElem_toArray, List.getElem_cons_zero, List.getElem_cons_succ, List.setIfInBounds_toArray, List.set_cons_zero, List.set_cons_succ]
      refine tkY 12 (v := ?v100) rfl (.inl ⟨by rfl, ?hy100⟩) ?hr100
      case hy100 => (intro w hSw; (try dsimp only at hSw); go_simp; try with_reducible rfl)
      simp only [Act.put, List.getElem_toArray, List.getElem_cons_zero, List.getElem_cons_succ, List.setIfInBounds_toArray, List.set_cons_zero, List.set_cons_succ]
      refine tkY 13 (v := ?v101) rfl (.inl ⟨by rfl, ?hy101⟩) ?hr101
      case hy101 => (intro w hSw; (try dsimp only at hSw); go_simp; try with_reducible rfl)
      simp only [Act.put, List.getElem_toArray, List.getElem_cons_zero, List.getElem_cons_succ, List.setIfInBounds_toArray, List.set_cons_zero, List.set_cons_succ]
      refine tkY 14 (v := ?v102) rfl (.inl ⟨by rfl, ?hy102⟩) ?hr102
      case hy102 => (intro w hSw; (try dsimp only at hSw); go_simp; try with_reducible rfl)
      simp only [Act.put, List.getElem_toArray, List.getElem_cons_zero, List.getElem_cons_succ, List.setIfInBounds_toArray, List.set_cons_zero, List.set_cons_succ]
      refine tkY 15 (v := ?v103) rfl (.inl ⟨by rfl, ?hy103⟩) ?hr103
      case hy103 => (intro w hSw; (try dsimp only at hSw); go_simp; try with_reducible rfl)
      simp only [Act.put, List.getElem_toArray, List.getElem_cons_zero, List.getElem_cons_succ, List.setIfInBounds_toArray, List.set_cons_zero, List.set_cons_succ]
      refine tkY 16 (v := ?v104) rfl (.inl ⟨by rfl, ?hy104⟩) ?hr104
      case hy104 => (intro w hSw; (try dsimp only at hSw); go_simp; try with_reducible rfl)
      simp only [Act.put, List.getElem_toArray, List.getElem_cons_zero, List.getElem_cons_succ, List.setIfInBounds_toArray, List.set_cons_zero, List.set_cons_succ]
      refine tkY 17 (v := ?v105) rfl (.inl ⟨by rfl, ?hy105⟩) ?hr105
      case hy105 => (intro w hSw; (try dsimp only at hSw); go_simp; try with_reducible rfl)
      simp only [Act.put, List.getElem_toArray, List.getElem_cons_zero, List.getElem_cons_succ, List.setIfInBounds_toArray, List.set_cons_zero, List.set_cons_succ]
      refine wpAnyH_ready (rs := [18]) (by kernel_rfl) (by simp) ?_
      refine AllReadyH.cons rfl (fun K hK => ?_) AllReadyH.nil
      go_simp
      go_at_call 46
      have hbh := hbS.trans (hHeld.1.mono hbS.size)
      have CJ := place_any x.waiting r A1 x.waiting.length c1 _ ⟨(hS.wait.below rRef_ok hbh).more rRef_ok (fun _ hp => Nat.lt_of_lt_of_le hp hbh.size), hxw⟩
      rw [← hq.out] at CJ
      refine CJ.mono ?_
      clear CJ
      rintro e r9 ⟨rfl, hbq⟩
      dsimp only
      refine hK.out _ _ ?_ (fun hHeld => ?_)
      · (try dsimp only)
        exact keepS.out _ _ hHeld hbq
      clear hK K
      try simp only [Act.put, List.getElem_toArray, List.getElem_cons_zero, List.getElem_cons_succ, List.setIfInBounds_toArray, List.set_cons_zero, List.set_cons_succ]
      refine tkY 19 (v := ?v106) rfl (.inl ⟨by rfl, ?hy106⟩) ?hr106
      case hy106 => (intro w hSw; (try dsimp only at hSw); go_simp; try with_reducible rfl)
      simp only [Act.put, List.getElem_toArray, List.getElem_cons_zero, List.getElem_cons_succ, List.setIfInBounds_toArray, List.set_cons_zero, List.set_cons_succ]
      refine tkY 20 (v := ?v107) rfl (.inl ⟨by rfl, ?hy107⟩) ?hr107
      case hy107 => (intro w hSw; (try dsimp only at hSw); go_simp; try with_reducible rfl)
      simp only [Act.put, List.getElem_toArray, List.getElem_cons_zero, List.getElem_cons_succ, List.setIfInBounds_toArray, List.set_cons_zero, List.set_cons_succ]
      refine tkY 21 (v := ?v108) rfl (.inl ⟨by rfl, ?hy108⟩) ?hr108
      case hy108 => (intro w hSw; (try dsimp only at hSw); go_simp; try with_reducible rfl)
      simp only [Act.put, List.getElem_toArray, List.getElem_cons_zero, List.getElem_cons_succ, List.setIfInBounds_toArray, List.set_cons_zero, List.set_cons_succ]
      refine wpAnyH_done (by kernel_rfl) ?_ _
      have hbW := hHeld.1
      clear hHeld hS1 keepS
      have hbz := hbS.trans (hbW.mono hbS.size)
      repeat' ((fail_if_success at_builtin); (first | go_skip | go_guarded | go_step))
      go_ret
      exact ⟨by rw [hm0.out]; rfl, hbz⟩
  · rw [posI_out hk] at C
    rw [List.getElem?_eq_none (by omega)] at hm0
    replace hm0 := Lib.hid hm0
    clear hk
    have hbS := hO1.below
    replace C := Lib.hid C
    repeat' ((fail_if_success at_builtin); (first | go_skip | go_guarded | go_step))
    refine C.out.mono ?_
    clear C
    rintro e w2 ⟨rfl, hw2⟩
    subst w2
    dsimp only
    have hS0 : (Below wo1.heap.size wo1 wo1 ∧ True) := ⟨Below.refl _ _, trivial⟩
    have keepS : ∀ v1 v2 : World, (Below wo1.heap.size wo1 v1 ∧ True) → Below v1.heap.size v1 v2 → (Below wo1.heap.size wo1 v2 ∧ True) := fun v1 v2 h hb => ⟨h.1.trans (hb.mono h.1.size), trivial⟩
    have hS1 : (Below wo1.heap.size wo1 wo1.drew ∧ True) := keepS _ _ hS0 ((Below.refl _ _).drew)
    replace keepS := Lib.hid keepS
    clear hS0
    go_upto_region 2 with (fail)
    refine wp_region_held_drew (S := fun w' => Below wo1.heap.size wo1 w' ∧ True) (by kernel_rfl) ?_ (fun hHeld => ?_)
    · (try dsimp only)
      exact hS1
    refine tkY 0 (v := ?v109) rfl (.inl ⟨by rfl, ?hy109⟩) ?hr109
    case hy109 => (intro w hSw; (try dsimp only at hSw); go_simp; try with_reducible rfl)
    simp only [Act.put, List.getElem_toArray, List.getElem_cons_zero, List.setIfInBounds_toArray, List.set_cons_zero, List.set_cons_succ]
    refine tkY 1 (v := ?v110) rfl (.inl ⟨by rfl, ?hy110⟩) ?hr110
    case hy110 => (intro w hSw; (try dsimp only at hSw); go_simp; try with_reducible rfl)
    simp only [Act.put, List.getElem_toArray, List.getElem_cons_zero, List.getElem_cons_succ, List.setIfInBounds_toArray, List.set_cons_zero, List.set_cons_succ]
    refine tkY 2 (v := ?v111) rfl (.inl ⟨by rfl, ?hy111⟩) ?hr111
    case hy111 => (intro w hSw; (try dsimp only at hSw); go_simp; try with_reducible rfl)
    simp only [Act.put, List.getElem_toArray, List.getElem_cons_zero, List.getElem_cons_succ, List.setIfInBounds_toArray, List.set_cons_zero, List.set_cons_succ]
    refine tkN 3 rfl ?_
    simp only [Act.put, List.getElem_toArray, List.getElem_cons_zero, List.getElem_cons_succ, List.setIfInBounds_toArray, List.set_cons_zero, List.set_cons_succ]
    refine tkN 4 rfl ?_
    simp only [Act.put, List.getElem_toArray, List.getElem_cons_zero, List.getElem_cons_succ, List.setIfInBounds_toArray, List.set_cons_zero, List.set_cons_succ]
    refine tkN 5 rfl ?_
    simp only [Act.put, List.getElem_toArray, List.getElem_cons_zero, List.getElem_cons_succ, List.setIfInBounds_toArray, List.set_cons_zero, List.set_cons_succ]
    refine tkN 6 rfl ?_
    simp only [Act.put, List.getElem_toArray, List.getElem_cons_zero, List.getElem_cons_succ, List.setIfInBounds_toArray, List.set_cons_zero, List.set_cons_succ]
    refine tkN 7 rfl ?_
    simp only [Act.put, List.getElem_toArray, List.getElem_cons_zero, List.getElem_cons_succ, List.setIfInBounds_toArray, List.set_cons_zero, List.set_cons_succ]
    refine tkN 8 rfl ?_
    simp only [Act.put, List.getElem_toArray, List.getElem_cons_zero, List.getElem_cons_succ, List.setIfInBounds_toArray, List.set_cons_zero, List.set_cons_succ]
    refine tkN 9 rfl ?_
    simp only [Act.put, List.getElem_toArray, List.getElem_cons_zero, List.getElem_cons_succ, List.setIfInBounds_toArray, List.set_cons_zero, List.set_cons_succ]
    refine tkY 10 (v := ?v112) rfl (.inl ⟨by rfl, ?hy112⟩) ?hr112
    case hy112 => (intro w hSw; (try dsimp only at hSw); go_simp; try with_reducible rfl)
    simp only [Act.put, List.getElem_toArray, List.getElem_cons_zero, List.getElem_cons_succ, List.setIfInBounds_toArray, List.set_cons_zero, List.set_cons_succ]
    refine tkY 11 (v := ?v113) rfl (.inl ⟨by rfl, ?hy113⟩) ?hr113
    case hy113 => (intro w hSw; (try dsimp only at hSw); go_simp; try with_reducible rfl)
    simp only [Act.put, List.getElem_toArray, List.getElem_cons_zero, List.getElem_cons_succ, List.setIfInBounds_toArray, List.set_cons_zero, List.set_cons_succ]
    refine tkN 12 rfl ?_
    simp only [Act.put, List.getElem_toArray, List.getElem_cons_zero, List.getElem_cons_succ, List.setIfInBounds_toArray, List.set_cons_zero, List.set_cons_succ]
    refine tkN 13 rfl ?_
    simp only [Act.put, List.getElem_toArray, List.getElem_cons_zero, List.getElem_cons_succ, List.setIfInBounds_toArray, List.set_cons_zero, List.set_cons_succ]
    refine tkN 14 rfl ?_
    simp only [Act.put, List.getElem_toArray, List.getElem_cons_zero, List.getElem_cons_succ, List.setIfInBounds_toArray, List.set_cons_zero, List.set_cons_succ]
    refine tkN 15 rfl ?_
    simp only [Act.put, List.getElem_toArray, List.getElem_cons_zero, List.getElem_cons_succ, List.setIfInBounds_toArray, List.set_cons_zero, List.set_cons_succ]
    refine tkN 16 rfl ?_
    simp only [Act.put, List.getElem_toArray, List.getElem_cons_zero, List.getElem_cons_succ, List.setIfInBounds_toArray, List.set_cons_zero, List.set_cons_succ]
    refine tkN 17 rfl ?_
    simp only [Act.put, List.getElem_toArray, List.getElem_cons_zero, List.getElem_cons_succ, List.setIfInBounds_toArray, List.set_cons_zero, List.set_cons_succ]
    refine tkN 18 rfl ?_
    simp only [Act.put, List.getElem_toArray, List.getElem_cons_zero, List.getElem_cons_succ, List.setIfInBounds_toArray, List.set_cons_zero, List.set_cons_succ]
    refine tkN 19 rfl ?_
    simp only [Act.put, List.getElem_toArray, List.getElem_cons_zero, List.getElem_cons_succ, List.setIfInBounds_toArray, List.set_cons_zero, List.set_cons_succ]
    refine tkY 20 (v := ?v114) rfl (.inl ⟨by rfl, ?hy114⟩) ?hr114
    case hy114 => (intro w hSw; (try dsimp only at hSw); go_simp; try with_reducible rfl)
    simp only [Act.put, List.getElem_toArray, List.getElem_cons_zero, List.getElem_cons_succ, List.setIfInBounds_toArray, List.set_cons_zero, List.set_cons_succ]
    refine tkY 21 (v := ?v115) rfl (.inl ⟨by rfl, ?hy115⟩) ?hr115
    case hy115 => (intro w hSw; (try dsimp only at hSw); go_simp; try with_reducible rfl)
    simp only [Act.put, List.getElem_toArray, List.getElem_cons_zero, List.getElem_cons_succ, List.setIfInBounds_toArray, List.set_cons_zero, List.set_cons_succ]
    refine wpAnyH_done (by kernel_rfl) ?_ _
    have hbW := hHeld.1
    clear hHeld hS1 keepS
    have hbz := hbS.trans (hbW.mono hbS.size)
    repeat' ((fail_if_success at_builtin); (first | go_skip | go_guarded | go_step))
    go_ret
    exact ⟨by rw [hm0.out]; rfl, hbz⟩
end Go.Proofs.YtennhjkhjplmoaaDoor
