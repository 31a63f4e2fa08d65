/- Deploy: the document's with and added. -/
import Derived.Test.YtennhjkhjplmoaaDoorDpU
import Derived.Test.YtennhjkhjplmoaaDoorHk
import Derived.Test.YtennhjkhjplmoaaDoorDpO
namespace Go.Proofs.YtennhjkhjplmoaaDoor
open Go.RowKit
theorem env_rd {w : World} {S : Nat → Prop} {x : Env} {A1 : Option Addr} {c1 : Nat} {A2 : Option Addr} {c2 : Nat} (h1 : RSlice rRef 2 w S A1 x.waiting.length c1 x.waiting) (h2 : RSlice rDep 5 w S A2 x.history.length c2 x.history) : rEnv w S x (envC x A1 c1 A2 c2) := ⟨A1, c1, A2, c2, rfl, h1, h2⟩
set_option maxRecDepth 100000 in
set_option maxHeartbeats 2000000 in
theorem with_any (l : List Env) (x : Env) (A1 : Option Addr) (c1 : Nat) (A2 : Option Addr) (c2 : Nat) (i : Nat) (A : Option Addr) (n c : Nat) (w : World) (h : Envs w A n c l) (hi : i < l.length)
    (h1 : RSlice rRef 2 w (fun b => b < w.heap.size) A1 x.waiting.length c1 x.waiting) (h2 : RSlice rDep 5 w (fun b => b < w.heap.size) A2 x.history.length c2 x.history) :
    Calls Tryd.prog 50 #[.slice A n c, .int .i64 (i : Int), .agg #[.string x.name, .string x.holder.run, .string x.holder.job, .slice A1 x.waiting.length c1, .slice A2 x.history.length c2]] w fun e w' => ∃ A' n' c', e = .returned (.slice A' n' c') ∧ Below w.heap.size w w' ∧ RSlice rEnv 5 w' (fun b => b < w'.heap.size) A' n' c' (l.set i x) := by
  obtain rfl := h.n
  go_enter Tryd.func50, Tryd.ntmps50
  have hl := h.len
  go_upto_region 1 with (fail)
  generalize hx_ : World.alloc w _ = wo1
  have hO1 : OwnB w wo1 [(w.heap.size, [.string x.name, .string x.holder.run, .string x.holder.job, .slice A1 x.waiting.length c1, .slice A2 x.history.length c2])] := by rw [← hx_]; exact (OwnB.refl w).new #[.string x.name, .string x.holder.run, .string x.holder.job, .slice A1 x.waiting.length c1, .slice A2 x.history.length c2] _ (g := w.heap.size)
  have hbn : Below w.heap.size w wo1 := by rw [← hx_]; exact (Below.refl _ _).alloc (Nat.le_refl _) _
  have zwo1 : w.heap.size + 0 < wo1.heap.size := by rw [← hx_]; simp <;> omega
  clear hx_
  have c0_0 : wo1.cell? ⟨w.heap.size, 0, none⟩ = some (.string x.name) := hO1.c 0 0
  have c0_1 : wo1.cell? ⟨w.heap.size, 1, none⟩ = some (.string x.holder.run) := hO1.c 0 1
  have c0_2 : wo1.cell? ⟨w.heap.size, 2, none⟩ = some (.string x.holder.job) := hO1.c 0 2
  have c0_3 : wo1.cell? ⟨w.heap.size, 3, none⟩ = some (.slice A1 x.waiting.length c1) := hO1.c 0 3
  have c0_4 : wo1.cell? ⟨w.heap.size, 4, none⟩ = some (.slice A2 x.history.length c2) := hO1.c 0 4
  have cf0 := hO1.fr 0
  clear hbn
  have hbw := hO1.below
  have hrl := h.rd.below rEnv_ok hbw
  have i0 : (0 : Int) ≤ (i : Int) := by omega
  have i1 : (i : Int) < (l.length : Int) := by omega
  have hR0 := OwnR.empty (r := rEnv) (sz := 5) wo1 envT
  have hba := (Below.refl wo1.heap.size wo1).alloc (Nat.le_refl _) (.cells #[] envT)
  have hby : (([] : List Env).length + l.length) * 96 ≤ 140737488355328 := by simp; omega
  have hxs := (hrl.below rEnv_ok (hba.mono hbw.size)).more rEnv_ok (S' := Beh (wo1.alloc (.cells #[] envT)) (.slice (some ⟨wo1.heap.size, 0, none⟩) 0 0)) (fun b hb => beh_old hR0 (Nat.lt_of_lt_of_le hb hbw.size))
  have hws := hbw.size
  replace hxs := Lib.hid hxs
  clear hrl
  repeat' ((fail_if_success at_builtin); (first | go_skip | go_guarded | go_step))
  refine wp_appRS rEnv_ok rEnv_one hR0 (Below.refl _ _) hxs.out Tryd.underlying22 env_info hby ?_
  intro v4 w4 hR4
  rw [List.nil_append] at hR4
  obtain ⟨A4, c4, rfl⟩ := hR4.form
  have hb4 := hR4.bel
  clear hR0 hba hxs hby hbw
  have zw4 := hb4.size
  have hO2 : OwnB w w4 [(w.heap.size, [.string x.name, .string x.holder.run, .string x.holder.job, .slice A1 x.waiting.length c1, .slice A2 x.history.length c2])] := hO1.kept hb4
  clear c0_0 c0_1 c0_2 c0_3 c0_4 cf0 hO1
  have c0_0 : w4.cell? ⟨w.heap.size, 0, none⟩ = some (.string x.name) := hO2.c 0 0
  have c0_1 : w4.cell? ⟨w.heap.size, 1, none⟩ = some (.string x.holder.run) := hO2.c 0 1
  have c0_2 : w4.cell? ⟨w.heap.size, 2, none⟩ = some (.string x.holder.job) := hO2.c 0 2
  have c0_3 : w4.cell? ⟨w.heap.size, 3, none⟩ = some (.slice A1 x.waiting.length c1) := hO2.c 0 3
  have c0_4 : w4.cell? ⟨w.heap.size, 4, none⟩ = some (.slice A2 x.history.length c2) := hO2.c 0 4
  have cf0 := hO2.fr 0
  have hbw := hO2.below
  obtain ⟨g, rfl, hg1, hg2, yf⟩ := hR4.head rfl (by omega)
  have hrd := rEnv_ok _ _ _ (Beh w4 (.slice (some ⟨g, 0, none⟩) l.length c4)) _ _ (fun _ _ => rfl) (fun b hb => beh_old hR4 (Nat.lt_of_lt_of_le hb hws)) (env_rd (h1.map_ (S' := fun b => b < w.heap.size) rRef_ok (fun _ hp => hbw.cell hp) (fun b hb => hb)) (h2.map_ (S' := fun b => b < w.heap.size) rDep_ok (fun _ hp => hbw.cell hp) (fun b hb => hb)))
  have hfin := hR4.set rEnv_ok (by omega) rfl hi hrd rfl
  obtain ⟨y, hy⟩ : ∃ y, l[i]? = some y := ⟨_, List.getElem?_eq_getElem hi⟩
  obtain ⟨g', o', a1, k1, a2, k2, hge, _, hSA⟩ := env_at (hR4.slice rEnv_ok) hy
  obtain ⟨rfl, rfl⟩ : g' = g ∧ o' = 0 := by injection hge with hge; injection hge with h1 h2; exact ⟨h1.symm, h2.symm⟩
  have y0 := hSA.e0
  have y1 := hSA.e1
  have y2 := hSA.e2
  have y3 := hSA.e3
  have y4 := hSA.e4
  rw [Nat.zero_add] at y0 y1 y2 y3 y4
  have hlen : l.length = (l.set i x).length := by rw [List.length_set]
  have hsl : RSlice rEnv 5 (w4.setCells g' (i * 5) [.string x.name, .string x.holder.run, .string x.holder.job, .slice A1 x.waiting.length c1, .slice A2 x.history.length c2]) (fun b => b < (w4.setCells g' (i * 5) [.string x.name, .string x.holder.run, .string x.holder.job, .slice A1 x.waiting.length c1, .slice A2 x.history.length c2]).heap.size) (some ⟨g', 0, none⟩) l.length c4 (l.set i x) := by
    rw [hlen] at hfin ⊢
    exact hfin.slice rEnv_ok
  have hbg := setCells_below (g := g') (B := w.heap.size) (by have := hg1; omega) [.string x.name, .string x.holder.run, .string x.holder.job, .slice A1 x.waiting.length c1, .slice A2 x.history.length c2] (i * 5) w4 hbw
  replace hsl := Lib.hid hsl
  replace hbg := Lib.hid hbg
  clear hfin hR4 hrd hSA hlen hy
  repeat' ((fail_if_success at_builtin); (first | go_skip | go_guarded | go_step))
  go_ret
  exact ⟨_, _, _, rfl, hbg.out, hsl.out⟩
set_option maxRecDepth 100000 in
set_option maxHeartbeats 2000000 in
theorem added_any (l : List Env) (x : Env) (A1 : Option Addr) (c1 : Nat) (A2 : Option Addr) (c2 : Nat) (A : Option Addr) (n c : Nat) (w : World) (h : Envs w A n c l) (hx : x.name.size ≤ 1000000)
    (h1 : RSlice rRef 2 w (fun b => b < w.heap.size) A1 x.waiting.length c1 x.waiting) (h2 : RSlice rDep 5 w (fun b => b < w.heap.size) A2 x.history.length c2 x.history) :
    Calls Tryd.prog 49 #[.slice A n c, .agg #[.string x.name, .string x.holder.run, .string x.holder.job, .slice A1 x.waiting.length c1, .slice A2 x.history.length c2]] w fun e w' => ∃ A' n' c', e = .returned (.slice A' n' c') ∧ Below w.heap.size w w' ∧ RSlice rEnv 5 w' (fun b => b < w'.heap.size) A' n' c' (l.take (posA (aftE x.name) l) ++ x :: l.drop (posA (aftE x.name) l)) := by
  obtain rfl := h.n
  go_enter Tryd.func49, Tryd.ntmps49
  have hl := h.len
  have hc := h.rd.2.1
  go_upto_region 1 with (fail)
  generalize hx_ : World.alloc w _ = wo1
  have hO1 : OwnB w wo1 [(w.heap.size, [.string x.name, .string x.holder.run, .string x.holder.job, .slice A1 x.waiting.length c1, .slice A2 x.history.length c2])] := by rw [← hx_]; exact (OwnB.refl w).new #[.string x.name, .string x.holder.run, .string x.holder.job, .slice A1 x.waiting.length c1, .slice A2 x.history.length c2] _ (g := w.heap.size)
  have hbn : Below w.heap.size w wo1 := by rw [← hx_]; exact (Below.refl _ _).alloc (Nat.le_refl _) _
  have zwo1 : w.heap.size + 0 < wo1.heap.size := by rw [← hx_]; simp <;> omega
  clear hx_
  have c0_0 : wo1.cell? ⟨w.heap.size, 0, none⟩ = some (.string x.name) := hO1.c 0 0
  have c0_1 : wo1.cell? ⟨w.heap.size, 1, none⟩ = some (.string x.holder.run) := hO1.c 0 1
  have c0_2 : wo1.cell? ⟨w.heap.size, 2, none⟩ = some (.string x.holder.job) := hO1.c 0 2
  have c0_3 : wo1.cell? ⟨w.heap.size, 3, none⟩ = some (.slice A1 x.waiting.length c1) := hO1.c 0 3
  have c0_4 : wo1.cell? ⟨w.heap.size, 4, none⟩ = some (.slice A2 x.history.length c2) := hO1.c 0 4
  have cf0 := hO1.fr 0
  clear hbn
  obtain ⟨f, hf⟩ : ∃ f, f = aftE x.name := ⟨_, rfl⟩
  replace hf := Lib.hid hf
  repeat' ((fail_if_success at_builtin); (first | go_skip | go_guarded | go_step))
  go_loopw [5] (fun u9 wr => ∃ i : Nat, i ≤ l.length ∧ u9 = .int .i64 (i : Int) ∧ Below wo1.heap.size wo1 wr ∧ posA f l = i + posA f (l.drop i)) (fun u9 _ => l.length - (intOf u9).toNat)
  case atStart => exact ⟨0, by omega, rfl, Below.refl _ _, by simp⟩
  case round =>
    obtain ⟨i, hi, rfl, hbr, hq⟩ := hrel
    have i0 : (0 : Int) ≤ (i : Int) := by omega
    have i2 : IntKind.i64.wrap ((i : Int) + 1) = (i : Int) + 1 := IntWalk.i64_in _ (by omega)
    have i3 : (i : Int) ≤ (c : Int) := by omega
    have i4 : (i : Int) ≤ (l.length : Int) := by omega
    have i5 : (l.length : Int) ≤ (c : Int) := by omega
    have zwr := hbr.size
    have hO2 : OwnB w wr [(w.heap.size, [.string x.name, .string x.holder.run, .string x.holder.job, .slice A1 x.waiting.length c1, .slice A2 x.history.length c2])] := hO1.kept hbr
    clear c0_0 c0_1 c0_2 c0_3 c0_4 cf0 hO1
    have c0_0 : wr.cell? ⟨w.heap.size, 0, none⟩ = some (.string x.name) := hO2.c 0 0
    have c0_1 : wr.cell? ⟨w.heap.size, 1, none⟩ = some (.string x.holder.run) := hO2.c 0 1
    have c0_2 : wr.cell? ⟨w.heap.size, 2, none⟩ = some (.string x.holder.job) := hO2.c 0 2
    have c0_3 : wr.cell? ⟨w.heap.size, 3, none⟩ = some (.slice A1 x.waiting.length c1) := hO2.c 0 3
    have c0_4 : wr.cell? ⟨w.heap.size, 4, none⟩ = some (.slice A2 x.history.length c2) := hO2.c 0 4
    have cf0 := hO2.fr 0
    have hbw := hO2.below
    by_cases hlt : i < l.length
    · have i1 : (i : Int) < (l.length : Int) := by omega
      obtain ⟨y, hy⟩ : ∃ y, l[i]? = some y := ⟨_, List.getElem?_eq_getElem (by omega)⟩
      have hyw := (h.each y (List.mem_of_getElem? hy)).name
      obtain ⟨g, o, a1, k1, a2, k2, rfl, hg, hSA⟩ := env_at h.rd hy
      have hS2 := hSA.below hg hbw
      have y0 := hS2.e0
      clear hSA hS2
      have hgl : g < wr.heap.size := Nat.lt_of_lt_of_le hg hbw.size
      have hpl : w.heap.size < wr.heap.size := hO2.lt 0
      have hS0 : (Below wr.heap.size wr wr ∧ wr.cell? ⟨g, o + i * 5, none⟩ = some (.string y.name) ∧ wr.cell? ⟨w.heap.size, 0, none⟩ = some (.string x.name)) := ⟨Below.refl _ _, y0, c0_0⟩
      have keepS : ∀ v1 v2 : World, (Below wr.heap.size wr v1 ∧ v1.cell? ⟨g, o + i * 5, none⟩ = some (.string y.name) ∧ v1.cell? ⟨w.heap.size, 0, none⟩ = some (.string x.name)) → Below v1.heap.size v1 v2 → (Below wr.heap.size wr v2 ∧ v2.cell? ⟨g, o + i * 5, none⟩ = some (.string y.name) ∧ v2.cell? ⟨w.heap.size, 0, none⟩ = some (.string x.name)) := fun v1 v2 h hb => ⟨h.1.trans (hb.mono h.1.size), (hb.cell (p := ⟨g, _, none⟩) (Nat.lt_of_lt_of_le hgl h.1.size)).trans h.2.1, (hb.cell (p := ⟨w.heap.size, _, none⟩) (Nat.lt_of_lt_of_le hpl h.1.size)).trans h.2.2⟩
      have hS1 : (Below wr.heap.size wr wr.drew ∧ wr.drew.cell? ⟨g, o + i * 5, none⟩ = some (.string y.name) ∧ wr.drew.cell? ⟨w.heap.size, 0, none⟩ = some (.string x.name)) := keepS _ _ hS0 ((Below.refl _ _).drew)
      replace keepS := Lib.hid keepS
      clear hS0
      go_upto_region 2 with (fail)
      refine wp_region_held_drew (S := fun w' => Below wr.heap.size wr w' ∧ w'.cell? ⟨g, o + i * 5, none⟩ = some (.string y.name) ∧ w'.cell? ⟨w.heap.size, 0, none⟩ = some (.string x.name)) (by kernel_rfl) ?_ (fun hHeld => ?_)
      · (try dsimp only)
        exact hS1
      refine tkY 0 (v := ?v54) rfl (.inl ⟨by rfl, ?hy54⟩) ?hr54
      case hy54 => (intro w hSw; (try dsimp only at hSw); go_simp; try with_reducible rfl)
      simp only [Act.put, List.getElem_toArray, List.getElem_cons_zero, List.setIfInBounds_toArray, List.set_cons_zero, List.set_cons_succ]
      refine tkY 1 (v := ?v55) rfl (.inl ⟨by rfl, ?hy55⟩) ?hr55
      case hy55 => (intro w hSw; (try dsimp only at hSw); go_simp; try with_reducible rfl)
      simp only [Act.put, List.getElem_toArray, List.getElem_cons_zero, List.getElem_cons_succ, List.setIfInBounds_toArray, List.set_cons_zero, List.set_cons_succ]
      refine tkY 2 (v := ?v56) rfl (.inl ⟨by rfl, ?hy56⟩) ?hr56
      case hy56 => (intro w hSw; (try dsimp only at hSw); go_simp; try with_reducible rfl)
      simp only [Act.put, List.getElem_toArray, List.getElem_cons_zero, List.getElem_cons_succ, List.setIfInBounds_toArray, List.set_cons_zero, List.set_cons_succ]
      refine tkY 3 (v := ?v57) rfl (.inl ⟨by rfl, ?hy57⟩) ?hr57
      case hy57 => (intro w hSw; (try dsimp only at hSw); go_simp; try with_reducible rfl)
      simp only [Act.put, List.getElem_toArray, List.getElem_cons_zero, List.getElem_cons_succ, List.setIfInBounds_toArray, List.set_cons_zero, List.set_cons_succ]
      refine tkY 4 (v := ?v58) rfl (.inl ⟨by rfl, ?hy58⟩) ?hr58
      case hy58 => (intro w hSw; (try dsimp only at hSw); go_simp; try with_reducible rfl)
      simp only [Act.put, List.getElem_toArray, List.getElem_cons_zero, List.getElem_cons_succ, List.setIfInBounds_toArray, List.set_cons_zero, List.set_cons_succ]
      refine tkY 5 (v := ?v59) rfl (.inl ⟨by rfl, ?hy59⟩) ?hr59
      case hy59 => (intro w hSw; (try dsimp only at hSw); go_simp; try with_reducible rfl)
      simp only [Act.put, List.getElem_toArray, List.getElem_cons_zero, List.getElem_cons_succ, List.setIfInBounds_toArray, List.set_cons_zero, List.set_cons_succ]
      refine tkY 6 (v := ?v60) rfl (.inl ⟨by rfl, ?hy60⟩) ?hr60
      case hy60 => (intro w hSw; (try dsimp only at hSw); go_simp; try with_reducible rfl)
      simp only [Act.put, List.getElem_toArray, List.getElem_cons_zero, List.getElem_cons_succ, List.setIfInBounds_toArray, List.set_cons_zero, List.set_cons_succ]
      refine tkY 7 (v := ?v61) rfl (.inl ⟨by rfl, ?hy61⟩) ?hr61
      case hy61 => (intro w hSw; (try dsimp only at hSw); go_simp; try with_reducible rfl)
      simp only [Act.put, List.getElem_toArray, List.getElem_cons_zero, List.getElem_cons_succ, List.setIfInBounds_toArray, List.set_cons_zero, List.set_cons_succ]
      refine tkY 8 (v := ?v62) rfl (.inl ⟨by rfl, ?hy62⟩) ?hr62
      case hy62 => (intro w hSw; (try dsimp only at hSw); go_simp; try with_reducible rfl)
      simp only [Act.put, List.getElem_toArray, List.getElem_cons_zero, List.getElem_cons_succ, List.setIfInBounds_toArray, List.set_cons_zero, List.set_cons_succ]
      refine tkY 9 (v := ?v63) rfl (.inl ⟨by rfl, ?hy63⟩) ?hr63
      case hy63 => (intro w hSw; (try dsimp only at hSw); go_simp; try with_reducible rfl)
      simp only [Act.put, List.getElem_toArray, List.getElem_cons_zero, List.getElem_cons_succ, List.setIfInBounds_toArray, List.set_cons_zero, List.set_cons_succ]
      refine tkY 10 (v := ?v64) rfl (.inl ⟨by rfl, ?hy64⟩) ?hr64
      case hy64 => (intro w hSw; (try dsimp only at hSw); go_simp; try with_reducible rfl)
      simp only [Act.put, List.getElem_toArray, List.getElem_cons_zero, List.getElem_cons_succ, List.setIfInBounds_toArray, List.set_cons_zero, List.set_cons_succ]
      refine tkY 11 (v := ?v65) rfl (.inl ⟨by rfl, ?hy65⟩) ?hr65
      case hy65 => (intro w hSw; (try dsimp only at hSw); go_simp; try with_reducible rfl)
      simp only [Act.put, List.getElem_toArray, List.getElem_cons_zero, List.getElem_cons_succ, List.setIfInBounds_toArray, List.set_cons_zero, List.set_cons_succ]
      refine wpAnyH_ready (rs := [12]) (by kernel_rfl) (by simp) ?_
      refine AllReadyH.cons rfl (fun K hK => ?_) AllReadyH.nil
      go_simp
      go_at_call 71
      refine (refCompare_any y.name x.name _ (by omega) (by omega)).mono ?_
      rintro e r1 ⟨rfl, hbq⟩
      dsimp only
      refine hK.out _ _ ?_ (fun hHeld => ?_)
      · (try dsimp only)
        exact keepS.out _ _ hHeld hbq
      clear hK K
      try simp only [Act.put, List.getElem_toArray, List.getElem_cons_zero, List.getElem_cons_succ, List.setIfInBounds_toArray, List.set_cons_zero, List.set_cons_succ]
      refine tkY 13 (v := ?v66) rfl (.inl ⟨by rfl, ?hy66⟩) ?hr66
      case hy66 => (intro w hSw; (try dsimp only at hSw); go_simp; try with_reducible rfl)
      simp only [Act.put, List.getElem_toArray, List.getElem_cons_zero, List.getElem_cons_succ, List.setIfInBounds_toArray, List.set_cons_zero, List.set_cons_succ]
      refine tkY 14 (v := ?v67) rfl (.inl ⟨by rfl, ?hy67⟩) ?hr67
      case hy67 => (intro w hSw; (try dsimp only at hSw); go_simp; try with_reducible rfl)
      simp only [Act.put, List.getElem_toArray, List.getElem_cons_zero, List.getElem_cons_succ, List.setIfInBounds_toArray, List.set_cons_zero, List.set_cons_succ]
      refine wpAnyH_done (by kernel_rfl) ?_ _
      have hbW := hHeld.1
      clear hHeld hS1 keepS
      clear hbw y0
      have zr1 := hbW.size
      have hO3 : OwnB w r1 [(w.heap.size, [.string x.name, .string x.holder.run, .string x.holder.job, .slice A1 x.waiting.length c1, .slice A2 x.history.length c2])] := hO2.kept hbW
      clear c0_0 c0_1 c0_2 c0_3 c0_4 cf0 hO2
      have c0_0 : r1.cell? ⟨w.heap.size, 0, none⟩ = some (.string x.name) := hO3.c 0 0
      have c0_1 : r1.cell? ⟨w.heap.size, 1, none⟩ = some (.string x.holder.run) := hO3.c 0 1
      have c0_2 : r1.cell? ⟨w.heap.size, 2, none⟩ = some (.string x.holder.job) := hO3.c 0 2
      have c0_3 : r1.cell? ⟨w.heap.size, 3, none⟩ = some (.slice A1 x.waiting.length c1) := hO3.c 0 3
      have c0_4 : r1.cell? ⟨w.heap.size, 4, none⟩ = some (.slice A2 x.history.length c2) := hO3.c 0 4
      have cf0 := hO3.fr 0
      have hbr1 := hbr.trans (hbW.mono hbr.size)
      by_cases hcc : f y = true
      · have hc' : ¬ cmpN y.name.data.toList x.name.data.toList ≤ 0 := by
          rw [hf.out] at hcc
          unfold aftE at hcc
          have := of_decide_eq_true hcc
          omega
        have hpi : posA f l = i := by
          have h1 := posA_hit hy hq hcc
          unfold posI at h1
          split at h1 <;> omega
        clear hcc hy hq
        generalize cmpN y.name.data.toList x.name.data.toList = q at *
        have hbw := hO3.below
        have hbW0 := hbw
        have hR0 := OwnR.empty (r := rEnv) (sz := 5) r1 envT
        have hba := (Below.refl r1.heap.size r1).alloc (Nat.le_refl _) (.cells #[] envT)
        have hby : (([] : List Env).length + i) * 96 ≤ 140737488355328 := by simp; omega
        have hxs2 := ((h.rd.take hi).below rEnv_ok (hbw.trans (hba.mono hbw.size))).more rEnv_ok (S' := Beh (r1.alloc (.cells #[] envT)) (.slice (some ⟨r1.heap.size, 0, none⟩) 0 0)) (fun b hb => beh_old hR0 (Nat.lt_of_lt_of_le hb hbw.size))
        have hxd := h.rd.drop hi
        have hci : ¬ c = i := by omega
        rw [if_neg hci] at hxd
        simp only [Option.map_some, Addr.add_lit] at hxd
        replace hxs2 := Lib.hid hxs2
        replace hxd := Lib.hid hxd
        repeat' ((fail_if_success at_builtin); (first | go_skip | go_guarded | go_step))
        refine wp_appRS rEnv_ok rEnv_one hR0 (Below.refl _ _) hxs2.out Tryd.underlying22 env_info hby ?_
        intro v4 w4 hR4
        rw [List.nil_append] at hR4
        obtain ⟨A4, c4, rfl⟩ := hR4.form
        have hb4 := hR4.bel
        have hlt : (l.take i).length = i := by rw [List.length_take]; omega
        rw [hlt] at hR4 ⊢
        have hws := hbw.size
        clear hR0 hba hxs2 hby hbw
        have zw4 := hb4.size
        have hO4 : OwnB w w4 [(w.heap.size, [.string x.name, .string x.holder.run, .string x.holder.job, .slice A1 x.waiting.length c1, .slice A2 x.history.length c2])] := hO3.kept hb4
        clear c0_0 c0_1 c0_2 c0_3 c0_4 cf0 hO3
        have c0_0 : w4.cell? ⟨w.heap.size, 0, none⟩ = some (.string x.name) := hO4.c 0 0
        have c0_1 : w4.cell? ⟨w.heap.size, 1, none⟩ = some (.string x.holder.run) := hO4.c 0 1
        have c0_2 : w4.cell? ⟨w.heap.size, 2, none⟩ = some (.string x.holder.job) := hO4.c 0 2
        have c0_3 : w4.cell? ⟨w.heap.size, 3, none⟩ = some (.slice A1 x.waiting.length c1) := hO4.c 0 3
        have c0_4 : w4.cell? ⟨w.heap.size, 4, none⟩ = some (.slice A2 x.history.length c2) := hO4.c 0 4
        have cf0 := hO4.fr 0
        have hbw := hO4.below
        have hrd := rEnv_ok _ _ _ (Beh w4 (.slice A4 i c4)) _ _ (fun _ _ => rfl) (fun b hb => beh_old hR4 (Nat.lt_of_lt_of_le hb hws)) (env_rd (h1.map_ (S' := fun b => b < w.heap.size) rRef_ok (fun _ hp => hbw.cell hp) (fun b hb => hb)) (h2.map_ (S' := fun b => b < w.heap.size) rDep_ok (fun _ hp => hbw.cell hp) (fun b hb => hb)))
        have hby : ((l.take i).length + 1) * 96 ≤ 140737488355328 := by omega
        replace hlt := Lib.hid hlt
        repeat' ((fail_if_success at_builtin); (first | go_skip | go_guarded | go_step))
        refine wp_appR1 rEnv_ok (cs := #[.string x.name, .string x.holder.run, .string x.holder.job, .slice A1 x.waiting.length c1, .slice A2 x.history.length c2]) hR4 (Below.refl _ _) hrd Tryd.underlying22 env_info hby ?_
        intro v5 w5 hR5
        obtain ⟨A5, c5, rfl⟩ := hR5.form
        have hl5 : (l.take i ++ [x]).length = i + 1 := by rw [List.length_append, hlt.out]; rfl
        rw [hl5] at hR5 ⊢
        have hb5 := hR5.bel
        have hbw5 := hbW0.trans (hb5.mono hbW0.size)
        have hxe := (hxd.out.below rEnv_ok hbw5).more rEnv_ok (S' := Beh w5 (.slice A5 (i + 1) c5)) (fun b hb => beh_old hR5 (Nat.lt_of_lt_of_le hb hws))
        have hby2 : ((l.take i ++ [x]).length + (l.length - i)) * 96 ≤ 140737488355328 := by rw [hl5]; omega
        clear hR4 hrd hby hxd hl5
        replace hxe := Lib.hid hxe
        repeat' ((fail_if_success at_builtin); (first | go_skip | go_guarded | go_step))
        refine wp_appRS rEnv_ok rEnv_one hR5 (Below.refl _ _) hxe.out Tryd.underlying22 env_info hby2 ?_
        intro v6 w6 hR6
        obtain ⟨A6, c6, rfl⟩ := hR6.form
        have hbf := hbW0.trans (hR6.bel.mono hbW0.size)
        have hs6 := hR6.slice rEnv_ok
        generalize (l.take i ++ [x] ++ l.drop i).length = N6 at hs6 ⊢
        clear hR5 hxe hby2 hR6
        replace hs6 := Lib.hid hs6
        replace hpi := Lib.hid hpi
        repeat' ((fail_if_success at_builtin); (first | go_skip | go_guarded | go_step))
        go_ret
        exact ⟨_, _, _, rfl, hbf, by have := hs6.out; rw [List.append_assoc] at this; rw [← hf.out, hpi.out]; exact this⟩
      · have hc0 : f y = false := by simpa using hcc
        have hc' : cmpN y.name.data.toList x.name.data.toList ≤ 0 := by
          rw [hf.out] at hc0
          unfold aftE at hc0
          have := of_decide_eq_false hc0
          omega
        have hr := posA_miss hy hq hc0
        clear hcc hc0 hy hq
        generalize cmpN y.name.data.toList x.name.data.toList = q at *
        replace hr := Lib.hid hr
        repeat' ((fail_if_success at_builtin); (first | go_skip | go_guarded | go_step))
        go_roundw
        case rel => exact ⟨i + 1, by omega, by first | rfl | go_num, hbr1, hr.out⟩
        case measure => (try go_num); (try simp [intOf]); (try omega)
    · have i1 : ¬ (i : Int) < (l.length : Int) := by omega
      have hpi : posA f l = i := by
        rw [List.drop_of_length_le (by omega)] at hq
        have : posA f [] = 0 := rfl
        omega
      clear hq
      have hS0 : (Below wr.heap.size wr wr ∧ True) := ⟨Below.refl _ _, trivial⟩
      have keepS : ∀ v1 v2 : World, (Below wr.heap.size wr v1 ∧ True) → Below v1.heap.size v1 v2 → (Below wr.heap.size wr v2 ∧ True) := fun v1 v2 h hb => ⟨h.1.trans (hb.mono h.1.size), trivial⟩
      have hS1 : (Below wr.heap.size wr wr.drew ∧ True) := keepS _ _ hS0 ((Below.refl _ _).drew)
      replace keepS := Lib.hid keepS
      clear hS0
      go_upto_region 2 with (fail)
      refine wp_region_held_drew (S := fun w' => Below wr.heap.size wr w' ∧ True) (by kernel_rfl) ?_ (fun hHeld => ?_)
      · (try dsimp only)
        exact hS1
      refine tkY 0 (v := ?v68) rfl (.inl ⟨by rfl, ?hy68⟩) ?hr68
      case hy68 => (intro w hSw; (try dsimp only at hSw); go_simp; try with_reducible rfl)
      simp only [Act.put, List.getElem_toArray, List.getElem_cons_zero, List.setIfInBounds_toArray, List.set_cons_zero, List.set_cons_succ]
      refine tkY 1 (v := ?v69) rfl (.inl ⟨by rfl, ?hy69⟩) ?hr69
      case hy69 => (intro w hSw; (try dsimp only at hSw); go_simp; try with_reducible rfl)
      simp only [Act.put, List.getElem_toArray, List.getElem_cons_zero, List.getElem_cons_succ, List.setIfInBounds_toArray, List.set_cons_zero, List.set_cons_succ]
      refine tkY 2 (v := ?v70) rfl (.inl ⟨by rfl, ?hy70⟩) ?hr70
      case hy70 => (intro w hSw; (try dsimp only at hSw); go_simp; try with_reducible rfl)
      simp only [Act.put, List.getElem_toArray, List.getElem_cons_zero, List.getElem_cons_succ, List.setIfInBounds_toArray, List.set_cons_zero, List.set_cons_succ]
      refine tkY 3 (v := ?v71) rfl (.inl ⟨by rfl, ?hy71⟩) ?hr71
      case hy71 => (intro w hSw; (try dsimp only at hSw); go_simp; try with_reducible rfl)
      simp only [Act.put, List.getElem_toArray, List.getElem_cons_zero, List.getElem_cons_succ, List.setIfInBounds_toArray, List.set_cons_zero, List.set_cons_succ]
      refine tkY 4 (v := ?v72) rfl (.inl ⟨by rfl, ?hy72⟩) ?hr72
      case hy72 => (intro w hSw; (try dsimp only at hSw); go_simp; try with_reducible rfl)
      simp only [Act.put, List.getElem_toArray, List.getElem_cons_zero, List.getElem_cons_succ, List.setIfInBounds_toArray, List.set_cons_zero, List.set_cons_succ]
      refine tkN 5 rfl ?_
      simp only [Act.put, List.getElem_toArray, List.getElem_cons_zero, List.getElem_cons_succ, List.setIfInBounds_toArray, List.set_cons_zero, List.set_cons_succ]
      refine tkN 6 rfl ?_
      simp only [Act.put, List.getElem_toArray, List.getElem_cons_zero, List.getElem_cons_succ, List.setIfInBounds_toArray, List.set_cons_zero, List.set_cons_succ]
      refine tkN 7 rfl ?_
      simp only [Act.put, List.getElem_toArray, List.getElem_cons_zero, List.getElem_cons_succ, List.setIfInBounds_toArray, List.set_cons_zero, List.set_cons_succ]
      refine tkN 8 rfl ?_
      simp only [Act.put, List.getElem_toArray, List.getElem_cons_zero, List.getElem_cons_succ, List.setIfInBounds_toArray, List.set_cons_zero, List.set_cons_succ]
      refine tkN 9 rfl ?_
      simp only [Act.put, List.getElem_toArray, List.getElem_cons_zero, List.getElem_cons_succ, List.setIfInBounds_toArray, List.set_cons_zero, List.set_cons_succ]
      refine tkN 10 rfl ?_
      simp only [Act.put, List.getElem_toArray, List.getElem_cons_zero, List.getElem_cons_succ, List.setIfInBounds_toArray, List.set_cons_zero, List.set_cons_succ]
      refine tkN 11 rfl ?_
      simp only [Act.put, List.getElem_toArray, List.getElem_cons_zero, List.getElem_cons_succ, List.setIfInBounds_toArray, List.set_cons_zero, List.set_cons_succ]
      refine tkN 12 rfl ?_
      simp only [Act.put, List.getElem_toArray, List.getElem_cons_zero, List.getElem_cons_succ, List.setIfInBounds_toArray, List.set_cons_zero, List.set_cons_succ]
      refine tkN 13 rfl ?_
      simp only [Act.put, List.getElem_toArray, List.getElem_cons_zero, List.getElem_cons_succ, List.setIfInBounds_toArray, List.set_cons_zero, List.set_cons_succ]
      refine tkY 14 (v := ?v73) rfl (.inl ⟨by rfl, ?hy73⟩) ?hr73
      case hy73 => (intro w hSw; (try dsimp only at hSw); go_simp; try with_reducible rfl)
      simp only [Act.put, List.getElem_toArray, List.getElem_cons_zero, List.getElem_cons_succ, List.setIfInBounds_toArray, List.set_cons_zero, List.set_cons_succ]
      refine wpAnyH_done (by kernel_rfl) ?_ _
      have hbW := hHeld.1
      clear hHeld hS1 keepS
      clear hbw
      have zwrd := hbW.size
      have hO3 : OwnB w wr.drew [(w.heap.size, [.string x.name, .string x.holder.run, .string x.holder.job, .slice A1 x.waiting.length c1, .slice A2 x.history.length c2])] := hO2.kept hbW
      clear c0_0 c0_1 c0_2 c0_3 c0_4 cf0 hO2
      have c0_0 : wr.drew.cell? ⟨w.heap.size, 0, none⟩ = some (.string x.name) := hO3.c 0 0
      have c0_1 : wr.drew.cell? ⟨w.heap.size, 1, none⟩ = some (.string x.holder.run) := hO3.c 0 1
      have c0_2 : wr.drew.cell? ⟨w.heap.size, 2, none⟩ = some (.string x.holder.job) := hO3.c 0 2
      have c0_3 : wr.drew.cell? ⟨w.heap.size, 3, none⟩ = some (.slice A1 x.waiting.length c1) := hO3.c 0 3
      have c0_4 : wr.drew.cell? ⟨w.heap.size, 4, none⟩ = some (.slice A2 x.history.length c2) := hO3.c 0 4
      have cf0 := hO3.fr 0
      have hbw := hO3.below
      have hbW0 := hbw
      have hR0 := OwnR.empty (r := rEnv) (sz := 5) wr.drew envT
      have hba := (Below.refl wr.drew.heap.size wr.drew).alloc (Nat.le_refl _) (.cells #[] envT)
      have hby : (([] : List Env).length + i) * 96 ≤ 140737488355328 := by simp; omega
      have hxs2 := ((h.rd.take hi).below rEnv_ok (hbw.trans (hba.mono hbw.size))).more rEnv_ok (S' := Beh (wr.drew.alloc (.cells #[] envT)) (.slice (some ⟨wr.drew.heap.size, 0, none⟩) 0 0)) (fun b hb => beh_old hR0 (Nat.lt_of_lt_of_le hb hbw.size))
      have hxd := h.rd.drop hi
      replace hxs2 := Lib.hid hxs2
      replace hxd := Lib.hid hxd
      repeat' ((fail_if_success at_builtin); (first | go_skip | go_guarded | go_step))
      refine wp_appRS rEnv_ok rEnv_one hR0 (Below.refl _ _) hxs2.out Tryd.underlying22 env_info hby ?_
      intro v4 w4 hR4
      rw [List.nil_append] at hR4
      obtain ⟨A4, c4, rfl⟩ := hR4.form
      have hb4 := hR4.bel
      have hlt : (l.take i).length = i := by rw [List.length_take]; omega
      rw [hlt] at hR4 ⊢
      have hws := hbw.size
      clear hR0 hba hxs2 hby hbw
      have zw4 := hb4.size
      have hO4 : OwnB w w4 [(w.heap.size, [.string x.name, .string x.holder.run, .string x.holder.job, .slice A1 x.waiting.length c1, .slice A2 x.history.length c2])] := hO3.kept hb4
      clear c0_0 c0_1 c0_2 c0_3 c0_4 cf0 hO3
      have c0_0 : w4.cell? ⟨w.heap.size, 0, none⟩ = some (.string x.name) := hO4.c 0 0
      have c0_1 : w4.cell? ⟨w.heap.size, 1, none⟩ = some (.string x.holder.run) := hO4.c 0 1
      have c0_2 : w4.cell? ⟨w.heap.size, 2, none⟩ = some (.string x.holder.job) := hO4.c 0 2
      have c0_3 : w4.cell? ⟨w.heap.size, 3, none⟩ = some (.slice A1 x.waiting.length c1) := hO4.c 0 3
      have c0_4 : w4.cell? ⟨w.heap.size, 4, none⟩ = some (.slice A2 x.history.length c2) := hO4.c 0 4
      have cf0 := hO4.fr 0
      have hbw := hO4.below
      have hrd := rEnv_ok _ _ _ (Beh w4 (.slice A4 i c4)) _ _ (fun _ _ => rfl) (fun b hb => beh_old hR4 (Nat.lt_of_lt_of_le hb hws)) (env_rd (h1.map_ (S' := fun b => b < w.heap.size) rRef_ok (fun _ hp => hbw.cell hp) (fun b hb => hb)) (h2.map_ (S' := fun b => b < w.heap.size) rDep_ok (fun _ hp => hbw.cell hp) (fun b hb => hb)))
      have hby : ((l.take i).length + 1) * 96 ≤ 140737488355328 := by omega
      replace hlt := Lib.hid hlt
      repeat' ((fail_if_success at_builtin); (first | go_skip | go_guarded | go_step))
      refine wp_appR1 rEnv_ok (cs := #[.string x.name, .string x.holder.run, .string x.holder.job, .slice A1 x.waiting.length c1, .slice A2 x.history.length c2]) hR4 (Below.refl _ _) hrd Tryd.underlying22 env_info hby ?_
      intro v5 w5 hR5
      obtain ⟨A5, c5, rfl⟩ := hR5.form
      have hl5 : (l.take i ++ [x]).length = i + 1 := by rw [List.length_append, hlt.out]; rfl
      rw [hl5] at hR5 ⊢
      have hb5 := hR5.bel
      have hbw5 := hbW0.trans (hb5.mono hbW0.size)
      have hxe := (hxd.out.below rEnv_ok hbw5).more rEnv_ok (S' := Beh w5 (.slice A5 (i + 1) c5)) (fun b hb => beh_old hR5 (Nat.lt_of_lt_of_le hb hws))
      have hby2 : ((l.take i ++ [x]).length + (l.length - i)) * 96 ≤ 140737488355328 := by rw [hl5]; omega
      clear hR4 hrd hby hxd hl5
      replace hxe := Lib.hid hxe
      repeat' ((fail_if_success at_builtin); (first | go_skip | go_guarded | go_step))
      refine wp_appRS rEnv_ok rEnv_one hR5 (Below.refl _ _) hxe.out Tryd.underlying22 env_info hby2 ?_
      intro v6 w6 hR6
      obtain ⟨A6, c6, rfl⟩ := hR6.form
      have hbf := hbW0.trans (hR6.bel.mono hbW0.size)
      have hs6 := hR6.slice rEnv_ok
      generalize (l.take i ++ [x] ++ l.drop i).length = N6 at hs6 ⊢
      clear hR5 hxe hby2 hR6
      replace hs6 := Lib.hid hs6
      replace hpi := Lib.hid hpi
      repeat' ((fail_if_success at_builtin); (first | go_skip | go_guarded | go_step))
      go_ret
      exact ⟨_, _, _, rfl, hbf, by have := hs6.out; rw [List.append_assoc] at this; rw [← hf.out, hpi.out]; exact this⟩
end Go.Proofs.YtennhjkhjplmoaaDoor
