/- Secret: Put of the document. -/
import Derived.Test.YtgloblokkejgmaaDoorSeQ
namespace Go.Proofs.YtgloblokkejgmaaDoor
open Go.RowKit
set_option maxRecDepth 100000 in
set_option maxHeartbeats 6000000 in
theorem refPut_any (l : List Sec) (A : Option Addr) (n c : Nat) (x : Sec) (A1 : Option Addr) (c1 : Nat) (A2 : Option Addr) (c2 : Nat) (w : World) (h : Secs w A n c l) (h1 : StrsR w (fun b => b < w.heap.size) A1 c1 x.refs) (h2 : StrsR w (fun b => b < w.heap.size) A2 c2 x.envs) (hx : SecW x) :
    Calls Tryd.prog 14 #[.slice A n c, .agg #[.string x.name, .string x.text, .int .i64 x.level, .slice A1 x.refs.length c1, .slice A2 x.envs.length c2]] w (RetPut w (vE x) l x) := by
  have hn := h.n
  have hl := h.len
  have hnc := h.rd.2.1
  subst hn
  obtain ⟨v, hv⟩ : ∃ v, v = vE x := ⟨_, rfl⟩
  rw [← hv]
  replace hv := Lib.hid hv
  go_enter Tryd.func14, Tryd.ntmps14
  go_upto_region 1 with (fail)
  generalize hx_ : World.alloc w _ = wo1
  have hO1 : OwnB w wo1 [(w.heap.size, [.string x.name, .string x.text, .int .i64 x.level, .slice A1 x.refs.length c1, .slice A2 x.envs.length c2])] := by rw [← hx_]; exact (OwnB.refl w).new #[.string x.name, .string x.text, .int .i64 x.level, .slice A1 x.refs.length c1, .slice A2 x.envs.length c2] _ (g := w.heap.size)
  have hbn : Below w.heap.size w wo1 := by rw [← hx_]; exact (Below.refl _ _).alloc (Nat.le_refl _) _
  have zwo1 : wo1.heap.size = w.heap.size + 1 := by rw [← hx_]; simp
  clear hx_
  have c0_0 : wo1.cell? ⟨w.heap.size, 0, none⟩ = some (.string x.name) := hO1.c 0 0
  have c0_1 : wo1.cell? ⟨w.heap.size, 1, none⟩ = some (.string x.text) := hO1.c 0 1
  have c0_2 : wo1.cell? ⟨w.heap.size, 2, none⟩ = some (.int .i64 x.level) := hO1.c 0 2
  have c0_3 : wo1.cell? ⟨w.heap.size, 3, none⟩ = some (.slice A1 x.refs.length c1) := hO1.c 0 3
  have c0_4 : wo1.cell? ⟨w.heap.size, 4, none⟩ = some (.slice A2 x.envs.length c2) := hO1.c 0 4
  have cf0 := hO1.fr 0
  clear hbn
  have hbw := hO1.below
  have C := refValid_any x A1 c1 A2 c2 wo1 (h1.map (fun _ hp => hbw.cell hp) (fun b hb => Nat.lt_of_lt_of_le hb hbw.size)) (h2.map (fun _ hp => hbw.cell hp) (fun b hb => Nat.lt_of_lt_of_le hb hbw.size)) hx
  rw [← hv.out] at C
  replace C := Lib.hid C
  repeat' ((fail_if_success at_builtin); (first | go_skip | go_guarded | go_step))
  refine C.out.mono ?_
  clear C
  rintro e w1 ⟨rfl, hb1⟩
  dsimp only
  clear hbw
  have zw1 := hb1.size
  have hO2 : OwnB w w1 [(w.heap.size, [.string x.name, .string x.text, .int .i64 x.level, .slice A1 x.refs.length c1, .slice A2 x.envs.length c2])] := hO1.kept hb1
  clear c0_0 c0_1 c0_2 c0_3 c0_4 cf0 hO1
  have c0_0 : w1.cell? ⟨w.heap.size, 0, none⟩ = some (.string x.name) := hO2.c 0 0
  have c0_1 : w1.cell? ⟨w.heap.size, 1, none⟩ = some (.string x.text) := hO2.c 0 1
  have c0_2 : w1.cell? ⟨w.heap.size, 2, none⟩ = some (.int .i64 x.level) := hO2.c 0 2
  have c0_3 : w1.cell? ⟨w.heap.size, 3, none⟩ = some (.slice A1 x.refs.length c1) := hO2.c 0 3
  have c0_4 : w1.cell? ⟨w.heap.size, 4, none⟩ = some (.slice A2 x.envs.length c2) := hO2.c 0 4
  have cf0 := hO2.fr 0
  have hbw := hO2.below
  by_cases hv0 : v = 0
  · subst hv0
    have C := refIndex_any x.name l A l.length c w1 (h.below hbw)
    replace C := Lib.hid C
    repeat' ((fail_if_success at_builtin); (first | go_skip | go_guarded | go_step))
    refine C.out.mono ?_
    clear C
    rintro e w2 ⟨rfl, hb2⟩
    dsimp only
    clear hbw
    have zw2 := hb2.size
    have hO3 : OwnB w w2 [(w.heap.size, [.string x.name, .string x.text, .int .i64 x.level, .slice A1 x.refs.length c1, .slice A2 x.envs.length c2])] := hO2.kept hb2
    clear c0_0 c0_1 c0_2 c0_3 c0_4 cf0 hO2
    have c0_0 : w2.cell? ⟨w.heap.size, 0, none⟩ = some (.string x.name) := hO3.c 0 0
    have c0_1 : w2.cell? ⟨w.heap.size, 1, none⟩ = some (.string x.text) := hO3.c 0 1
    have c0_2 : w2.cell? ⟨w.heap.size, 2, none⟩ = some (.int .i64 x.level) := hO3.c 0 2
    have c0_3 : w2.cell? ⟨w.heap.size, 3, none⟩ = some (.slice A1 x.refs.length c1) := hO3.c 0 3
    have c0_4 : w2.cell? ⟨w.heap.size, 4, none⟩ = some (.slice A2 x.envs.length c2) := hO3.c 0 4
    have cf0 := hO3.fr 0
    have hbw := hO3.below
    have hrl := (h.rd.below rSec_ok hbw)
    by_cases hp : posA (sameN x.nm) l < l.length
    · have hi : posI (sameN x.nm) l = ((posA (sameN x.nm) l : Nat) : Int) := by unfold posI; rw [if_pos hp]
      have hE := putE_hit hp
      have hL := putL_hit hp
      generalize posA (sameN x.nm) l = i at *
      rw [hi]
      have i0 : (0 : Int) ≤ (i : Int) := by omega
      have i1 : (i : Int) < (l.length : Int) := by omega
      have hR0 := OwnR.empty (r := rSec) (sz := 5) w2 secT
      have hba := (Below.refl w2.heap.size w2).alloc (Nat.le_refl _) (.cells #[] secT)
      have hby : (([] : List Sec).length + l.length) * 88 ≤ 140737488355328 := by simp; omega
      have hxs := (hrl.below rSec_ok (hba.mono hbw.size)).more rSec_ok (S' := Beh (w2.alloc (.cells #[] secT)) (.slice (some ⟨w2.heap.size, 0, none⟩) 0 0)) (fun b hb => beh_old hR0 (Nat.lt_of_lt_of_le hb hbw.size))
      replace hE := Lib.hid hE
      replace hL := Lib.hid hL
      replace hxs := Lib.hid hxs
      clear hrl hi
      repeat' ((fail_if_success at_builtin); (first | go_skip | go_guarded | go_step))
      refine wp_appRS rSec_ok rSec_RdOne hR0 (Below.refl _ _) hxs.out Tryd.underlying27 sec_info hby ?_
      intro v4 w4 hR4
      rw [List.nil_append] at hR4
      obtain ⟨A4, c4, rfl⟩ := hR4.form
      have hb4 := hR4.bel
      clear hR0 hba hxs hby hbw
      have hw2s := hO3.below.size
      have zw4 := hb4.size
      have hO4 : OwnB w w4 [(w.heap.size, [.string x.name, .string x.text, .int .i64 x.level, .slice A1 x.refs.length c1, .slice A2 x.envs.length c2])] := hO3.kept hb4
      clear c0_0 c0_1 c0_2 c0_3 c0_4 cf0 hO3
      have c0_0 : w4.cell? ⟨w.heap.size, 0, none⟩ = some (.string x.name) := hO4.c 0 0
      have c0_1 : w4.cell? ⟨w.heap.size, 1, none⟩ = some (.string x.text) := hO4.c 0 1
      have c0_2 : w4.cell? ⟨w.heap.size, 2, none⟩ = some (.int .i64 x.level) := hO4.c 0 2
      have c0_3 : w4.cell? ⟨w.heap.size, 3, none⟩ = some (.slice A1 x.refs.length c1) := hO4.c 0 3
      have c0_4 : w4.cell? ⟨w.heap.size, 4, none⟩ = some (.slice A2 x.envs.length c2) := hO4.c 0 4
      have cf0 := hO4.fr 0
      have hbw := hO4.below
      obtain ⟨g, rfl, hg1, hg2, yf⟩ := hR4.head rfl (by omega)
      have hrd := rSec_ok _ _ _ (Beh w4 (.slice (some ⟨g, 0, none⟩) l.length c4)) _ _ (fun _ _ => rfl) (fun b hb => beh_old hR4 (Nat.lt_of_lt_of_le hb hw2s)) (sec_rd (h1.map (S' := fun b => b < w.heap.size) (fun _ hp => hbw.cell hp) (fun b hb => hb)) (h2.map (S' := fun b => b < w.heap.size) (fun _ hp => hbw.cell hp) (fun b hb => hb)))
      have hfin := hR4.set rSec_ok (by omega) rfl hp hrd rfl
      obtain ⟨y, hy⟩ : ∃ y, l[i]? = some y := ⟨_, List.getElem?_eq_getElem hp⟩
      obtain ⟨g', o', a1, k1, a2, k2, hge, _, hSA⟩ := sec_at (hR4.slice rSec_ok) hy
      obtain ⟨rfl, rfl⟩ : g' = g ∧ o' = 0 := by injection hge with hge; injection hge with h1 h2; exact ⟨h1.symm, h2.symm⟩
      have y0 := hSA.e0
      have y1 := hSA.e1
      have y2 := hSA.e2
      have y3 := hSA.e3
      have y4 := hSA.e4
      rw [Nat.zero_add] at y0 y1 y2 y3 y4
      have hlen : l.length = (l.set i x).length := by rw [List.length_set]
      have hsl : RSlice rSec 5 (w4.setCells g' (i * 5) [.string x.name, .string x.text, .int .i64 x.level, .slice A1 x.refs.length c1, .slice A2 x.envs.length c2]) (fun b => b < (w4.setCells g' (i * 5) [.string x.name, .string x.text, .int .i64 x.level, .slice A1 x.refs.length c1, .slice A2 x.envs.length c2]).heap.size) (some ⟨g', 0, none⟩) l.length c4 (l.set i x) := by
        rw [hlen] at hfin ⊢
        exact hfin.slice rSec_ok
      have hbg := setCells_below (g := g') (B := w.heap.size) (by have := hg1; omega) [.string x.name, .string x.text, .int .i64 x.level, .slice A1 x.refs.length c1, .slice A2 x.envs.length c2] (i * 5) w4 hbw
      replace hsl := Lib.hid hsl
      replace hbg := Lib.hid hbg
      clear hfin hR4 hrd hSA hlen hy hp
      repeat' ((fail_if_success at_builtin); (first | go_skip | go_guarded | go_step))
      go_ret2
      exact ret_ok hE.out hL.out hsl.out hbg.out
    · have hi : posI (sameN x.nm) l = -1 := by unfold posI; rw [if_neg hp]
      rw [hi]
      clear hi
      by_cases h64 : 64 ≤ l.length
      · have hE := putE_full hp h64
        have h64' : (64 : Int) ≤ (l.length : Int) := by omega
        have hs3 := (h.below hbw).rd
        replace hE := Lib.hid hE
        replace hs3 := Lib.hid hs3
        clear hrl
        repeat' ((fail_if_success at_builtin); (first | go_skip | go_guarded | go_step))
        go_ret2
        exact ret_err hE.out (by decide) hs3.out hbw
      · have hE := putE_new hp h64
        have hL := putL_new hp
        have h64' : ¬ (64 : Int) ≤ (l.length : Int) := by omega
        obtain ⟨f, hf⟩ : ∃ f, f = aftN x.nm := ⟨_, rfl⟩
        rw [← hf] at hL
        replace hE := Lib.hid hE
        replace hL := Lib.hid hL
        replace hf := Lib.hid hf
        clear hrl hp
        repeat' ((fail_if_success at_builtin); (first | go_skip | go_guarded | go_step))
        go_loopw [9] (fun u9 wr => ∃ i : Nat, i ≤ l.length ∧ u9 = .int .i64 (i : Int) ∧ Below w2.heap.size w2 wr ∧ posA f l = i + posA f (l.drop i)) (fun u9 _ => l.length - (intOf u9).toNat)
        case atStart => exact ⟨0, by omega, rfl, Below.refl _ _, by simp⟩
        case round =>
          obtain ⟨i, hi, rfl, hbr, hq⟩ := hrel
          have i0 : (0 : Int) ≤ (i : Int) := by omega
          have i2 : IntKind.i64.wrap ((i : Int) + 1) = (i : Int) + 1 := IntWalk.i64_in _ (by omega)
          have i3 : (i : Int) ≤ (c : Int) := by omega
          have i4 : (i : Int) ≤ (l.length : Int) := by omega
          have i5 : (l.length : Int) ≤ (c : Int) := by omega
          clear hbw
          have zwr := hbr.size
          have hO4 : OwnB w wr [(w.heap.size, [.string x.name, .string x.text, .int .i64 x.level, .slice A1 x.refs.length c1, .slice A2 x.envs.length c2])] := hO3.kept hbr
          clear c0_0 c0_1 c0_2 c0_3 c0_4 cf0 hO3
          have c0_0 : wr.cell? ⟨w.heap.size, 0, none⟩ = some (.string x.name) := hO4.c 0 0
          have c0_1 : wr.cell? ⟨w.heap.size, 1, none⟩ = some (.string x.text) := hO4.c 0 1
          have c0_2 : wr.cell? ⟨w.heap.size, 2, none⟩ = some (.int .i64 x.level) := hO4.c 0 2
          have c0_3 : wr.cell? ⟨w.heap.size, 3, none⟩ = some (.slice A1 x.refs.length c1) := hO4.c 0 3
          have c0_4 : wr.cell? ⟨w.heap.size, 4, none⟩ = some (.slice A2 x.envs.length c2) := hO4.c 0 4
          have cf0 := hO4.fr 0
          have hbw := hO4.below
          by_cases hlt : i < l.length
          · have i1 : (i : Int) < (l.length : Int) := by omega
            obtain ⟨y, hy⟩ : ∃ y, l[i]? = some y := ⟨_, List.getElem?_eq_getElem (by omega)⟩
            have hyw := (h.each y (List.mem_of_getElem? hy)).name
            have hxw := hx.name
            obtain ⟨g, o, a1, k1, a2, k2, rfl, hg, hSA⟩ := sec_at h.rd hy
            have hS2 := hSA.below hg hbw
            have y0 := hS2.e0
            clear hSA hS2
            have hS0 : (Below wr.heap.size wr wr ∧ wr.cell? ⟨g, o + i * 5, none⟩ = some (.string y.name) ∧ wr.cell? ⟨w.heap.size, 0, none⟩ = some (.string x.name)) := ⟨Below.refl _ _, y0, c0_0⟩
            have hgl : g < wr.heap.size := Nat.lt_of_lt_of_le hg hbw.size
            have hpl : w.heap.size < wr.heap.size := hO4.lt 0
            have keepS : ∀ v1 v2 : World, (Below wr.heap.size wr v1 ∧ v1.cell? ⟨g, o + i * 5, none⟩ = some (.string y.name) ∧ v1.cell? ⟨w.heap.size, 0, none⟩ = some (.string x.name)) → Below v1.heap.size v1 v2 → (Below wr.heap.size wr v2 ∧ v2.cell? ⟨g, o + i * 5, none⟩ = some (.string y.name) ∧ v2.cell? ⟨w.heap.size, 0, none⟩ = some (.string x.name)) := fun v1 v2 h hb => ⟨h.1.trans (hb.mono h.1.size), (hb.cell (p := ⟨g, _, none⟩) (Nat.lt_of_lt_of_le hgl h.1.size)).trans h.2.1, (hb.cell (p := ⟨w.heap.size, _, none⟩) (Nat.lt_of_lt_of_le hpl h.1.size)).trans h.2.2⟩
            have hS1 : (Below wr.heap.size wr wr.drew ∧ wr.drew.cell? ⟨g, o + i * 5, none⟩ = some (.string y.name) ∧ wr.drew.cell? ⟨w.heap.size, 0, none⟩ = some (.string x.name)) := keepS _ _ hS0 ((Below.refl _ _).drew)
            replace keepS := Lib.hid keepS
            clear hS0 y0
            go_upto_region 12 with (fail)
            refine wp_region_held_drew (S := fun w' => Below wr.heap.size wr w' ∧ w'.cell? ⟨g, o + i * 5, none⟩ = some (.string y.name) ∧ w'.cell? ⟨w.heap.size, 0, none⟩ = some (.string x.name)) (by kernel_rfl) ?_ (fun hHeld => ?_)
            · (try dsimp only)
              exact hS1
            refine tkY 0 (v := ?v22) rfl (.inl ⟨by rfl, ?hy22⟩) ?hr22
            case hy22 => (intro w hSw; (try dsimp only at hSw); go_simp; try with_reducible rfl)
            simp only [Act.put, List.getElem_toArray, List.getElem_cons_zero, List.setIfInBounds_toArray, List.set_cons_zero, List.set_cons_succ]
            refine tkY 1 (v := ?v23) rfl (.inl ⟨by rfl, ?hy23⟩) ?hr23
            case hy23 => (intro w hSw; (try dsimp only at hSw); go_simp; try with_reducible rfl)
            simp only [Act.put, List.getElem_toArray, List.getElem_cons_zero, List.getElem_cons_succ, List.setIfInBounds_toArray, List.set_cons_zero, List.set_cons_succ]
            refine tkY 2 (v := ?v24) rfl (.inl ⟨by rfl, ?hy24⟩) ?hr24
            case hy24 => (intro w hSw; (try dsimp only at hSw); go_simp; try with_reducible rfl)
            simp only [Act.put, List.getElem_toArray, List.getElem_cons_zero, List.getElem_cons_succ, List.setIfInBounds_toArray, List.set_cons_zero, List.set_cons_succ]
            refine tkY 3 (v := ?v25) rfl (.inl ⟨by rfl, ?hy25⟩) ?hr25
            case hy25 => (intro w hSw; (try dsimp only at hSw); go_simp; try with_reducible rfl)
            simp only [Act.put, List.getElem_toArray, List.getElem_cons_zero, List.getElem_cons_succ, List.setIfInBounds_toArray, List.set_cons_zero, List.set_cons_succ]
            refine tkY 4 (v := ?v26) rfl (.inl ⟨by rfl, ?hy26⟩) ?hr26
            case hy26 => (intro w hSw; (try dsimp only at hSw); go_simp; try with_reducible rfl)
            simp only [Act.put, List.getElem_toArray, List.getElem_cons_zero, List.getElem_cons_succ, List.setIfInBounds_toArray, List.set_cons_zero, List.set_cons_succ]
            refine tkY 5 (v := ?v27) rfl (.inl ⟨by rfl, ?hy27⟩) ?hr27
            case hy27 => (intro w hSw; (try dsimp only at hSw); go_simp; try with_reducible rfl)
            simp only [Act.put, List.getElem_toArray, List.getElem_cons_zero, List.getElem_cons_succ, List.setIfInBounds_toArray, List.set_cons_zero, List.set_cons_succ]
            refine tkY 6 (v := ?v28) rfl (.inl ⟨by rfl, ?hy28⟩) ?hr28
            case hy28 => (intro w hSw; (try dsimp only at hSw); go_simp; try with_reducible rfl)
            simp only [Act.put, List.getElem_toArray, List.getElem_cons_zero, List.getElem_cons_succ, List.setIfInBounds_toArray, List.set_cons_zero, List.set_cons_succ]
            refine tkY 7 (v := ?v29) rfl (.inl ⟨by rfl, ?hy29⟩) ?hr29
            case hy29 => (intro w hSw; (try dsimp only at hSw); go_simp; try with_reducible rfl)
            simp only [Act.put, List.getElem_toArray, List.getElem_cons_zero, List.getElem_cons_succ, List.setIfInBounds_toArray, List.set_cons_zero, List.set_cons_succ]
            refine tkY 8 (v := ?v30) rfl (.inl ⟨by rfl, ?hy30⟩) ?hr30
            case hy30 => (intro w hSw; (try dsimp only at hSw); go_simp; try with_reducible rfl)
            simp only [Act.put, List.getElem_toArray, List.getElem_cons_zero, List.getElem_cons_succ, List.setIfInBounds_toArray, List.set_cons_zero, List.set_cons_succ]
            refine tkY 9 (v := ?v31) rfl (.inl ⟨by rfl, ?hy31⟩) ?hr31
            case hy31 => (intro w hSw; (try dsimp only at hSw); go_simp; try with_reducible rfl)
            simp only [Act.put, List.getElem_toArray, List.getElem_cons_zero, List.getElem_cons_succ, List.setIfInBounds_toArray, List.set_cons_zero, List.set_cons_succ]
            refine tkY 10 (v := ?v32) rfl (.inl ⟨by rfl, ?hy32⟩) ?hr32
            case hy32 => (intro w hSw; (try dsimp only at hSw); go_simp; try with_reducible rfl)
            simp only [Act.put, List.getElem_toArray, List.getElem_cons_zero, List.getElem_cons_succ, List.setIfInBounds_toArray, List.set_cons_zero, List.set_cons_succ]
            refine tkY 11 (v := ?v33) rfl (.inl ⟨by rfl, ?hy33⟩) ?hr33
            case hy33 => (intro w hSw; (try dsimp only at hSw); go_simp; try with_reducible rfl)
            simp only [Act.put, List.getElem_toArray, List.getElem_cons_zero, List.getElem_cons_succ, List.setIfInBounds_toArray, List.set_cons_zero, List.set_cons_succ]
            refine wpAnyH_ready (rs := [12]) (by kernel_rfl) (by simp) ?_
            refine AllReadyH.cons rfl (fun K hK => ?_) AllReadyH.nil
            go_simp
            go_at_call 40
            refine (refCompare_any y.name x.name _ (by omega) (by omega)).mono ?_
            rintro e r1 ⟨rfl, hbq⟩
            dsimp only
            refine hK.out _ _ ?_ (fun hHeld => ?_)
            · (try dsimp only)
              exact keepS.out _ _ hHeld hbq
            clear hK K
            try simp only [Act.put, List.getElem_toArray, List.getElem_cons_zero, List.getElem_cons_succ, List.setIfInBounds_toArray, List.set_cons_zero, List.set_cons_succ]
            refine tkY 13 (v := ?v34) rfl (.inl ⟨by rfl, ?hy34⟩) ?hr34
            case hy34 => (intro w hSw; (try dsimp only at hSw); go_simp; try with_reducible rfl)
            simp only [Act.put, List.getElem_toArray, List.getElem_cons_zero, List.getElem_cons_succ, List.setIfInBounds_toArray, List.set_cons_zero, List.set_cons_succ]
            refine tkY 14 (v := ?v35) rfl (.inl ⟨by rfl, ?hy35⟩) ?hr35
            case hy35 => (intro w hSw; (try dsimp only at hSw); go_simp; try with_reducible rfl)
            simp only [Act.put, List.getElem_toArray, List.getElem_cons_zero, List.getElem_cons_succ, List.setIfInBounds_toArray, List.set_cons_zero, List.set_cons_succ]
            refine wpAnyH_done (by kernel_rfl) ?_ _
            have hbW := hHeld.1
            clear hHeld hS1 keepS hbw
            have zr1 := hbW.size
            have hO5 : OwnB w r1 [(w.heap.size, [.string x.name, .string x.text, .int .i64 x.level, .slice A1 x.refs.length c1, .slice A2 x.envs.length c2])] := hO4.kept hbW
            clear c0_0 c0_1 c0_2 c0_3 c0_4 cf0 hO4
            have c0_0 : r1.cell? ⟨w.heap.size, 0, none⟩ = some (.string x.name) := hO5.c 0 0
            have c0_1 : r1.cell? ⟨w.heap.size, 1, none⟩ = some (.string x.text) := hO5.c 0 1
            have c0_2 : r1.cell? ⟨w.heap.size, 2, none⟩ = some (.int .i64 x.level) := hO5.c 0 2
            have c0_3 : r1.cell? ⟨w.heap.size, 3, none⟩ = some (.slice A1 x.refs.length c1) := hO5.c 0 3
            have c0_4 : r1.cell? ⟨w.heap.size, 4, none⟩ = some (.slice A2 x.envs.length c2) := hO5.c 0 4
            have cf0 := hO5.fr 0
            have hbw := hO5.below
            have hbr1 := hbr.trans (hbW.mono hbr.size)
            by_cases hc : f y = true
            · have hc' : ¬ cmpN y.name.data.toList x.name.data.toList ≤ 0 := by
                rw [hf.out] at hc
                unfold aftN at hc
                have := of_decide_eq_true hc
                unfold Sec.nm at this
                omega
              have hpi : posA f l = i := by
                have h1 := posA_hit hy hq hc
                unfold posI at h1
                split at h1 <;> omega
              clear hc hy hq
              generalize cmpN y.name.data.toList x.name.data.toList = q at *
              clear hbw
              have hbw := hO5.below
              have hbW0 := hbw
              have hrl := h.rd.below rSec_ok hbw
              have hR0 := OwnR.empty (r := rSec) (sz := 5) r1 secT
              have hba := (Below.refl r1.heap.size r1).alloc (Nat.le_refl _) (.cells #[] secT)
              have hby : (([] : List Sec).length + i) * 88 ≤ 140737488355328 := by simp; omega
              have hxs := ((h.below (hbw.trans (hba.mono hbw.size))).rd.take hi).more rSec_ok (S' := fun b => b < (r1.alloc (.cells #[] secT)).heap.size) (fun b hb => hb)
              have hxs2 := ((h.rd.take hi).below rSec_ok (hbw.trans (hba.mono hbw.size))).more rSec_ok (S' := Beh (r1.alloc (.cells #[] secT)) (.slice (some ⟨r1.heap.size, 0, none⟩) 0 0)) (fun b hb => beh_old hR0 (Nat.lt_of_lt_of_le hb hbw.size))
              clear hxs
              have hxd := h.rd.drop hi
              have hci : ¬ c = i := by omega
              rw [if_neg hci] at hxd
              simp only [Option.map_some, Addr.add_lit] at hxd
              replace hxs2 := Lib.hid hxs2
              replace hxd := Lib.hid hxd
              clear hrl
              repeat' ((fail_if_success at_builtin); (first | go_skip | go_guarded | go_step))
              refine wp_appRS rSec_ok rSec_RdOne hR0 (Below.refl _ _) hxs2.out Tryd.underlying27 sec_info hby ?_
              intro v4 w4 hR4
              rw [List.nil_append] at hR4
              obtain ⟨A4, c4, rfl⟩ := hR4.form
              have hb4 := hR4.bel
              have hlt : (l.take i).length = i := by rw [List.length_take]; omega
              rw [hlt] at hR4 ⊢
              have hws := hbw.size
              clear hR0 hba hxs2 hby hbw
              have zw4 := hb4.size
              have hO6 : OwnB w w4 [(w.heap.size, [.string x.name, .string x.text, .int .i64 x.level, .slice A1 x.refs.length c1, .slice A2 x.envs.length c2])] := hO5.kept hb4
              clear c0_0 c0_1 c0_2 c0_3 c0_4 cf0 hO5
              have c0_0 : w4.cell? ⟨w.heap.size, 0, none⟩ = some (.string x.name) := hO6.c 0 0
              have c0_1 : w4.cell? ⟨w.heap.size, 1, none⟩ = some (.string x.text) := hO6.c 0 1
              have c0_2 : w4.cell? ⟨w.heap.size, 2, none⟩ = some (.int .i64 x.level) := hO6.c 0 2
              have c0_3 : w4.cell? ⟨w.heap.size, 3, none⟩ = some (.slice A1 x.refs.length c1) := hO6.c 0 3
              have c0_4 : w4.cell? ⟨w.heap.size, 4, none⟩ = some (.slice A2 x.envs.length c2) := hO6.c 0 4
              have cf0 := hO6.fr 0
              have hbw := hO6.below
              have hrd := rSec_ok _ _ _ (Beh w4 (.slice A4 i c4)) _ _ (fun _ _ => rfl) (fun b hb => beh_old hR4 (Nat.lt_of_lt_of_le hb hws)) (sec_rd (h1.map (S' := fun b => b < w.heap.size) (fun _ hp => hbw.cell hp) (fun b hb => hb)) (h2.map (S' := fun b => b < w.heap.size) (fun _ hp => hbw.cell hp) (fun b hb => hb)))
              have hby : ((l.take i).length + 1) * 88 ≤ 140737488355328 := by omega
              replace hlt := Lib.hid hlt
              repeat' ((fail_if_success at_builtin); (first | go_skip | go_guarded | go_step))
              refine wp_appR1 rSec_ok (cs := #[.string x.name, .string x.text, .int .i64 x.level, .slice A1 x.refs.length c1, .slice A2 x.envs.length c2]) hR4 (Below.refl _ _) hrd Tryd.underlying27 sec_info hby ?_
              intro v5 w5 hR5
              obtain ⟨A5, c5, rfl⟩ := hR5.form
              have hl5 : (l.take i ++ [x]).length = i + 1 := by rw [List.length_append, hlt.out]; rfl
              rw [hl5] at hR5 ⊢
              have hb5 := hR5.bel
              have hbw5 := hbW0.trans (hb5.mono hbW0.size)
              have hxe := (hxd.out.below rSec_ok hbw5).more rSec_ok (S' := Beh w5 (.slice A5 (i + 1) c5)) (fun b hb => beh_old hR5 (Nat.lt_of_lt_of_le hb hws))
              have hby2 : ((l.take i ++ [x]).length + (l.length - i)) * 88 ≤ 140737488355328 := by rw [hl5]; omega
              clear hR4 hrd hby hxd hl5
              replace hxe := Lib.hid hxe
              repeat' ((fail_if_success at_builtin); (first | go_skip | go_guarded | go_step))
              refine wp_appRS rSec_ok rSec_RdOne hR5 (Below.refl _ _) hxe.out Tryd.underlying27 sec_info hby2 ?_
              intro v6 w6 hR6
              obtain ⟨A6, c6, rfl⟩ := hR6.form
              have hbf := hbW0.trans (hR6.bel.mono hbW0.size)
              have hL2 := hL.out
              rw [hpi] at hL2
              have hs6 := hR6.slice rSec_ok
              generalize (l.take i ++ [x] ++ l.drop i).length = N6 at hs6 ⊢
              clear hR5 hxe hby2 hR6
              replace hL2 := Lib.hid hL2
              replace hs6 := Lib.hid hs6
              repeat' ((fail_if_success at_builtin); (first | go_skip | go_guarded | go_step))
              go_ret2
              exact ret_ok hE.out (by rw [hL2.out, List.append_assoc]; rfl) hs6.out hbf
            · have hc0 : f y = false := by simpa using hc
              have hc' : cmpN y.name.data.toList x.name.data.toList ≤ 0 := by
                rw [hf.out] at hc0
                unfold aftN at hc0
                have := of_decide_eq_false hc0
                unfold Sec.nm at this
                omega
              have hr := posA_miss hy hq hc0
              clear hc hc0 hy hq
              generalize cmpN y.name.data.toList x.name.data.toList = q at *
              replace hr := Lib.hid hr
              repeat' ((fail_if_success at_builtin); (first | go_skip | go_guarded | go_step))
              go_roundw
              case rel => exact ⟨i + 1, by omega, by first | rfl | go_num, hbr1, hr.out⟩
              case measure => (try go_num); (try simp [intOf]); (try omega)
          · have i1 : ¬ (i : Int) < (l.length : Int) := by omega
            have hpi : posA f l = i := by
              rw [List.drop_of_length_le (by omega)] at hq
              have : posA f [] = 0 := rfl
              omega
            clear hq
            have hS0 : (Below wr.heap.size wr wr ∧ True) := ⟨Below.refl _ _, trivial⟩
            have keepS : ∀ v1 v2 : World, (Below wr.heap.size wr v1 ∧ True) → Below v1.heap.size v1 v2 → (Below wr.heap.size wr v2 ∧ True) := fun v1 v2 h hb => ⟨h.1.trans (hb.mono h.1.size), trivial⟩
            have hS1 : (Below wr.heap.size wr wr.drew ∧ True) := keepS _ _ hS0 ((Below.refl _ _).drew)
            replace keepS := Lib.hid keepS
            clear hS0
            go_upto_region 12 with (fail)
            refine wp_region_held_drew (S := fun w' => (Below wr.heap.size wr w' ∧ True)) (by kernel_rfl) ?_ (fun hHeld => ?_)
            · (try dsimp only)
              exact hS1
            refine tkY 0 (v := ?v36) rfl (.inl ⟨by rfl, ?hy36⟩) ?hr36
            case hy36 => (intro w hSw; (try dsimp only at hSw); go_simp; try with_reducible rfl)
            simp only [Act.put, List.getElem_toArray, List.getElem_cons_zero, List.setIfInBounds_toArray, List.set_cons_zero, List.set_cons_succ]
            refine tkY 1 (v := ?v37) rfl (.inl ⟨by rfl, ?hy37⟩) ?hr37
            case hy37 => (intro w hSw; (try dsimp only at hSw); go_simp; try with_reducible rfl)
            simp only [Act.put, List.getElem_toArray, List.getElem_cons_zero, List.getElem_cons_succ, List.setIfInBounds_toArray, List.set_cons_zero, List.set_cons_succ]
            refine tkY 2 (v := ?v38) rfl (.inl ⟨by rfl, ?hy38⟩) ?hr38
            case hy38 => (intro w hSw; (try dsimp only at hSw); go_simp; try with_reducible rfl)
            simp only [Act.put, List.getElem_toArray, List.getElem_cons_zero, List.getElem_cons_succ, List.setIfInBounds_toArray, List.set_cons_zero, List.set_cons_succ]
            refine tkY 3 (v := ?v39) rfl (.inl ⟨by rfl, ?hy39⟩) ?hr39
            case hy39 => (intro w hSw; (try dsimp only at hSw); go_simp; try with_reducible rfl)
            simp only [Act.put, List.getElem_toArray, List.getElem_cons_zero, List.getElem_cons_succ, List.setIfInBounds_toArray, List.set_cons_zero, List.set_cons_succ]
            refine tkY 4 (v := ?v40) rfl (.inl ⟨by rfl, ?hy40⟩) ?hr40
            case hy40 => (intro w hSw; (try dsimp only at hSw); go_simp; try with_reducible rfl)
            simp only [Act.put, List.getElem_toArray, List.getElem_cons_zero, List.getElem_cons_succ, List.setIfInBounds_toArray, List.set_cons_zero, List.set_cons_succ]
            refine tkN 5 rfl ?_
            simp only [Act.put, List.getElem_toArray, List.getElem_cons_zero, List.getElem_cons_succ, List.setIfInBounds_toArray, List.set_cons_zero, List.set_cons_succ]
            refine tkN 6 rfl ?_
            simp only [Act.put, List.getElem_toArray, List.getElem_cons_zero, List.getElem_cons_succ, List.setIfInBounds_toArray, List.set_cons_zero, List.set_cons_succ]
            refine tkN 7 rfl ?_
            simp only [Act.put, List.getElem_toArray, List.getElem_cons_zero, List.getElem_cons_succ, List.setIfInBounds_toArray, List.set_cons_zero, List.set_cons_succ]
            refine tkN 8 rfl ?_
            simp only [Act.put, List.getElem_toArray, List.getElem_cons_zero, List.getElem_cons_succ, List.setIfInBounds_toArray, List.set_cons_zero, List.set_cons_succ]
            refine tkN 9 rfl ?_
            simp only [Act.put, List.getElem_toArray, List.getElem_cons_zero, List.getElem_cons_succ, List.setIfInBounds_toArray, List.set_cons_zero, List.set_cons_succ]
            refine tkN 10 rfl ?_
            simp only [Act.put, List.getElem_toArray, List.getElem_cons_zero, List.getElem_cons_succ, List.setIfInBounds_toArray, List.set_cons_zero, List.set_cons_succ]
            refine tkN 11 rfl ?_
            simp only [Act.put, List.getElem_toArray, List.getElem_cons_zero, List.getElem_cons_succ, List.setIfInBounds_toArray, List.set_cons_zero, List.set_cons_succ]
            refine tkN 12 rfl ?_
            simp only [Act.put, List.getElem_toArray, List.getElem_cons_zero, List.getElem_cons_succ, List.setIfInBounds_toArray, List.set_cons_zero, List.set_cons_succ]
            refine tkN 13 rfl ?_
            simp only [Act.put, List.getElem_toArray, List.getElem_cons_zero, List.getElem_cons_succ, List.setIfInBounds_toArray, List.set_cons_zero, List.set_cons_succ]
            refine tkY 14 (v := ?v41) rfl (.inl ⟨by rfl, ?hy41⟩) ?hr41
            case hy41 => (intro w hSw; (try dsimp only at hSw); go_simp; try with_reducible rfl)
            simp only [Act.put, List.getElem_toArray, List.getElem_cons_zero, List.getElem_cons_succ, List.setIfInBounds_toArray, List.set_cons_zero, List.set_cons_succ]
            refine wpAnyH_done (by kernel_rfl) ?_ _
            have hbW := hHeld.1
            clear hHeld hS1 keepS hbw
            have zwr.drew := hbW.size
            have hO5 : OwnB w wr.drew [(w.heap.size, [.string x.name, .string x.text, .int .i64 x.level, .slice A1 x.refs.length c1, .slice A2 x.envs.length c2])] := hO4.kept hbW
            clear c0_0 c0_1 c0_2 c0_3 c0_4 cf0 hO4
            have c0_0 : wr.drew.cell? ⟨w.heap.size, 0, none⟩ = some (.string x.name) := hO5.c 0 0
            have c0_1 : wr.drew.cell? ⟨w.heap.size, 1, none⟩ = some (.string x.text) := hO5.c 0 1
            have c0_2 : wr.drew.cell? ⟨w.heap.size, 2, none⟩ = some (.int .i64 x.level) := hO5.c 0 2
            have c0_3 : wr.drew.cell? ⟨w.heap.size, 3, none⟩ = some (.slice A1 x.refs.length c1) := hO5.c 0 3
            have c0_4 : wr.drew.cell? ⟨w.heap.size, 4, none⟩ = some (.slice A2 x.envs.length c2) := hO5.c 0 4
            have cf0 := hO5.fr 0
            have hbw := hO5.below
            have hbW0 := hbw
            have hrl := h.rd.below rSec_ok hbw
            have hR0 := OwnR.empty (r := rSec) (sz := 5) wr.drew secT
            have hba := (Below.refl wr.drew.heap.size wr.drew).alloc (Nat.le_refl _) (.cells #[] secT)
            have hby : (([] : List Sec).length + i) * 88 ≤ 140737488355328 := by simp; omega
            have hxs := ((h.below (hbw.trans (hba.mono hbw.size))).rd.take hi).more rSec_ok (S' := fun b => b < (wr.drew.alloc (.cells #[] secT)).heap.size) (fun b hb => hb)
            have hxs2 := ((h.rd.take hi).below rSec_ok (hbw.trans (hba.mono hbw.size))).more rSec_ok (S' := Beh (wr.drew.alloc (.cells #[] secT)) (.slice (some ⟨wr.drew.heap.size, 0, none⟩) 0 0)) (fun b hb => beh_old hR0 (Nat.lt_of_lt_of_le hb hbw.size))
            clear hxs
            have hxd := h.rd.drop hi
            replace hxs2 := Lib.hid hxs2
            replace hxd := Lib.hid hxd
            clear hrl
            repeat' ((fail_if_success at_builtin); (first | go_skip | go_guarded | go_step))
            refine wp_appRS rSec_ok rSec_RdOne hR0 (Below.refl _ _) hxs2.out Tryd.underlying27 sec_info hby ?_
            intro v4 w4 hR4
            rw [List.nil_append] at hR4
            obtain ⟨A4, c4, rfl⟩ := hR4.form
            have hb4 := hR4.bel
            have hlt : (l.take i).length = i := by rw [List.length_take]; omega
            rw [hlt] at hR4 ⊢
            have hws := hbw.size
            clear hR0 hba hxs2 hby hbw
            have zw4 := hb4.size
            have hO6 : OwnB w w4 [(w.heap.size, [.string x.name, .string x.text, .int .i64 x.level, .slice A1 x.refs.length c1, .slice A2 x.envs.length c2])] := hO5.kept hb4
            clear c0_0 c0_1 c0_2 c0_3 c0_4 cf0 hO5
            have c0_0 : w4.cell? ⟨w.heap.size, 0, none⟩ = some (.string x.name) := hO6.c 0 0
            have c0_1 : w4.cell? ⟨w.heap.size, 1, none⟩ = some (.string x.text) := hO6.c 0 1
            have c0_2 : w4.cell? ⟨w.heap.size, 2, none⟩ = some (.int .i64 x.level) := hO6.c 0 2
            have c0_3 : w4.cell? ⟨w.heap.size, 3, none⟩ = some (.slice A1 x.refs.length c1) := hO6.c 0 3
            have c0_4 : w4.cell? ⟨w.heap.size, 4, none⟩ = some (.slice A2 x.envs.length c2) := hO6.c 0 4
            have cf0 := hO6.fr 0
            have hbw := hO6.below
            have hrd := rSec_ok _ _ _ (Beh w4 (.slice A4 i c4)) _ _ (fun _ _ => rfl) (fun b hb => beh_old hR4 (Nat.lt_of_lt_of_le hb hws)) (sec_rd (h1.map (S' := fun b => b < w.heap.size) (fun _ hp => hbw.cell hp) (fun b hb => hb)) (h2.map (S' := fun b => b < w.heap.size) (fun _ hp => hbw.cell hp) (fun b hb => hb)))
            have hby : ((l.take i).length + 1) * 88 ≤ 140737488355328 := by omega
            replace hlt := Lib.hid hlt
            repeat' ((fail_if_success at_builtin); (first | go_skip | go_guarded | go_step))
            refine wp_appR1 rSec_ok (cs := #[.string x.name, .string x.text, .int .i64 x.level, .slice A1 x.refs.length c1, .slice A2 x.envs.length c2]) hR4 (Below.refl _ _) hrd Tryd.underlying27 sec_info hby ?_
            intro v5 w5 hR5
            obtain ⟨A5, c5, rfl⟩ := hR5.form
            have hl5 : (l.take i ++ [x]).length = i + 1 := by rw [List.length_append, hlt.out]; rfl
            rw [hl5] at hR5 ⊢
            have hb5 := hR5.bel
            have hbw5 := hbW0.trans (hb5.mono hbW0.size)
            have hxe := (hxd.out.below rSec_ok hbw5).more rSec_ok (S' := Beh w5 (.slice A5 (i + 1) c5)) (fun b hb => beh_old hR5 (Nat.lt_of_lt_of_le hb hws))
            have hby2 : ((l.take i ++ [x]).length + (l.length - i)) * 88 ≤ 140737488355328 := by rw [hl5]; omega
            clear hR4 hrd hby hxd hl5
            replace hxe := Lib.hid hxe
            repeat' ((fail_if_success at_builtin); (first | go_skip | go_guarded | go_step))
            refine wp_appRS rSec_ok rSec_RdOne hR5 (Below.refl _ _) hxe.out Tryd.underlying27 sec_info hby2 ?_
            intro v6 w6 hR6
            obtain ⟨A6, c6, rfl⟩ := hR6.form
            have hbf := hbW0.trans (hR6.bel.mono hbW0.size)
            have hL2 := hL.out
            rw [hpi] at hL2
            have hs6 := hR6.slice rSec_ok
            generalize (l.take i ++ [x] ++ l.drop i).length = N6 at hs6 ⊢
            clear hR5 hxe hby2 hR6
            replace hL2 := Lib.hid hL2
            replace hs6 := Lib.hid hs6
            repeat' ((fail_if_success at_builtin); (first | go_skip | go_guarded | go_step))
            go_ret2
            exact ret_ok hE.out (by rw [hL2.out, List.append_assoc]; rfl) hs6.out hbf
  · have hE := putE_bad (l := l) (x := x) hv0
    have hv0' : (v == 0) = false := by simpa using hv0
    have hs2 := (h.below hbw).rd
    replace hE := Lib.hid hE
    replace hs2 := Lib.hid hs2
    repeat' ((fail_if_success at_builtin); (first | go_skip | go_guarded | go_step))
    go_ret2
    exact ret_err hE.out hv0 hs2.out hbw
end Go.Proofs.YtgloblokkejgmaaDoor
