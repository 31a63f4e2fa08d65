/- Deploy: copied. -/
import Derived.Test.YtennhjkhjplmoaaDoorDpO
namespace Go.Proofs.YtennhjkhjplmoaaDoor
open Go.RowKit
/-- 'copy' of elements of K cells -/
theorem run_copy_cellsK {P : Program} (w : World) (dT sT ty elem : TypeId) (b o dLen dCap : Nat) (a : Addr) (sLen sCap K : Nat) (cs : List Value)
    (hu : P.underlying dT = some (.slice elem)) (hs : (P.info? elem).map (·.size) = some K) (hn : cs.length = Nat.min sLen dLen * K)
    (hsrc : ∀ j v, cs[j]? = some v → w.cell? (a.add j) = some v) (hc : ∀ j, j < cs.length → (w.cell? ⟨b, o + j, none⟩).isSome = true) (hf : ∀ j, j < cs.length → w.frozen? ⟨b, o + j, none⟩ = false) (h1 : ∀ v ∈ cs, v.oneCell' = true) :
    (Builtin.copy_ #[dT, sT] ty #[.slice (some ⟨b, o, none⟩) dLen dCap, .slice (some a) sLen sCap]).run P w = .ok (goInt (Nat.min sLen dLen)) (w.setCells b o cs) := by
  have hl := run_loadCells_list (P := P) w a cs hsrc
  have hst := run_storeCells_cells (P := P) b o cs 0 w (by simpa using hc) (by simpa using hf) h1
  cases hq : P.info? elem with
  | none => simp [hq] at hs
  | some i =>
    have hi : i.size = K := by simpa [hq] using hs
    simp only [Nat.add_zero] at hst
    simp [Builtin.copy_, run_underlying hu, Builtin.lenOf, Builtin.firstCells, sizeOf, typeInfo, hq, hi, ← hn, hl, hst]
theorem drew_setCellsK (b : Nat) : ∀ (vs : List Value) (o : Nat) (w : World), (w.setCells b o vs).drew = w.drew.setCells b o vs
  | [], _, _ => rfl
  | v :: r, o, w => by rw [World.setCells, World.setCells, drew_setCellsK b r]; rfl
theorem isSome_setCellsK (b : Nat) (vs : List Value) (o : Nat) (w : World) (h : ∀ j, j < vs.length → (w.cell? ⟨b, o + j, none⟩).isSome = true) (k : Nat) (hk : (w.cell? ⟨b, k, none⟩).isSome = true) : ((w.setCells b o vs).cell? ⟨b, k, none⟩).isSome = true := by
  by_cases hin : o ≤ k ∧ k < o + vs.length
  · have := World.cell?_setCells_in b vs o w h (k - o) (by omega)
    rw [show o + (k - o) = k by omega] at this
    rw [this]; rfl
  · rw [World.cell?_setCells_out b vs o w ⟨b, k, none⟩ (fun _ _ => by show k < o ∨ o + vs.length ≤ k; omega)]
    exact hk
theorem grow_setCellsK {a : World} {g : Nat} : ∀ (vs : List Value) (o : Nat) (w : World), a.grownBy w (some g) → a.grownBy (w.setCells g o vs) (some g)
  | [], _, _, h => h
  | v :: r, o, _, h => grow_setCellsK r (o + 1) _ (Lib.grownBy_setB h o v)
theorem ins_getK {cs vs : List Value} {p k : Nat} (hp : p ≤ cs.length) (hv : vs.length = k) (j : Nat) : (cs.take p ++ vs ++ cs.drop p)[j]? = if j < p then cs[j]? else if j < p + k then vs[j - p]? else cs[j - k]? := by
  have h1 : (cs.take p).length = p := by rw [List.length_take]; omega
  by_cases a1 : j < p
  · rw [if_pos a1, List.append_assoc, List.getElem?_append_left (by omega), List.getElem?_take_of_lt a1]
  · rw [if_neg a1]
    by_cases a2 : j < p + k
    · rw [if_pos a2, List.getElem?_append_left (by rw [List.length_append]; omega), List.getElem?_append_right (by omega), h1]
    · rw [if_neg a2, List.getElem?_append_right (by rw [List.length_append]; omega), List.length_append, h1, List.getElem?_drop]
      congr 1
      omega
theorem run_copy_none {P : Program} (w : World) (dT sT ty elem : TypeId) (a : Option Addr) (c d : Nat) (hu : P.underlying dT = some (.slice elem)) (hs : ∃ i, P.info? elem = some i) :
    (Builtin.copy_ #[dT, sT] ty #[.slice a 0 d, .slice none 0 c]).run P w = .ok (goInt 0) w := by
  obtain ⟨i, hi⟩ := hs
  simp [Builtin.copy_, run_underlying hu, Builtin.lenOf, Builtin.firstCells, sizeOf, typeInfo, hi, storeCells]
  cases a <;> simp
set_option maxRecDepth 100000 in
set_option maxHeartbeats 2000000 in
theorem env_copy (l : List Env) (A : Option Addr) (n c : Nat) (w : World) (cs : List Value) (hn : l.length = n) (hl : n ≤ 1000000) (hc : n ≤ c) (hnil : A = none → c = 0) (hseq : SeqP w (fun b => b < w.heap.size) 5 A n cs) (h1 : ∀ u ∈ cs, u.oneCell' = true) :
    ∃ w1 w2, (Instr.makeSlice 22 (.int .i64 (n : Int)) (.int .i64 (n : Int))).run Tryd.prog w = .ok (.slice (some ⟨w.heap.size, 0, none⟩) n n) w1 ∧
      (∀ ty, (Builtin.copy_ #[22, 22] ty #[.slice (some ⟨w.heap.size, 0, none⟩) n n, .slice A n c]).run Tryd.prog w1 = .ok (goInt n) w2) ∧ EP w w2 w.heap.size n n 0 [] cs := by
  obtain ⟨i0, hi0, hz0, hzs, hzb⟩ := info_parts env_info
  obtain ⟨w1, hmk, hown, hgr⟩ := run_make_full w w.heap.size 22 envT i0 _ 5 Tryd.underlying22 hi0 hz0 hzs .i64 .i64 n (by rw [hzb]; omega) (by unfold maxLen; omega) (Nat.le_refl _)
  have hb1 : Below w.heap.size w w1 := (Below.refl _ _).grown hgr (Nat.le_refl _) (fun k hk => by cases hk)
  have H0 : Own w w1 envT 5 (.slice (some ⟨w.heap.size, 0, none⟩) n n) n _ := ⟨hown, hb1⟩
  have hcl : cs.length = n * 5 := hseq.1
  have hml : (madeCells (Value.agg #[.string ⟨#[]⟩, .string ⟨#[]⟩, .string ⟨#[]⟩, .slice none 0 0, .slice none 0 0]).cells (n * 5)).toList.length = n * 5 := hown.1
  have H1 := Own.setCells (Nat.le_refl _) cs 0 _ w1 H0 (by rw [hml, hcl]; omega)
  rw [List.take_zero, List.nil_append, List.drop_of_length_le (by rw [hml, hcl]; omega), List.append_nil] at H1
  refine ⟨w1, w1.setCells w.heap.size 0 cs, hmk, ?_, ⟨H1, rfl, Nat.le_refl _, fun e he => (by cases he), fun e he => (by cases he), fun i j e f _ he => by simp at he⟩⟩
  intro ty
  cases A with
  | none =>
    have h0 := hnil rfl
    have hn0 : n = 0 := by omega
    subst hn0
    rw [List.eq_nil_of_length_eq_zero (by omega : cs.length = 0)]
    exact run_copy_none w1 22 22 ty envT _ c 0 Tryd.underlying22 ⟨i0, hi0⟩
  | some a =>
    have hsrc : ∀ j v, cs[j]? = some v → w1.cell? (a.add j) = some v := fun j v hj => by
      have hjl := (List.getElem?_eq_some_iff.1 hj).1
      obtain ⟨b, o, e, hb, hcell⟩ := hseq.2 (by omega)
      injection e with e
      rw [e, Addr.add_lit]
      exact (hb1.cell (p := ⟨b, o + j, none⟩) hb).trans (hcell j v hj)
    have := run_copy_cellsK (P := Tryd.prog) w1 22 22 ty envT w.heap.size 0 n n a n c 5 cs Tryd.underlying22 (by rw [hi0]; simp [hzs]) (by rw [hcl, show Nat.min n n = n from Nat.min_self n])
      hsrc (fun j hj => by
        rw [Nat.zero_add]
        have hj2 : j < (madeCells (Value.agg #[.string ⟨#[]⟩, .string ⟨#[]⟩, .string ⟨#[]⟩, .slice none 0 0, .slice none 0 0]).cells (n * 5)).toList.length := by rw [hml]; omega
        have := hown.cells (g := w.heap.size) rfl j _ (List.getElem?_eq_getElem hj2)
        rw [Addr.add_lit, Nat.zero_add] at this
        rw [this]; rfl) (fun j _ => hown.frozenAt _) h1
    rw [show Nat.min n n = n from Nat.min_self n] at this
    exact this
set_option maxRecDepth 100000 in
set_option maxHeartbeats 4000000 in
theorem copied_any (l : List Env) (A : Option Addr) (n c : Nat) (w : World) (h : Envs w A n c l) :
    Calls Tryd.prog 38 #[.slice A n c] w fun e w' => ∃ g L, e = .returned (.slice (some ⟨g, 0, none⟩) n n) ∧ EO w w' g n n L ∧ L.map (·.x) = l := by
  have hl := h.len
  have hW := h.each
  obtain ⟨hn, hcap, hnil, cs, hseq, hlist⟩ := h.rd
  obtain ⟨w1, w2, hmk, hcp, hE⟩ := env_copy l A n c w cs hn (by omega) hcap hnil hseq (RList.one_cell (fun x c hc => rEnv_one _ _ x c hc) hlist)
  have hcsl : cs.length = n * 5 := hseq.1
  obtain ⟨g, hg⟩ : ∃ g, g = w.heap.size := ⟨_, rfl⟩
  rw [← hg] at hmk hcp hE
  have hg0 : w.heap.size ≤ g := hE.lo
  have hn6 : n ≤ 1000000 := by omega
  clear h hcap hnil hseq hg
  replace hmk := Lib.hid hmk
  replace hn := Lib.hid hn
  replace hcsl := Lib.hid hcsl
  go_enter Tryd.func38, Tryd.ntmps38
  repeat' ((fail_if_success at_builtin); (first | go_skip | go_guarded | go_step))
  rw [hmk.out]
  simp only [Result.andThen, Oper.upon]
  repeat' ((fail_if_success at_builtin); (first | go_skip | go_guarded | go_step))
  clear hmk hcp
  go_loopw [13] (fun u13 wr => ∃ (i : Nat) (L : List EnvV), i ≤ n ∧ u13 = .int .i64 (i : Int) ∧ EP w wr g n n i L (cs.drop (i * 5)) ∧ L.map (·.x) = l.take i) (fun u13 _ => n - (intOf u13).toNat)
  case atStart => exact ⟨0, [], by omega, rfl, by simpa using hE, by simp⟩
  case round =>
    clear hE
    obtain ⟨i, L, hi, rfl, hE, hLx⟩ := hrel
    have i0 : (0 : Int) ≤ (i : Int) := by omega
    have i2 : IntKind.i64.wrap ((i : Int) + 1) = (i : Int) + 1 := IntWalk.i64_in _ (by omega)
    by_cases hlt : i < n
    · have i1 : (i : Int) < (n : Int) := by omega
      obtain ⟨x, hx⟩ : ∃ x, l[i]? = some x := ⟨_, List.getElem?_eq_getElem (by have := hn.out; omega)⟩
      have hxW := hW x (List.mem_of_getElem? hx)
      obtain ⟨c1, hcut, ⟨A1, k1, A2, k2, rfl, hwt, hht⟩, _⟩ := hlist.cut hx
      rw [hcut] at hE
      have hLn : L.map (·.x) ++ [x] = l.take (i + 1) := by rw [List.take_add_one, hx, hLx]; rfl
      clear hcut hx hLx
      replace hLn := Lib.hid hLn
      have e3 := hE.cellR 3 rfl
      have e4 := hE.cellR 4 rfl
      have hfr := hE.fr
      have hbr := hE.bel
      have C := cloneR_any x.waiting A1 k1 wr ((hwt.below rRef_ok hbr).more rRef_ok (fun _ hb => Nat.lt_of_lt_of_le hb hbr.size)) (by have := hxW.wait; omega)
      replace C := Lib.hid C
      repeat' ((fail_if_success at_builtin); (first | go_skip | go_guarded | go_step))
      refine C.out.mono ?_
      clear C
      rintro e w3 ⟨B1, d1, rfl, ho1⟩
      dsimp only
      have hE1 := hE.below ho1.bel
      have o1 := ho1.refs
      have hd1 : ∀ e ∈ L, Diff e.u (.slice B1 x.waiting.length d1) ∧ Diff e.v (.slice B1 x.waiting.length d1) := fun e he => ⟨diff_new (hE.ltU he).1 o1, diff_new (hE.ltU he).2 o1⟩
      have hbg1 : (Value.slice B1 x.waiting.length d1).ownBlock ≠ some g := fun e => by have := (o1.1.lt g e).1; have := hE.lt; omega
      have o2 := Own.up hbr o1
      clear e3 e4 hfr hbr ho1 hE o1
      have e3 := hE1.cellR 3 rfl
      have e4 := hE1.cellR 4 rfl
      have hfr := hE1.fr
      go_upto_region 7 with (fail)
      generalize hx_ : World.setCell w3 _ _ = w4
      have hE2 : EP w w4 g n n i L ([.string x.name, .string x.holder.run, .string x.holder.job, .slice B1 x.waiting.length d1, .slice A2 x.history.length k2] ++ cs.drop ((i + 1) * 5)) := by rw [← hx_]; exact hE1.setR 3 _
      have o3 : Own w w4 refT 2 (.slice B1 x.waiting.length d1) x.waiting.length (x.waiting.flatMap refC) := by rw [← hx_]; exact o2.grown (setCell_grown _ _ _ _) (fun b hb e => hbg1 (by rw [hb, ← e])) (fun k hk => by injection hk with hk; omega)
      clear hx_ e3 e4 hfr o2 hE1
      have e3 := hE2.cellR 3 rfl
      have e4 := hE2.cellR 4 rfl
      have hfr := hE2.fr
      have hbr := hE2.bel
      have C := cloneD_any x.history A2 k2 w4 ((hht.below rDep_ok hbr).more rDep_ok (fun _ hb => Nat.lt_of_lt_of_le hb hbr.size)) (by have := hxW.hist; omega)
      replace C := Lib.hid C
      repeat' ((fail_if_success at_builtin); (first | go_skip | go_guarded | go_step))
      refine C.out.mono ?_
      clear C
      rintro e w5 ⟨B2, d2, rfl, ho1⟩
      dsimp only
      have hE3 := hE2.below ho1.bel
      have o1 := ho1.deps
      have hd2 : ∀ e ∈ L, Diff e.u (.slice B2 x.history.length d2) ∧ Diff e.v (.slice B2 x.history.length d2) := fun e he => ⟨diff_new (hE2.ltU he).1 o1, diff_new (hE2.ltU he).2 o1⟩
      have hbg2 : (Value.slice B2 x.history.length d2).ownBlock ≠ some g := fun e => by have := (o1.1.lt g e).1; have := hE2.lt; omega
      have hd3 : Diff (.slice B1 x.waiting.length d1) (.slice B2 x.history.length d2) := diff_new (fun k hk => (o3.1.lt k hk).2) o1
      have o4 := Own.up hbr o1
      have o5 := o3.below ho1.bel
      clear e3 e4 hfr hbr ho1 hE2 o1 o3
      have e3 := hE3.cellR 3 rfl
      have e4 := hE3.cellR 4 rfl
      have hfr := hE3.fr
      go_upto_region 8 with (fail)
      generalize hx_ : World.setCell w5 _ _ = w6
      have hE4 : EP w w6 g n n i L (vC ⟨x, .slice B1 x.waiting.length d1, .slice B2 x.history.length d2⟩ ++ cs.drop ((i + 1) * 5)) := by rw [← hx_]; exact hE3.setR 4 _
      have o6 : Own w w6 refT 2 (.slice B1 x.waiting.length d1) x.waiting.length (x.waiting.flatMap refC) := by rw [← hx_]; exact o5.grown (setCell_grown _ _ _ _) (fun b hb e => hbg1 (by rw [hb, ← e])) (fun k hk => by injection hk with hk; omega)
      have o7 : Own w w6 depT 5 (.slice B2 x.history.length d2) x.history.length (x.history.flatMap depC) := by rw [← hx_]; exact o4.grown (setCell_grown _ _ _ _) (fun b hb e => hbg2 (by rw [hb, ← e])) (fun k hk => by injection hk with hk; omega)
      clear hx_ e3 e4 hfr o4 o5 hE3
      have hE5 := hE4.take (E := ⟨x, .slice B1 x.waiting.length d1, .slice B2 x.history.length d2⟩) ⟨o6, o7, hd3⟩ hbg1 hbg2 (fun e he => ⟨(hd1 e he).1, (hd2 e he).1, (hd1 e he).2, (hd2 e he).2⟩)
      replace hE5 := Lib.hid hE5
      clear hE4 o6 o7
      repeat' ((fail_if_success at_builtin); (first | go_skip | go_guarded | go_step))
      go_roundw
      case rel => exact ⟨i + 1, L ++ [⟨x, .slice B1 x.waiting.length d1, .slice B2 x.history.length d2⟩], by omega, by first | rfl | go_num, hE5.out, by rw [List.map_append]; exact hLn.out⟩
      case measure => (try go_num); (try simp [intOf]); (try omega)
    · have i1 : ¬ (i : Int) < (n : Int) := by omega
      have hin : i = n := by omega
      subst hin
      rw [List.drop_of_length_le (by rw [hcsl.out]; omega)] at hE
      rw [List.take_of_length_le (by rw [hn.out]; omega)] at hLx
      replace hE := Lib.hid hE
      repeat' ((fail_if_success at_builtin); (first | go_skip | go_guarded | go_step))
      go_ret
      exact ⟨g, L, rfl, hE.out, hLx⟩
end Go.Proofs.YtennhjkhjplmoaaDoor
