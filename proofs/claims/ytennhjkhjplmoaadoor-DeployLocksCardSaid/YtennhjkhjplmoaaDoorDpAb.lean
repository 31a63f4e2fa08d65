/- Deploy: slices.DeleteFunc. Deploy: Abandon. -/
import Derived.Test.YtennhjkhjplmoaaDoorDpR
import Derived.Lib.BufferOwn
namespace Go.Proofs.YtennhjkhjplmoaaDoor
open Go.RowKit
theorem run_clear_many {P : Program} (w : World) (t e ty : TypeId) (z : Value) (m : Nat) (zc : List Value) (ht : P.underlying t = some (.slice e)) (hv : ∀ w, (zeroValue e).run P w = .ok z w) (hz : (Builtin.zeroCells z.cells (m + 1)).toList = zc) (h1 : ∀ v ∈ zc, v.oneCell' = true) (b o c : Nat)
    (hc : ∀ j, j < zc.length → (w.cell? ⟨b, o + j, none⟩).isSome = true) (hf : ∀ j, j < zc.length → w.frozen? ⟨b, o + j, none⟩ = false) :
    (Builtin.clear_ #[t] ty #[.slice (some ⟨b, o, none⟩) (m + 1) c]).run P w = .ok (.tuple #[]) (w.setCells b o zc) := by
  have hst := run_storeCells_cells (P := P) b o zc 0 w (by simpa using hc) (by simpa using hf) h1
  simp only [Nat.add_zero] at hst
  simp [Builtin.clear_, run_underlying ht, hv, hz, hst]
theorem Own.shrink {w0 w : World} {e : TypeId} {sz g n c a : Nat} {xs : List Value} (h : Own w0 w e sz (.slice (some ⟨g, 0, none⟩) n c) n xs) (ha : a ≤ n) : Own w0 w e sz (.slice (some ⟨g, 0, none⟩) a c) a (xs.take (a * sz)) := by
  obtain ⟨⟨hl, h1⟩, hB⟩ := h
  have hle : a * sz ≤ n * sz := Nat.mul_le_mul_right _ ha
  refine ⟨⟨by rw [List.length_take]; omega, ?_⟩, hB⟩
  rcases h1 with ⟨hv, _⟩ | ⟨g', cap', cur, hv, hbg, hh, hnc, hcm, hcs, hx⟩
  · cases hv
  · simp only [Value.slice.injEq, Option.some.injEq, Addr.mk.injEq, and_true, true_and] at hv
    obtain ⟨rfl, rfl⟩ := hv
    refine .inr ⟨g, c, cur, rfl, hbg, hh, by omega, hcm, hcs, ?_⟩
    rw [← hx, List.take_take, Nat.min_eq_left hle]
theorem flat_len (l : List Ref) : (l.flatMap refC).length = l.length * 2 := by
  induction l with
  | nil => rfl
  | cons x l ih =>
    show (refC x ++ l.flatMap refC).length = _
    rw [List.length_append, ih]
    show 2 + _ = (l.length + 1) * 2
    omega
theorem flat_set : ∀ {l : List Ref} {k : Nat} (x : Ref), k < l.length → ((l.flatMap refC).set (k * 2) (.string x.run)).set (k * 2 + 1) (.string x.job) = (l.set k x).flatMap refC
  | [], _, _, h => by simp at h
  | y :: l, 0, x, _ => rfl
  | y :: l, k + 1, x, h => by
    have ih := flat_set (l := l) (k := k) x (by simpa using h)
    show ((refC y ++ l.flatMap refC).set _ _).set _ _ = refC y ++ (l.set k x).flatMap refC
    rw [← ih, ← set_app2, ← set_app2]
    have e1 : (k + 1) * 2 = (refC y).length + k * 2 := by show _ = 2 + _; omega
    have e2 : (k + 1) * 2 + 1 = (refC y).length + (k * 2 + 1) := by show _ = 2 + _; omega
    rw [e2, e1]
theorem flat_one (l : List Ref) : ∀ u ∈ l.flatMap refC, u.oneCell' = true := by
  intro u hu
  obtain ⟨z, _, hz⟩ := List.mem_flatMap.1 hu
  simp at hz
  rcases hz with rfl | rfl <;> rfl
theorem zc_one (m : Nat) : ∀ v ∈ (Builtin.zeroCells (Value.agg #[.string ⟨#[]⟩, .string ⟨#[]⟩]).cells m).toList, v.oneCell' = true := by
  intro v hv
  simp only [Builtin.zeroCells, Array.toList_map, List.mem_map] at hv
  obtain ⟨i, _, rfl⟩ := hv
  have h2 : (Value.agg #[.string ⟨#[]⟩, .string ⟨#[]⟩]).cells.size = 2 := rfl
  rw [h2]
  have h3 : i % 2 = 0 ∨ i % 2 = 1 := by omega
  rcases h3 with h3 | h3 <;> rw [h3] <;> rfl
theorem posA_miss_all {α : Type} {f : α → Bool} : ∀ {l : List α}, ¬ posA f l < l.length → l.filter (fun x => !f x) = l
  | [], _ => rfl
  | x :: l, h => by
    by_cases hx : f x = true
    · exact absurd (by show (if f x = true then 0 else _) < _; rw [if_pos hx]; simp) h
    · have hp : posA f (x :: l) = posA f l + 1 := by show (if f x = true then 0 else _) = _; rw [if_neg hx]
      have ih := posA_miss_all (f := f) (l := l) (by rw [hp] at h; simp at h; omega)
      have hx2 : f x = false := by simpa using hx
      rw [List.filter_cons, hx2, if_pos (by rfl), ih]
theorem posA_take_all {α : Type} {f : α → Bool} : ∀ {l : List α}, (l.take (posA f l)).filter (fun x => !f x) = l.take (posA f l)
  | [] => rfl
  | x :: l => by
    by_cases hx : f x = true
    · have hp : posA f (x :: l) = 0 := by show (if f x = true then 0 else _) = _; rw [if_pos hx]
      rw [hp]; rfl
    · have hp : posA f (x :: l) = posA f l + 1 := by show (if f x = true then 0 else _) = _; rw [if_neg hx]
      have hx2 : f x = false := by simpa using hx
      rw [hp, List.take_succ_cons, List.filter_cons, hx2, if_pos (by rfl), posA_take_all]
set_option maxRecDepth 100000 in
set_option maxHeartbeats 6000000 in
theorem delF_any (fn p : Nat) (eg : ∀ args w, (callFunc fn args).run Tryd.prog w = .ok (.enter fn args) w) (f : Ref → Bool) (l : List Ref) (A : Option Addr) (n c : Nat) (w0 w : World) (H : Own w0 w refT 2 (.slice A n c) n (l.flatMap refC)) (hn : l.length = n) (hl : n ≤ 1000000)
    (hf : ∀ x ∈ l, ∀ w', w.grownBy w' (Value.ownBlock (.slice A n c)) → Calls Tryd.prog fn #[.agg #[.string x.run, .string x.job], .pointer (some ⟨p, 0, none⟩)] w' fun e w2 => e = .returned (.bool (f x)) ∧ Below w'.heap.size w' w2) :
    Calls Tryd.prog 52 #[.slice A n c, .func (.func fn) #[] #[.pointer (some ⟨p, 0, none⟩)]] w fun e w' => e = .returned (.slice A (l.filter fun x => !f x).length c) ∧ Own w0 w' refT 2 (.slice A (l.filter fun x => !f x).length c) (l.filter fun x => !f x).length ((l.filter fun x => !f x).flatMap refC) ∧ w.grownBy w' (Value.ownBlock (.slice A n c)) := by
  have hR : Refs w A n c l := ⟨by subst hn; exact (Own.refR H).slice rRef_ok, by omega⟩
  have C := idxR_any fn p eg f l A n c w hR (fun x hx w' hb => hf x hx w' (growBelow hb))
  have hnc : n ≤ c := H.cap_le
  by_cases hk : posA f l < l.length
  · rw [posI_in hk] at C
    have htk := posA_take_all (f := f) (l := l)
    obtain ⟨x0, hx0⟩ : ∃ x, l[posA f l]? = some x := ⟨_, List.getElem?_eq_getElem hk⟩
    have hfx := posA_at hx0
    have hT : (l.take (posA f l + 1)).filter (fun x => !f x) = l.take (posA f l) := by rw [List.take_add_one, hx0, List.filter_append, htk]; simp [hfx]
    have hl0 : l = l.take (posA f l) ++ [x0] ++ l.drop (posA f l + 1) := by
      have h1 := List.take_append_drop (posA f l) l
      rw [List.drop_eq_getElem_cons hk, (List.getElem?_eq_some_iff.1 hx0).2] at h1
      rw [List.append_assoc]
      exact h1.symm
    have hlt : (l.take (posA f l)).length = posA f l := by rw [List.length_take]; omega
    obtain ⟨g, hA, hlo, hgl⟩ := H.blk (by omega)
    subst hA
    rw [hn] at hk
    clear htk hx0 hfx hR
    generalize posA f l = k at *
    have k0 : (0 : Int) ≤ (k : Int) := by omega
    have k1 : ((k : Int) == -1) = false := by apply beq_false_of_ne; omega
    have k2 : IntKind.i64.wrap ((k : Int) + 1) = (k : Int) + 1 := IntWalk.i64_in _ (by omega)
    have H0 : Own w0 w refT 2 (.slice (some ⟨g, 0, none⟩) n c) n (((l.take (k + 1)).filter (fun x => !f x) ++ [x0] ++ l.drop (k + 1)).flatMap refC) := by
      rw [hT, ← hl0]
      exact H
    have hK0 : ((l.take (k + 1)).filter (fun x => !f x)).length = k := by rw [hT, hlt]
    clear hl0 hT hlt H
    replace C := Lib.hid C
    replace hf := Lib.hid hf
    replace hK0 := Lib.hid hK0
    replace hn := Lib.hid hn
    go_enter Tryd.func52, Tryd.ntmps52
    repeat' ((fail_if_success at_builtin); (first | go_skip | go_guarded | go_step))
    refine C.out.mono ?_
    clear C
    rintro e w1 ⟨rfl, hb1⟩
    dsimp only
    have H1 := H0.below hb1
    have hg1 : w.grownBy w1 (some g) := growBelow hb1
    clear H0
    repeat' ((fail_if_success at_builtin); (first | go_skip | go_guarded | go_step))
    go_loopw [5, 6] (fun u5 u6 wr => ∃ (a j : Nat) (M : List Ref), u5 = .int .i64 (a : Int) ∧ u6 = .int .i64 (j : Int) ∧ j ≤ n ∧ a < j ∧ ((l.take j).filter (fun x => !f x)).length = a ∧ a + M.length = j ∧ w.grownBy wr (some g) ∧ Own w0 wr refT 2 (.slice (some ⟨g, 0, none⟩) n c) n (((l.take j).filter (fun x => !f x) ++ M ++ l.drop j).flatMap refC)) (fun _ u6 _ => n - (intOf u6).toNat)
    case atStart => exact ⟨k, k + 1, [x0], rfl, by first | rfl | go_num, by omega, by omega, hK0.out, rfl, hg1, H1⟩
    case round =>
      clear H1 hg1 hb1 k0 k1 k2 hK0 hk
      obtain ⟨a, j, M, rfl, rfl, hj, haj, hKl, hMl, hg, H⟩ := hrel
      have j0 : (0 : Int) ≤ (j : Int) := by omega
      have a0 : (0 : Int) ≤ (a : Int) := by omega
      have a1 : (a : Int) < (n : Int) := by omega
      have a2 : (a : Int) ≤ (n : Int) := by omega
      have a3 : (a : Int) ≤ (c : Int) := by omega
      have a4 : (n : Int) ≤ (c : Int) := by omega
      have j2 : IntKind.i64.wrap ((j : Int) + 1) = (j : Int) + 1 := IntWalk.i64_in _ (by omega)
      have a5 : IntKind.i64.wrap ((a : Int) + 1) = (a : Int) + 1 := IntWalk.i64_in _ (by omega)
      by_cases hlt : j < n
      · have j1 : (j : Int) < (n : Int) := by omega
        obtain ⟨x, hx⟩ : ∃ x, l[j]? = some x := ⟨_, List.getElem?_eq_getElem (by have := hn.out; omega)⟩
        have hxm := List.mem_of_getElem? hx
        have hdr : l.drop j = x :: l.drop (j + 1) := by rw [List.drop_eq_getElem_cons (by have := hn.out; omega), (List.getElem?_eq_some_iff.1 hx).2]
        have hLl : ((l.take j).filter (fun x => !f x) ++ M ++ l.drop j).length = n := by simp only [List.length_append, List.length_drop, hKl]; have := hn.out; omega
        have hLx : ((l.take j).filter (fun x => !f x) ++ M ++ l.drop j)[j]? = some x := by
          rw [List.getElem?_append_right (by rw [List.length_append, hKl]; omega), List.length_append, hKl, hMl, Nat.sub_self, hdr]
          rfl
        have hrs : RSlice rRef 2 wr (fun b => b < wr.heap.size) (some ⟨g, 0, none⟩) n c ((l.take j).filter (fun x => !f x) ++ M ++ l.drop j) := by
          have H2 := H
          rw [← hLl] at H2 ⊢
          exact (Own.refR H2).slice rRef_ok
        obtain ⟨g', o', hA', _, y0, y1⟩ := ref_at hrs hLx
        injection hA' with hA'
        injection hA' with e1 e2
        subst e1 e2
        rw [Nat.zero_add] at y0 y1
        have z0 : a < ((l.take j).filter (fun x => !f x) ++ M ++ l.drop j).length := by omega
        obtain ⟨y, hy⟩ : ∃ y, ((l.take j).filter (fun x => !f x) ++ M ++ l.drop j)[a]? = some y := ⟨_, List.getElem?_eq_getElem z0⟩
        obtain ⟨g', o', hA', _, s0, s1⟩ := ref_at hrs hy
        injection hA' with hA'
        injection hA' with e1 e2
        subst e1 e2
        rw [Nat.zero_add] at s0 s1
        have hT1 : (l.take (j + 1)).filter (fun x => !f x) = (l.take j).filter (fun x => !f x) ++ (if f x = true then [] else [x]) := by
          rw [List.take_add_one, hx, List.filter_append]
          congr 1
          cases hfx : f x <;> simp [hfx]
        clear hrs hx hy hLx
        go_upto_region 8 with (fail)
        have hba := (Below.refl wr.heap.size wr).alloc (Nat.le_refl _) (.cells #[.string x.run, .string x.job] refT)
        have v0 := (CellsAt.new wr #[.string x.run, .string x.job] refT).cell 0 _ rfl
        have v1 := (CellsAt.new wr #[.string x.run, .string x.job] refT).cell 1 _ rfl
        have hvl : wr.heap.size < (World.alloc wr (.cells #[.string x.run, .string x.job] refT)).heap.size := by simp
        generalize World.alloc wr _ = wa at *
        have Ha := H.below hba
        have hga : w.grownBy wa (some g) := grown_trans hg (growBelow hba)
        have C := hf.out x hxm wa hga
        clear H y0 y1
        replace C := Lib.hid C
        repeat' ((fail_if_success at_builtin); (first | go_skip | go_guarded | go_step))
        refine C.out.mono ?_
        clear C
        rintro e w2 ⟨rfl, hb2⟩
        dsimp only
        have H2 := Ha.below hb2
        have hg2 : w.grownBy w2 (some g) := grown_trans hga (growBelow hb2)
        have v0 := (hb2.cell (p := ⟨wr.heap.size, 0, none⟩) hvl).trans v0
        have v1 := (hb2.cell (p := ⟨wr.heap.size, 1, none⟩) hvl).trans v1
        have hgw : g < wr.heap.size := Nat.lt_of_lt_of_le hgl hg.size
        have s0 := (hb2.cell (p := ⟨g, a * 2, none⟩) (Nat.lt_of_lt_of_le hgw hba.size)).trans ((hba.cell (p := ⟨g, a * 2, none⟩) hgw).trans s0)
        have s1 := (hb2.cell (p := ⟨g, a * 2 + 1, none⟩) (Nat.lt_of_lt_of_le hgw hba.size)).trans ((hba.cell (p := ⟨g, a * 2 + 1, none⟩) hgw).trans s1)
        have hfr := fun i => H2.1.frozenAt (g := g) i
        have hNlt : n - (j + 1) < n - j := by omega
        clear Ha hga hg hba
        cases hv : f x with
        | true =>
          rw [hv, if_pos rfl, List.append_nil] at hT1
          have H3 : Own w0 w2 refT 2 (.slice (some ⟨g, 0, none⟩) n c) n (((l.take (j + 1)).filter (fun x => !f x) ++ (M ++ [x]) ++ l.drop (j + 1)).flatMap refC) := by
            rw [hT1]
            have := H2
            rw [hdr] at this
            rw [List.append_assoc, List.append_assoc, List.singleton_append, ← List.append_assoc]
            exact this
          have hKl2 : ((l.take (j + 1)).filter (fun x => !f x)).length = a := by rw [hT1, hKl]
          replace H3 := Lib.hid H3
          replace hKl2 := Lib.hid hKl2
          have hMl2 : a + (M ++ [x]).length = j + 1 := by simp; omega
          replace hMl2 := Lib.hid hMl2
          clear H2 hT1 hdr hLl hv hKl z0 hMl
          repeat' ((fail_if_success at_builtin); (first | go_skip | go_guarded | go_step))
          go_roundw
          case rel => exact ⟨a, j + 1, M ++ [x], rfl, by first | rfl | go_num, by omega, by omega, hKl2.out, hMl2.out, hg2, H3.out⟩
          case measure => (try go_num); (try simp [intOf]); (try omega)
        | false =>
          rw [hv, if_neg (by simp)] at hT1
          obtain ⟨m0, M', hM⟩ : ∃ m0 M', M = m0 :: M' := by
            cases M with
            | nil => simp at hMl; omega
            | cons m0 M' => exact ⟨m0, M', rfl⟩
          subst hM
          go_upto_region 10 with (fail)
          generalize hx_ : World.setCell (World.setCell w2 _ _) _ _ = w3
          have hg3 : w.grownBy w3 (some g) := by
            rw [← hx_]
            exact grown_trans (grown_trans hg2 (setCell_grown w2 g _ _)) (setCell_grown _ g _ _)
          have H3 : Own w0 w3 refT 2 (.slice (some ⟨g, 0, none⟩) n c) n (((l.take (j + 1)).filter (fun x => !f x) ++ (M' ++ [x]) ++ l.drop (j + 1)).flatMap refC) := by
            have h1 := ((H2.store hlo (a * 2) (.string x.run)).store hlo (a * 2 + 1) (.string x.job))
            rw [flat_set x z0] at h1
            rw [hx_] at h1
            have e : ((l.take j).filter (fun x => !f x) ++ m0 :: M' ++ l.drop j).set a x = (l.take (j + 1)).filter (fun x => !f x) ++ (M' ++ [x]) ++ l.drop (j + 1) := by
              rw [hT1, hdr, List.append_assoc, List.set_append_right _ _ (by omega), hKl, Nat.sub_self, List.cons_append, List.set_cons_zero]
              simp
            rw [e] at h1
            exact h1
          have hKl2 : ((l.take (j + 1)).filter (fun x => !f x)).length = a + 1 := by rw [hT1, List.length_append, hKl]; rfl
          have hMl2 : a + 1 + (M' ++ [x]).length = j + 1 := by simp at hMl ⊢; omega
          replace H3 := Lib.hid H3
          replace hKl2 := Lib.hid hKl2
          replace hMl2 := Lib.hid hMl2
          clear H2 hT1 hdr hLl hv hKl z0 hMl hx_ s0 s1 v0 v1 hfr
          repeat' ((fail_if_success at_builtin); (first | go_skip | go_guarded | go_step))
          go_roundw
          case rel => exact ⟨a + 1, j + 1, M' ++ [x], by first | rfl | go_num, by first | rfl | go_num, by omega, by omega, hKl2.out, hMl2.out, hg3, H3.out⟩
          case measure => (try go_num); (try simp [intOf]); (try omega)
      · have j1 : ¬ (j : Int) < (n : Int) := by omega
        have hjn : j = n := by omega
        subst hjn
        rw [List.drop_of_length_le (by rw [hn.out]; omega), List.append_nil] at H
        rw [List.take_of_length_le (by rw [hn.out]; omega)] at H hKl
        obtain ⟨m, hm⟩ : ∃ m, j - a = m + 1 := ⟨j - a - 1, by omega⟩
        have hzl : (Builtin.zeroCells (Value.agg #[.string ⟨#[]⟩, .string ⟨#[]⟩]).cells (m + 1)).toList.length = (m + 1) * 2 := by
          simp [Builtin.zeroCells, Value.cells]
        have hLl : ((l.filter (fun x => !f x) ++ M).flatMap refC).length = j * 2 := by rw [flat_len, List.length_append, hKl, hMl]
        have hcl : ∀ ty, (Builtin.clear_ #[58] ty #[.slice (some ⟨g, a * 2, none⟩) (m + 1) (c - a)]).run Tryd.prog wr = .ok (.tuple #[]) (wr.setCells g (a * 2) (Builtin.zeroCells (Value.agg #[.string ⟨#[]⟩, .string ⟨#[]⟩]).cells (m + 1)).toList) := fun ty =>
          run_clear_many wr _ _ ty (.agg #[.string ⟨#[]⟩, .string ⟨#[]⟩]) m _ Tryd.underlying58 (fun w => by kernel_rfl) rfl (zc_one _) g (a * 2) _ (fun i hi => by
            have := H.1.cells (g := g) rfl (a * 2 + i) _ (List.getElem?_eq_getElem (by rw [hLl]; omega))
            rw [Addr.add_lit, Nat.zero_add] at this
            rw [this]; rfl) (fun i _ => H.1.frozenAt _)
        have H3 := Own.setCells hlo (Builtin.zeroCells (Value.agg #[.string ⟨#[]⟩, .string ⟨#[]⟩]).cells (m + 1)).toList (a * 2) _ wr H (by rw [hzl, hLl]; omega)
        have hg3 := grown_trans hg (grow_setCellsK (Builtin.zeroCells (Value.agg #[.string ⟨#[]⟩, .string ⟨#[]⟩]).cells (m + 1)).toList (a * 2) wr (World.grownBy.refl wr (some g)))
        generalize wr.setCells g (a * 2) (Builtin.zeroCells (Value.agg #[.string ⟨#[]⟩, .string ⟨#[]⟩]).cells (m + 1)).toList = w3 at *
        have H4 := H3.shrink (a := a) (by omega)
        rw [List.append_assoc, List.take_append, List.take_take, Nat.min_self, List.length_take, hLl, Nat.min_eq_left (by omega), Nat.sub_self, List.take_zero, List.append_nil, List.flatMap_append, List.take_append, flat_len, hKl, Nat.sub_self, List.take_zero, List.append_nil, List.take_of_length_le (by rw [flat_len, hKl]; exact Nat.le_refl _)] at H4
        have hca : ¬ c = a := by omega
        have hm2 : IntKind.i64.wrap ((j : Int) - (a : Int)) = (j : Int) - (a : Int) := IntWalk.i64_in _ (by omega)
        clear H H3 hzl hLl hg
        replace H4 := Lib.hid H4
        replace hKl := Lib.hid hKl
        replace hm := Lib.hid hm
        repeat' ((fail_if_success at_builtin); (first | go_skip | go_guarded | go_step))
        rw [hm.out, hcl]
        simp only [Result.andThen, Oper.upon]
        repeat' ((fail_if_success at_builtin); (first | go_skip | go_guarded | go_step))
        go_ret
        exact ⟨by rw [hKl.out]; rfl, by rw [hKl.out]; exact H4.out, hg3⟩
  · rw [posI_out hk] at C
    have hfl := posA_miss_all hk
    have H1 : Own w0 w refT 2 (.slice A (l.filter fun x => !f x).length c) (l.filter fun x => !f x).length ((l.filter fun x => !f x).flatMap refC) := by rw [hfl, hn]; exact H
    have hm : (l.filter fun x => !f x).length = n := by rw [hfl, hn]
    clear hfl hk hf hR H hn
    replace C := Lib.hid C
    replace hm := Lib.hid hm
    go_enter Tryd.func52, Tryd.ntmps52
    repeat' ((fail_if_success at_builtin); (first | go_skip | go_guarded | go_step))
    refine C.out.mono ?_
    clear C
    rintro e w1 ⟨rfl, hb1⟩
    dsimp only
    repeat' ((fail_if_success at_builtin); (first | go_skip | go_guarded | go_step))
    go_ret
    exact ⟨by rw [hm.out]; rfl, H1.below hb1, growBelow hb1⟩
end Go.Proofs.YtennhjkhjplmoaaDoor
namespace Go.Proofs.YtennhjkhjplmoaaDoor
open Go.RowKit
/-- the requests of an environment replaced -/
theorem EP.cutW {w0 w w' w1 : World} {g n c k m cc : Nat} {L : List EnvV} {x : Env} {A1 : Option Addr} {v : Value} {t : List Ref} {m0 : Nat} (h : EO w0 w g n c L) (hk : L[k]? = some ⟨x, .slice A1 m0 cc, v⟩) (hm : m = t.length) (ho : Own w0 w' refT 2 (.slice A1 m cc) m (t.flatMap refC)) (hg : w.grownBy w' (Value.ownBlock (.slice A1 m0 cc))) (hw1 : w1 = w'.setCell ⟨g, k * 5 + 3, none⟩ (.slice A1 m cc)) : EO w0 w1 g n c (L.set k ⟨{ x with waiting := t }, .slice A1 m cc, v⟩) := by
  have hs := h.sub _ (List.mem_of_getElem? hk)
  subst hm
  have eb : ∀ q q', Value.ownBlock (.slice A1 q cc) = Value.ownBlock (.slice A1 q' cc) := fun _ _ => by cases A1 <;> rfl
  exact h.put hk hg (.inr (.inl rfl)) (e' := ⟨{ x with waiting := t }, .slice A1 t.length cc, v⟩) ⟨ho, hs.ht.grown hg (fun b hb e => hs.d b e hb) (fun b hb => (hs.wt.1.lt b hb).1), fun b hb => hs.d b ((eb _ _).trans hb)⟩ (fun b hb => .inl ((eb _ _).trans hb)) (NewB.refl _ _) 3 _ (by decide) rfl w1 hw1
theorem ab_set {l : List Env} {r : Ref} {i : Nat} {x : Env} (hx : l[i]? = some x) : ((l.take i).map (leaveE r) ++ l.drop i).set i (leaveE r x) = (l.take (i + 1)).map (leaveE r) ++ l.drop (i + 1) := by
  have hi := (List.getElem?_eq_some_iff.1 hx).1
  have hlt : ((l.take i).map (leaveE r)).length = i := by rw [List.length_map, List.length_take]; omega
  rw [List.set_append_right _ _ (by omega), hlt, Nat.sub_self, List.drop_eq_getElem_cons hi, List.set_cons_zero, List.take_add_one, hx, List.map_append, List.append_assoc]
  rfl
theorem ab_get {l : List Env} {r : Ref} {i : Nat} {x : Env} (hx : l[i]? = some x) : ((l.take i).map (leaveE r) ++ l.drop i)[i]? = some x := by
  have hi := (List.getElem?_eq_some_iff.1 hx).1
  have hlt : ((l.take i).map (leaveE r)).length = i := by rw [List.length_map, List.length_take]; omega
  rw [List.getElem?_append_right (by omega), hlt, Nat.sub_self, List.getElem?_drop, Nat.add_zero]
  exact hx
set_option maxRecDepth 100000 in
set_option maxHeartbeats 6000000 in
theorem abandon_any (l : List Env) (r : Ref) (A : Option Addr) (n c : Nat) (w : World) (h : Envs w A n c l) :
    Calls Tryd.prog 16 #[.slice A n c, .agg #[.string r.run, .string r.job]] w fun e w' => ∃ A' n' c', e = .returned (.slice A' n' c') ∧ Below w.heap.size w w' ∧ RSlice rEnv 5 w' (fun b => b < w'.heap.size) A' n' c' (abL l r) := by
  obtain ⟨w1, hw1⟩ : ∃ w1, w1 = w.alloc (.cells #[.string r.run, .string r.job] refT) := ⟨_, rfl⟩
  have hb0 : Below w.heap.size w w1 := by rw [hw1]; exact (Below.refl _ _).alloc (Nat.le_refl _) _
  have q1 : w1.cell? ⟨w.heap.size, 0, none⟩ = some (.string r.run) := by
    rw [hw1]; exact (CellsAt.new w #[.string r.run, .string r.job] refT).cell 0 _ rfl
  have q2 : w1.cell? ⟨w.heap.size, 1, none⟩ = some (.string r.job) := by
    rw [hw1]; exact (CellsAt.new w #[.string r.run, .string r.job] refT).cell 1 _ rfl
  have zr : w.heap.size < w1.heap.size := by rw [hw1]; simp
  go_enter Tryd.func16, Tryd.ntmps16
  go_upto_region 1 with (fail)
  rw [← hw1]
  clear hw1
  have h1 := h.below hb0
  have hl := h.len
  have hW := h.each
  have hn := h.n
  replace hn := Lib.hid hn
  have C := copied_any l A n c w1 h1
  replace C := Lib.hid C
  clear h
  repeat' ((fail_if_success at_builtin); (first | go_skip | go_guarded | go_step))
  refine C.out.mono ?_
  clear C
  rintro e w2 ⟨g, L0, rfl, hE0, hL0⟩
  dsimp only
  repeat' ((fail_if_success at_builtin); (first | go_skip | go_guarded | go_step))
  go_loopw [10] (fun u10 wr => ∃ (i : Nat) (L : List EnvV), i ≤ n ∧ u10 = .int .i64 (i : Int) ∧ EO w1 wr g n n L ∧ L.map (·.x) = (l.take i).map (leaveE r) ++ l.drop i) (fun u10 _ => n - (intOf u10).toNat)
  case atStart => exact ⟨0, L0, by omega, rfl, hE0, by simpa using hL0⟩
  case round =>
    clear hE0 hL0
    obtain ⟨i, L, hi, rfl, hE, hLx⟩ := hrel
    have i0 : (0 : Int) ≤ (i : Int) := by omega
    have i2 : IntKind.i64.wrap ((i : Int) + 1) = (i : Int) + 1 := IntWalk.i64_in _ (by have := hn.out; omega)
    by_cases hlt : i < n
    · have i1 : (i : Int) < (n : Int) := by omega
      obtain ⟨x, hx⟩ : ∃ x, l[i]? = some x := ⟨_, List.getElem?_eq_getElem (by have := hn.out; omega)⟩
      have hxW := (hW x (List.mem_of_getElem? hx)).wait
      obtain ⟨A1, c1, A2, c2, hLk⟩ := hE.at_ hLx (ab_get hx)
      have hwt := (hE.sub _ (List.mem_of_getElem? hLk)).wt
      have e3 := hE.cell hLk 3 rfl
      have hfr := hE.fr
      have hbr := hE.bel
      have C := delF_any 53 w.heap.size (enters_of Tryd.func53 (by kernel_rfl) rfl) (fun y => eqR y r) x.waiting A1 x.waiting.length c1 w1 wr hwt rfl hxW (fun y hy w' hg => by
        have hne : Value.ownBlock (.slice A1 x.waiting.length c1) ≠ some w.heap.size := fun e => by have := (hwt.1.lt _ e).1; omega
        have hlt := Nat.lt_of_lt_of_le zr hbr.size
        exact ab1_any y r w.heap.size w' ((World.cell?_of_block (a := ⟨w.heap.size, 0, none⟩) (hg.block _ hlt (fun e => hne e.symm))).trans ((hbr.cell (p := ⟨w.heap.size, 0, none⟩) zr).trans q1)) ((World.cell?_of_block (a := ⟨w.heap.size, 1, none⟩) (hg.block _ hlt (fun e => hne e.symm))).trans ((hbr.cell (p := ⟨w.heap.size, 1, none⟩) zr).trans q2)))
      replace C := Lib.hid C
      replace hx := Lib.hid hx
      replace hLx := Lib.hid hLx
      clear hwt
      repeat' ((fail_if_success at_builtin); (first | go_skip | go_guarded | go_step))
      refine C.out.mono ?_
      clear C
      rintro e w3 ⟨rfl, ho3, hg3⟩
      dsimp only
      have hrow := hE.rowG hLk hg3 (.inr (.inl rfl))
      have hfr3 : ∀ j, w3.frozen? ⟨g, j, none⟩ = false := hrow.1.frozenAt
      have e3w := EP.cellG (j := 3) hrow hLk rfl
      clear e3 hfr hbr
      go_upto_region 6 with (fail)
      generalize hx_ : World.setCell w3 _ _ = w4
      have hE4 := hE.cutW hLk rfl ho3 hg3 hx_.symm
      have hL4 := List.getElem?_set_self (l := L) (i := i) (a := (⟨{ x with waiting := x.waiting.filter fun y => !eqR y r }, .slice A1 (x.waiting.filter fun y => !eqR y r).length c1, .slice A2 x.history.length c2⟩ : EnvV)) (List.getElem?_eq_some_iff.1 hLk).1
      clear hx_ hrow hfr3 e3w ho3 hg3 hE
      have e1 := hE4.cell hL4 1 rfl
      have e2 := hE4.cell hL4 2 rfl
      have q1' := (hE4.bel.cell (p := ⟨w.heap.size, 0, none⟩) zr).trans q1
      have q2' := (hE4.bel.cell (p := ⟨w.heap.size, 1, none⟩) zr).trans q2
      have hq := run_eqR x.holder r
      cases hz : eqR x.holder r with
      | true =>
        simp only [hz] at hq
        go_quiet (fail)
        have hE5 := hE4.below (Below.drewN w4 nq)
        generalize w4.drewN nq = w5 at *
        clear e1 e2 q1' q2' hq hE4
        have e1 := hE5.cell hL4 1 rfl
        have e2 := hE5.cell hL4 2 rfl
        have hfr := hE5.fr
        go_upto_region 8 with (fail)
        generalize hx_ : World.setCell (World.setCell w5 _ _) _ _ = w6
        have hE6 := hE5.putH hL4 zR w6 hx_.symm
        rw [List.set_set] at hE6
        have hMx : (L.set i ⟨{ x with holder := zR, waiting := x.waiting.filter fun y => !eqR y r }, .slice A1 (x.waiting.filter fun y => !eqR y r).length c1, .slice A2 x.history.length c2⟩).map (·.x) = (l.take (i + 1)).map (leaveE r) ++ l.drop (i + 1) := by
          rw [← ab_set hx.out, ← hLx.out, List.map_set]
          congr 1
          unfold leaveE
          rw [hz]
          rfl
        replace hMx := Lib.hid hMx
        clear hx_ hE5 e1 e2 hfr hL4 hz
        replace hE6 := Lib.hid hE6
        repeat' ((fail_if_success at_builtin); (first | go_skip | go_guarded | go_step))
        go_roundw
        case rel => exact ⟨i + 1, _, by omega, by first | rfl | go_num, hE6.out, hMx.out⟩
        case measure => (try go_num); (try simp [intOf]); (try omega)
      | false =>
        simp only [hz] at hq
        go_quiet (fail)
        have hE5 := hE4.below (Below.drewN w4 nq)
        generalize w4.drewN nq = w5 at *
        have hMx : (L.set i ⟨{ x with waiting := x.waiting.filter fun y => !eqR y r }, .slice A1 (x.waiting.filter fun y => !eqR y r).length c1, .slice A2 x.history.length c2⟩).map (·.x) = (l.take (i + 1)).map (leaveE r) ++ l.drop (i + 1) := by
          rw [← ab_set hx.out, ← hLx.out, List.map_set]
          congr 1
          unfold leaveE
          rw [hz]
          rfl
        replace hMx := Lib.hid hMx
        clear e1 e2 q1' q2' hq hE4 hL4 hz
        replace hE5 := Lib.hid hE5
        repeat' ((fail_if_success at_builtin); (first | go_skip | go_guarded | go_step))
        go_roundw
        case rel => exact ⟨i + 1, _, by omega, by first | rfl | go_num, hE5.out, hMx.out⟩
        case measure => (try go_num); (try simp [intOf]); (try omega)
    · have i1 : ¬ (i : Int) < (n : Int) := by omega
      rw [List.take_of_length_le (by have := hn.out; omega), List.drop_of_length_le (by have := hn.out; omega), List.append_nil] at hLx
      have hR := hE.read
      rw [hLx] at hR
      have hbf := hb0.trans (hE.bel.mono hb0.size)
      clear hE hLx
      replace hR := Lib.hid hR
      repeat' ((fail_if_success at_builtin); (first | go_skip | go_guarded | go_step))
      go_ret
      exact ⟨_, _, _, rfl, hbf, hR.out⟩
end Go.Proofs.YtennhjkhjplmoaaDoor
