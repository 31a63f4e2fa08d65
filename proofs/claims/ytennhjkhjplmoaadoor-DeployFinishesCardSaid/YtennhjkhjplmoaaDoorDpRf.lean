/- Deploy: the document's Finish. -/
import Derived.Test.YtennhjkhjplmoaaDoorDpAp
import Derived.Test.YtennhjkhjplmoaaDoorHk
namespace Go.Proofs.YtennhjkhjplmoaaDoor
open Go.RowKit
theorem capH_big {h : List Dep} (hh : 64 < h.length) : capH h = h.drop 1 := if_pos hh
theorem capH_few {h : List Dep} (hh : ¬ 64 < h.length) : capH h = h := if_neg hh
set_option maxRecDepth 100000 in
set_option maxHeartbeats 6000000 in
theorem rfinish_any (l : List Env) (r : Ref) (d : Dep) (A : Option Addr) (n c : Nat) (w : World) (h : Envs w A n c l) (hH : ∀ x ∈ l, x.history.length ≤ 999999) :
  Calls Tryd.prog 23 #[.slice A n c, .agg #[.string r.run, .string r.job], .agg #[.string d.ref.run, .string d.ref.job, .int .u64 d.ver, .int .i64 d.at_, .int .i64 d.st]] w (RetL w (finL l ⟨r, d.ver, d.at_, d.st⟩)) := by
 go_enter Tryd.func23, Tryd.ntmps23
 have hl := h.len
 have hn := h.n
 go_upto_region 1 with (fail)
 generalize hx_ : World.alloc (World.alloc w _) _ = wo1
 have hO1 : OwnB w wo1 [((w.heap.size + 1), [.string d.ref.run, .string d.ref.job, .int .u64 d.ver, .int .i64 d.at_, .int .i64 d.st]), (w.heap.size, [.string r.run, .string r.job])] := by rw [← hx_]; exact ((OwnB.refl w).new #[.string r.run, .string r.job] _ (g := w.heap.size)).new #[.string d.ref.run, .string d.ref.job, .int .u64 d.ver, .int .i64 d.at_, .int .i64 d.st] _ (g := (w.heap.size + 1))
 have hbn : Below w.heap.size w wo1 := by rw [← hx_]; exact ((Below.refl _ _).alloc (Nat.le_refl _) _).alloc (by simp) _
 have zwo1 : w.heap.size + 1 < wo1.heap.size := by rw [← hx_]; simp <;> omega
 clear hx_
 have c0_0 := hO1.c 0 0
 have c0_1 := hO1.c 0 1
 have c0_2 := hO1.c 0 2
 have c0_3 := hO1.c 0 3
 have c0_4 := hO1.c 0 4
 have cf0 := hO1.fr 0
 have c1_0 := hO1.c 1 0
 have c1_1 := hO1.c 1 1
 have cf1 := hO1.fr 1
 clear hbn
 by_cases hs1 : d.st = 1
 ·
  have f1 : (d.st != 1) = false := by simp [hs1]
  have hok : (d.st == 1 || d.st == 2) = true := by rw [hs1]; rfl
  clear hs1
  by_cases ha1 : d.at_ < 0
  ·
   have hm : finL l ⟨r, d.ver, d.at_, d.st⟩ = (l, 2) := by unfold finL; rw [if_neg (by show ¬ (d.st == 1 || d.st == 2) = false; rw [hok]; simp), if_pos (Or.inl ha1)]
   have hbz := hO1.below
   replace hm := Lib.hid hm
   repeat' ((fail_if_success at_builtin); (first | go_skip | go_guarded | go_step))
   go_ret2
   rw [hm.out]
   exact RetL.same h hbz 2
  ·
   by_cases ha2 : 1125899906842624 < d.at_
   ·
    have hm : finL l ⟨r, d.ver, d.at_, d.st⟩ = (l, 2) := by unfold finL; rw [if_neg (by show ¬ (d.st == 1 || d.st == 2) = false; rw [hok]; simp), if_pos (Or.inr ha2)]
    have hbz := hO1.below
    replace hm := Lib.hid hm
    repeat' ((fail_if_success at_builtin); (first | go_skip | go_guarded | go_step))
    go_ret2
    rw [hm.out]
    exact RetL.same h hbz 2
   ·
    have hm0 : finL l ⟨r, d.ver, d.at_, d.st⟩ = if properR r = false then (l, (8 : Int)) else match l[posA (holdE r) l]? with
      | none => (l, (8 : Int))
      | some x => (l.set (posA (holdE r) l) (finE ⟨r, d.ver, d.at_, d.st⟩ x), (0 : Int)) := by
     unfold finL
     rw [if_neg (by show ¬ (d.st == 1 || d.st == 2) = false; rw [hok]; simp), if_neg (by show ¬ (d.at_ < 0 ∨ 1125899906842624 < d.at_); omega)]
     rfl
    clear hok
    cases hpr : properR r with
    | false =>
     rw [hpr, if_pos rfl] at hm0
     replace hm0 := Lib.hid hm0
     repeat' ((fail_if_success at_builtin); (first | go_skip | go_guarded | go_step))
     go_loopw [8] (fun u8 wr => ∃ i : Nat, i ≤ n ∧ u8 = .int .i64 (i : Int) ∧ Below wo1.heap.size wo1 wr) (fun u8 _ => n - (intOf u8).toNat)
     case atStart => exact ⟨0, by omega, rfl, Below.refl _ _⟩
     case round =>
      obtain ⟨i, hi, rfl, hb⟩ := hrel
      have i0 : (0 : Int) ≤ (i : Int) := by omega
      have i2 : IntKind.i64.wrap ((i : Int) + 1) = (i : Int) + 1 := IntWalk.i64_in _ (by omega)
      have zwr := hb.size
      have hO2 : OwnB w wr [((w.heap.size + 1), [.string d.ref.run, .string d.ref.job, .int .u64 d.ver, .int .i64 d.at_, .int .i64 d.st]), (w.heap.size, [.string r.run, .string r.job])] := hO1.kept hb
      clear c0_0 c0_1 c0_2 c0_3 c0_4 cf0 c1_0 c1_1 cf1 hO1
      have c0_0 := hO2.c 0 0
      have c0_1 := hO2.c 0 1
      have c0_2 := hO2.c 0 2
      have c0_3 := hO2.c 0 3
      have c0_4 := hO2.c 0 4
      have cf0 := hO2.fr 0
      have c1_0 := hO2.c 1 0
      have c1_1 := hO2.c 1 1
      have cf1 := hO2.fr 1
      by_cases hlt : i < n
      ·
       have i1 : (i : Int) < (n : Int) := by omega
       have hpl := hO2.lt 1
       have hS0 : (Below wr.heap.size wr wr ∧ wr.cell? ⟨w.heap.size, 0, none⟩ = some (.string r.run) ∧ wr.cell? ⟨w.heap.size, 1, none⟩ = some (.string r.job)) := ⟨Below.refl _ _, c1_0, c1_1⟩
       have keepS : ∀ v1 v2 : World, (Below wr.heap.size wr v1 ∧ v1.cell? ⟨w.heap.size, 0, none⟩ = some (.string r.run) ∧ v1.cell? ⟨w.heap.size, 1, none⟩ = some (.string r.job)) → Below v1.heap.size v1 v2 → (Below wr.heap.size wr v2 ∧ v2.cell? ⟨w.heap.size, 0, none⟩ = some (.string r.run) ∧ v2.cell? ⟨w.heap.size, 1, none⟩ = some (.string r.job)) := fun v1 v2 h hb => ⟨h.1.trans (hb.mono h.1.size), (hb.cell (p := ⟨w.heap.size, _, none⟩) (Nat.lt_of_lt_of_le hpl h.1.size)).trans h.2.1, (hb.cell (p := ⟨w.heap.size, _, none⟩) (Nat.lt_of_lt_of_le hpl h.1.size)).trans h.2.2⟩
       have hS1 : (Below wr.heap.size wr wr.drew ∧ wr.drew.cell? ⟨w.heap.size, 0, none⟩ = some (.string r.run) ∧ wr.drew.cell? ⟨w.heap.size, 1, none⟩ = some (.string r.job)) := keepS _ _ hS0 ((Below.refl _ _).drew)
       replace keepS := Lib.hid keepS
       clear hS0
       go_upto_region 8 with (fail)
       refine wp_region_held_drew (S := fun w' => Below wr.heap.size wr w' ∧ w'.cell? ⟨w.heap.size, 0, none⟩ = some (.string r.run) ∧ w'.cell? ⟨w.heap.size, 1, none⟩ = some (.string r.job)) (by kernel_rfl) ?_ (fun hHeld => ?_)
       ·
        (try dsimp only)
        exact hS1
       refine tkY 0 (v := ?v188) rfl (.inl ⟨by rfl, ?hy188⟩) ?hr188
       case hy188 => (intro w hSw; (try dsimp only at hSw); go_simp; try with_reducible rfl)
       simp only [Act.put, List.getElem_toArray, List.getElem_cons_zero, List.setIfInBounds_toArray, List.set_cons_zero, List.set_cons_succ]
       refine wpAnyH_ready (rs := [1]) (by kernel_rfl) (by simp) ?_
       refine AllReadyH.cons rfl (fun K hK => ?_) AllReadyH.nil
       go_simp
       go_at_call 45
       refine (rproper_any r _).mono ?_
       rintro e r1 ⟨rfl, hbq⟩
       dsimp only
       rw [hpr]
       refine hK.out _ _ ?_ (fun hHeld => ?_)
       ·
        (try dsimp only)
        exact keepS.out _ _ hHeld hbq
       clear hK K
       try simp only [Act.put, List.getElem_toArray, List.getElem_cons_zero, List.getElem_cons_succ, List.setIfInBounds_toArray, List.set_cons_zero, List.set_cons_succ]
       refine tkY 2 (v := ?v189) rfl (.inl ⟨by rfl, ?hy189⟩) ?hr189
       case hy189 => (intro w hSw; (try dsimp only at hSw); go_simp; try with_reducible rfl)
       simp only [Act.put, List.getElem_toArray, List.getElem_cons_zero, List.getElem_cons_succ, List.setIfInBounds_toArray, List.set_cons_zero, List.set_cons_succ]
       refine tkY 3 (v := ?v190) rfl (.inl ⟨by rfl, ?hy190⟩) ?hr190
       case hy190 => (intro w hSw; (try dsimp only at hSw); go_simp; try with_reducible rfl)
       simp only [Act.put, List.getElem_toArray, List.getElem_cons_zero, List.getElem_cons_succ, List.setIfInBounds_toArray, List.set_cons_zero, List.set_cons_succ]
       refine tkN 4 rfl ?_
       simp only [Act.put, List.getElem_toArray, List.getElem_cons_zero, List.getElem_cons_succ, List.setIfInBounds_toArray, List.set_cons_zero, List.set_cons_succ]
       refine tkN 5 rfl ?_
       simp only [Act.put, List.getElem_toArray, List.getElem_cons_zero, List.getElem_cons_succ, List.setIfInBounds_toArray, List.set_cons_zero, List.set_cons_succ]
       refine tkN 6 rfl ?_
       simp only [Act.put, List.getElem_toArray, List.getElem_cons_zero, List.getElem_cons_succ, List.setIfInBounds_toArray, List.set_cons_zero, List.set_cons_succ]
       refine tkN 7 rfl ?_
       simp only [Act.put, List.getElem_toArray, List.getElem_cons_zero, List.getElem_cons_succ, List.setIfInBounds_toArray, List.set_cons_zero, List.set_cons_succ]
       refine tkN 8 rfl ?_
       simp only [Act.put, List.getElem_toArray, List.getElem_cons_zero, List.getElem_cons_succ, List.setIfInBounds_toArray, List.set_cons_zero, List.set_cons_succ]
       refine tkN 9 rfl ?_
       simp only [Act.put, List.getElem_toArray, List.getElem_cons_zero, List.getElem_cons_succ, List.setIfInBounds_toArray, List.set_cons_zero, List.set_cons_succ]
       refine tkN 10 rfl ?_
       simp only [Act.put, List.getElem_toArray, List.getElem_cons_zero, List.getElem_cons_succ, List.setIfInBounds_toArray, List.set_cons_zero, List.set_cons_succ]
       refine tkY 11 (v := ?v191) rfl (.inl ⟨by rfl, ?hy191⟩) ?hr191
       case hy191 => (intro w hSw; (try dsimp only at hSw); go_simp; try with_reducible rfl)
       simp only [Act.put, List.getElem_toArray, List.getElem_cons_zero, List.getElem_cons_succ, List.setIfInBounds_toArray, List.set_cons_zero, List.set_cons_succ]
       refine wpAnyH_done (by kernel_rfl) ?_ _
       have hbW := hHeld.1
       clear hHeld hS1 keepS
       have hbz := hb.trans (hbW.mono hb.size)
       repeat' ((fail_if_success at_builtin); (first | go_skip | go_guarded | go_step))
       go_roundw
       case rel => exact ⟨i + 1, by omega, by first | rfl | go_num, hbz⟩
       case measure => (try go_num); (try simp [intOf]); (try omega)
      ·
       have i1 : ¬ (i : Int) < (n : Int) := by omega
       have hbz := hO2.below
       repeat' ((fail_if_success at_builtin); (first | go_skip | go_guarded | go_step))
       go_ret2
       rw [hm0.out]
       exact RetL.same h hbz 8
    | true =>
     rw [hpr, if_neg (by simp)] at hm0
     replace hm0 := Lib.hid hm0
     repeat' ((fail_if_success at_builtin); (first | go_skip | go_guarded | go_step))
     go_loopw [8] (fun u8 wr => ∃ i : Nat, i ≤ n ∧ u8 = .int .i64 (i : Int) ∧ Below wo1.heap.size wo1 wr ∧ posA (holdE r) l = i + posA (holdE r) (l.drop i)) (fun u8 _ => n - (intOf u8).toNat)
     case atStart => exact ⟨0, by omega, rfl, Below.refl _ _, by simp⟩
     case round =>
      obtain ⟨i, hi, rfl, hb, hp⟩ := hrel
      have i0 : (0 : Int) ≤ (i : Int) := by omega
      have i2 : IntKind.i64.wrap ((i : Int) + 1) = (i : Int) + 1 := IntWalk.i64_in _ (by omega)
      have zwr := hb.size
      have hO2 : OwnB w wr [((w.heap.size + 1), [.string d.ref.run, .string d.ref.job, .int .u64 d.ver, .int .i64 d.at_, .int .i64 d.st]), (w.heap.size, [.string r.run, .string r.job])] := hO1.kept hb
      clear c0_0 c0_1 c0_2 c0_3 c0_4 cf0 c1_0 c1_1 cf1 hO1
      have c0_0 := hO2.c 0 0
      have c0_1 := hO2.c 0 1
      have c0_2 := hO2.c 0 2
      have c0_3 := hO2.c 0 3
      have c0_4 := hO2.c 0 4
      have cf0 := hO2.fr 0
      have c1_0 := hO2.c 1 0
      have c1_1 := hO2.c 1 1
      have cf1 := hO2.fr 1
      have hbS := hO2.below
      by_cases hlt : i < n
      ·
       have i1 : (i : Int) < (n : Int) := by omega
       have hpl := hO2.lt 1
       have hk : i < l.length := by omega
       obtain ⟨x, hx⟩ : ∃ x, l[i]? = some x := ⟨_, List.getElem?_eq_getElem hk⟩
       obtain ⟨g, o, A1, c1, A2, c2, rfl, hg, hS⟩ := env_at h.rd hx
       have hT := hS.below hg hbS
       have e0 := hT.e0
       have e1 := hT.e1
       have e2 := hT.e2
       have e3 := hT.e3
       have e4 := hT.e4
       have hgl : g < wr.heap.size := Nat.lt_of_lt_of_le hg hbS.size
       have hhl := hH x (List.mem_of_getElem? hx)
       have hq := run_neR x.holder r
       have hhe : holdE r x = eqR x.holder r := rfl
       clear hT
       cases hz : eqR x.holder r with
       | false =>
        simp only [hz] at hq
        have hp2 := posA_miss hx hp (by rw [hhe, hz])
        clear hp hhe hx
        replace hp2 := Lib.hid hp2
        have hS0 : (Below wr.heap.size wr wr ∧ wr.cell? ⟨g, o + i * 5 + 1, none⟩ = some (.string x.holder.run) ∧ wr.cell? ⟨g, o + i * 5 + 2, none⟩ = some (.string x.holder.job) ∧ wr.cell? ⟨w.heap.size, 0, none⟩ = some (.string r.run) ∧ wr.cell? ⟨w.heap.size, 1, none⟩ = some (.string r.job)) := ⟨Below.refl _ _, e1, e2, c1_0, c1_1⟩
        have keepS : ∀ v1 v2 : World, (Below wr.heap.size wr v1 ∧ v1.cell? ⟨g, o + i * 5 + 1, none⟩ = some (.string x.holder.run) ∧ v1.cell? ⟨g, o + i * 5 + 2, none⟩ = some (.string x.holder.job) ∧ v1.cell? ⟨w.heap.size, 0, none⟩ = some (.string r.run) ∧ v1.cell? ⟨w.heap.size, 1, none⟩ = some (.string r.job)) → Below v1.heap.size v1 v2 → (Below wr.heap.size wr v2 ∧ v2.cell? ⟨g, o + i * 5 + 1, none⟩ = some (.string x.holder.run) ∧ v2.cell? ⟨g, o + i * 5 + 2, none⟩ = some (.string x.holder.job) ∧ v2.cell? ⟨w.heap.size, 0, none⟩ = some (.string r.run) ∧ v2.cell? ⟨w.heap.size, 1, none⟩ = some (.string r.job)) := fun v1 v2 h hb => ⟨h.1.trans (hb.mono h.1.size), (hb.cell (p := ⟨g, _, none⟩) (Nat.lt_of_lt_of_le hgl h.1.size)).trans h.2.1, (hb.cell (p := ⟨g, _, none⟩) (Nat.lt_of_lt_of_le hgl h.1.size)).trans h.2.2.1, (hb.cell (p := ⟨w.heap.size, _, none⟩) (Nat.lt_of_lt_of_le hpl h.1.size)).trans h.2.2.2.1, (hb.cell (p := ⟨w.heap.size, _, none⟩) (Nat.lt_of_lt_of_le hpl h.1.size)).trans h.2.2.2.2⟩
        have hS1 : (Below wr.heap.size wr wr.drew ∧ wr.drew.cell? ⟨g, o + i * 5 + 1, none⟩ = some (.string x.holder.run) ∧ wr.drew.cell? ⟨g, o + i * 5 + 2, none⟩ = some (.string x.holder.job) ∧ wr.drew.cell? ⟨w.heap.size, 0, none⟩ = some (.string r.run) ∧ wr.drew.cell? ⟨w.heap.size, 1, none⟩ = some (.string r.job)) := keepS _ _ hS0 ((Below.refl _ _).drew)
        replace keepS := Lib.hid keepS
        clear hS0
        go_upto_region 8 with (fail)
        refine wp_region_held_drew (S := fun w' => Below wr.heap.size wr w' ∧ w'.cell? ⟨g, o + i * 5 + 1, none⟩ = some (.string x.holder.run) ∧ w'.cell? ⟨g, o + i * 5 + 2, none⟩ = some (.string x.holder.job) ∧ w'.cell? ⟨w.heap.size, 0, none⟩ = some (.string r.run) ∧ w'.cell? ⟨w.heap.size, 1, none⟩ = some (.string r.job)) (by kernel_rfl) ?_ (fun hHeld => ?_)
        ·
         (try dsimp only)
         exact hS1
        refine tkY 0 (v := ?v192) rfl (.inl ⟨by rfl, ?hy192⟩) ?hr192
        case hy192 => (intro w hSw; (try dsimp only at hSw); go_simp; try with_reducible rfl)
        simp only [Act.put, List.getElem_toArray, List.getElem_cons_zero, List.setIfInBounds_toArray, List.set_cons_zero, List.set_cons_succ]
        refine wpAnyH_ready (rs := [1]) (by kernel_rfl) (by simp) ?_
        refine AllReadyH.cons rfl (fun K hK => ?_) AllReadyH.nil
        go_simp
        go_at_call 45
        refine (rproper_any r _).mono ?_
        rintro e r1 ⟨rfl, hbq⟩
        dsimp only
        rw [hpr]
        refine hK.out _ _ ?_ (fun hHeld => ?_)
        ·
         (try dsimp only)
         exact keepS.out _ _ hHeld hbq
        clear hK K
        try simp only [Act.put, List.getElem_toArray, List.getElem_cons_zero, List.getElem_cons_succ, List.setIfInBounds_toArray, List.set_cons_zero, List.set_cons_succ]
        refine tkY 2 (v := ?v193) rfl (.inl ⟨by rfl, ?hy193⟩) ?hr193
        case hy193 => (intro w hSw; (try dsimp only at hSw); go_simp; try with_reducible rfl)
        simp only [Act.put, List.getElem_toArray, List.getElem_cons_zero, List.getElem_cons_succ, List.setIfInBounds_toArray, List.set_cons_zero, List.set_cons_succ]
        refine tkY 3 (v := ?v194) rfl (.inl ⟨by rfl, ?hy194⟩) ?hr194
        case hy194 => (intro w hSw; (try dsimp only at hSw); go_simp; try with_reducible rfl)
        simp only [Act.put, List.getElem_toArray, List.getElem_cons_zero, List.getElem_cons_succ, List.setIfInBounds_toArray, List.set_cons_zero, List.set_cons_succ]
        refine tkY 4 (v := ?v195) rfl (.inl ⟨by rfl, ?hy195⟩) ?hr195
        case hy195 => (intro w hSw; (try dsimp only at hSw); go_simp; try with_reducible rfl)
        simp only [Act.put, List.getElem_toArray, List.getElem_cons_zero, List.getElem_cons_succ, List.setIfInBounds_toArray, List.set_cons_zero, List.set_cons_succ]
        refine tkY 5 (v := ?v196) rfl (.inl ⟨by rfl, ?hy196⟩) ?hr196
        case hy196 => (intro w hSw; (try dsimp only at hSw); go_simp; try with_reducible rfl)
        simp only [Act.put, List.getElem_toArray, List.getElem_cons_zero, List.getElem_cons_succ, List.setIfInBounds_toArray, List.set_cons_zero, List.set_cons_succ]
        refine tkY 6 (v := ?v197) rfl (.inl ⟨by rfl, ?hy197⟩) ?hr197
        case hy197 => (intro w hSw; (try dsimp only at hSw); go_simp; try with_reducible rfl)
        simp only [Act.put, List.getElem_toArray, List.getElem_cons_zero, List.getElem_cons_succ, List.setIfInBounds_toArray, List.set_cons_zero, List.set_cons_succ]
        refine tkY 7 (v := ?v198) rfl (.inl ⟨by rfl, ?hy198⟩) ?hr198
        case hy198 => (intro w hSw; (try dsimp only at hSw); go_simp; try with_reducible rfl)
        simp only [Act.put, List.getElem_toArray, List.getElem_cons_zero, List.getElem_cons_succ, List.setIfInBounds_toArray, List.set_cons_zero, List.set_cons_succ]
        refine tkY 8 (v := ?v199) rfl (.inl ⟨by rfl, ?hy199⟩) ?hr199
        case hy199 => (intro w hSw; (try dsimp only at hSw); go_simp; try with_reducible rfl)
        simp only [Act.put, List.getElem_toArray, List.getElem_cons_zero, List.getElem_cons_succ, List.setIfInBounds_toArray, List.set_cons_zero, List.set_cons_succ]
        refine tkY 9 (v := ?v200) rfl (.inl ⟨by rfl, ?hy200⟩) ?hr200
        case hy200 => (intro w hSw; (try dsimp only at hSw); go_simp; try with_reducible rfl)
        simp only [Act.put, List.getElem_toArray, List.getElem_cons_zero, List.getElem_cons_succ, List.setIfInBounds_toArray, List.set_cons_zero, List.set_cons_succ]
        refine tkY 10 (v := ?v201) rfl (.inl ⟨by rfl, ?hy201⟩) ?hr201
        case hy201 => (intro w hSw; (try dsimp only at hSw); go_simp; try with_reducible rfl)
        simp only [Act.put, List.getElem_toArray, List.getElem_cons_zero, List.getElem_cons_succ, List.setIfInBounds_toArray, List.set_cons_zero, List.set_cons_succ]
        refine tkY 11 (v := ?v202) rfl (.inl ⟨by rfl, ?hy202⟩) ?hr202
        case hy202 => (intro w hSw; (try dsimp only at hSw); go_simp; try with_reducible rfl)
        simp only [Act.put, List.getElem_toArray, List.getElem_cons_zero, List.getElem_cons_succ, List.setIfInBounds_toArray, List.set_cons_zero, List.set_cons_succ]
        refine wpAnyH_done (by kernel_rfl) ?_ _
        have hbW := hHeld.1
        clear hHeld hS1 keepS
        have hbz := hb.trans (hbW.mono hb.size)
        repeat' ((fail_if_success at_builtin); (first | go_skip | go_guarded | go_step))
        go_roundw
        case rel => exact ⟨i + 1, by omega, by first | rfl | go_num, hbz, hp2.out⟩
        case measure => (try go_num); (try simp [intOf]); (try omega)
       | true =>
        simp only [hz] at hq
        have hpi : posA (holdE r) l = i := by
         have h1 := posA_hit hx hp (by rw [hhe, hz])
         unfold posI at h1
         split at h1 <;> omega
        have hm1 := hm0.out
        rw [hpi, hx] at hm1
        dsimp only at hm1
        replace hm1 := Lib.hid hm1
        clear hp hhe hx hpi
        have hS0 : (Below wr.heap.size wr wr ∧ wr.cell? ⟨g, o + i * 5, none⟩ = some (.string x.name) ∧ wr.cell? ⟨g, o + i * 5 + 1, none⟩ = some (.string x.holder.run) ∧ wr.cell? ⟨g, o + i * 5 + 2, none⟩ = some (.string x.holder.job) ∧ wr.cell? ⟨g, o + i * 5 + 3, none⟩ = some (.slice A1 x.waiting.length c1) ∧ wr.cell? ⟨g, o + i * 5 + 4, none⟩ = some (.slice A2 x.history.length c2) ∧ wr.cell? ⟨w.heap.size, 0, none⟩ = some (.string r.run) ∧ wr.cell? ⟨w.heap.size, 1, none⟩ = some (.string r.job)) := ⟨Below.refl _ _, e0, e1, e2, e3, e4, c1_0, c1_1⟩
        have keepS : ∀ v1 v2 : World, (Below wr.heap.size wr v1 ∧ v1.cell? ⟨g, o + i * 5, none⟩ = some (.string x.name) ∧ v1.cell? ⟨g, o + i * 5 + 1, none⟩ = some (.string x.holder.run) ∧ v1.cell? ⟨g, o + i * 5 + 2, none⟩ = some (.string x.holder.job) ∧ v1.cell? ⟨g, o + i * 5 + 3, none⟩ = some (.slice A1 x.waiting.length c1) ∧ v1.cell? ⟨g, o + i * 5 + 4, none⟩ = some (.slice A2 x.history.length c2) ∧ v1.cell? ⟨w.heap.size, 0, none⟩ = some (.string r.run) ∧ v1.cell? ⟨w.heap.size, 1, none⟩ = some (.string r.job)) → Below v1.heap.size v1 v2 → (Below wr.heap.size wr v2 ∧ v2.cell? ⟨g, o + i * 5, none⟩ = some (.string x.name) ∧ v2.cell? ⟨g, o + i * 5 + 1, none⟩ = some (.string x.holder.run) ∧ v2.cell? ⟨g, o + i * 5 + 2, none⟩ = some (.string x.holder.job) ∧ v2.cell? ⟨g, o + i * 5 + 3, none⟩ = some (.slice A1 x.waiting.length c1) ∧ v2.cell? ⟨g, o + i * 5 + 4, none⟩ = some (.slice A2 x.history.length c2) ∧ v2.cell? ⟨w.heap.size, 0, none⟩ = some (.string r.run) ∧ v2.cell? ⟨w.heap.size, 1, none⟩ = some (.string r.job)) := fun v1 v2 h hb => ⟨h.1.trans (hb.mono h.1.size), (hb.cell (p := ⟨g, _, none⟩) (Nat.lt_of_lt_of_le hgl h.1.size)).trans h.2.1, (hb.cell (p := ⟨g, _, none⟩) (Nat.lt_of_lt_of_le hgl h.1.size)).trans h.2.2.1, (hb.cell (p := ⟨g, _, none⟩) (Nat.lt_of_lt_of_le hgl h.1.size)).trans h.2.2.2.1, (hb.cell (p := ⟨g, _, none⟩) (Nat.lt_of_lt_of_le hgl h.1.size)).trans h.2.2.2.2.1, (hb.cell (p := ⟨g, _, none⟩) (Nat.lt_of_lt_of_le hgl h.1.size)).trans h.2.2.2.2.2.1, (hb.cell (p := ⟨w.heap.size, _, none⟩) (Nat.lt_of_lt_of_le hpl h.1.size)).trans h.2.2.2.2.2.2.1, (hb.cell (p := ⟨w.heap.size, _, none⟩) (Nat.lt_of_lt_of_le hpl h.1.size)).trans h.2.2.2.2.2.2.2⟩
        have hS1 : (Below wr.heap.size wr wr.drew ∧ wr.drew.cell? ⟨g, o + i * 5, none⟩ = some (.string x.name) ∧ wr.drew.cell? ⟨g, o + i * 5 + 1, none⟩ = some (.string x.holder.run) ∧ wr.drew.cell? ⟨g, o + i * 5 + 2, none⟩ = some (.string x.holder.job) ∧ wr.drew.cell? ⟨g, o + i * 5 + 3, none⟩ = some (.slice A1 x.waiting.length c1) ∧ wr.drew.cell? ⟨g, o + i * 5 + 4, none⟩ = some (.slice A2 x.history.length c2) ∧ wr.drew.cell? ⟨w.heap.size, 0, none⟩ = some (.string r.run) ∧ wr.drew.cell? ⟨w.heap.size, 1, none⟩ = some (.string r.job)) := keepS _ _ hS0 ((Below.refl _ _).drew)
        replace keepS := Lib.hid keepS
        clear hS0
        go_upto_region 8 with (fail)
        refine wp_region_held_drew (S := fun w' => Below wr.heap.size wr w' ∧ w'.cell? ⟨g, o + i * 5, none⟩ = some (.string x.name) ∧ w'.cell? ⟨g, o + i * 5 + 1, none⟩ = some (.string x.holder.run) ∧ w'.cell? ⟨g, o + i * 5 + 2, none⟩ = some (.string x.holder.job) ∧ w'.cell? ⟨g, o + i * 5 + 3, none⟩ = some (.slice A1 x.waiting.length c1) ∧ w'.cell? ⟨g, o + i * 5 + 4, none⟩ = some (.slice A2 x.history.length c2) ∧ w'.cell? ⟨w.heap.size, 0, none⟩ = some (.string r.run) ∧ w'.cell? ⟨w.heap.size, 1, none⟩ = some (.string r.job)) (by kernel_rfl) ?_ (fun hHeld => ?_)
        ·
         (try dsimp only)
         exact hS1
        refine tkY 0 (v := ?v203) rfl (.inl ⟨by rfl, ?hy203⟩) ?hr203
        case hy203 => (intro w hSw; (try dsimp only at hSw); go_simp; try with_reducible rfl)
        simp only [Act.put, List.getElem_toArray, List.getElem_cons_zero, List.setIfInBounds_toArray, List.set_cons_zero, List.set_cons_succ]
        refine wpAnyH_ready (rs := [1]) (by kernel_rfl) (by simp) ?_
        refine AllReadyH.cons rfl (fun K hK => ?_) AllReadyH.nil
        go_simp
        go_at_call 45
        refine (rproper_any r _).mono ?_
        rintro e r1 ⟨rfl, hbq⟩
        dsimp only
        rw [hpr]
        refine hK.out _ _ ?_ (fun hHeld => ?_)
        ·
         (try dsimp only)
         exact keepS.out _ _ hHeld hbq
        clear hK K
        try simp only [Act.put, List.getElem_toArray, List.getElem_cons_zero, List.getElem_cons_succ, List.setIfInBounds_toArray, List.set_cons_zero, List.set_cons_succ]
        refine tkY 2 (v := ?v204) rfl (.inl ⟨by rfl, ?hy204⟩) ?hr204
        case hy204 => (intro w hSw; (try dsimp only at hSw); go_simp; try with_reducible rfl)
        simp only [Act.put, List.getElem_toArray, List.getElem_cons_zero, List.getElem_cons_succ, List.setIfInBounds_toArray, List.set_cons_zero, List.set_cons_succ]
        refine tkY 3 (v := ?v205) rfl (.inl ⟨by rfl, ?hy205⟩) ?hr205
        case hy205 => (intro w hSw; (try dsimp only at hSw); go_simp; try with_reducible rfl)
        simp only [Act.put, List.getElem_toArray, List.getElem_cons_zero, List.getElem_cons_succ, List.setIfInBounds_toArray, List.set_cons_zero, List.set_cons_succ]
        refine tkY 4 (v := ?v206) rfl (.inl ⟨by rfl, ?hy206⟩) ?hr206
        case hy206 => (intro w hSw; (try dsimp only at hSw); go_simp; try with_reducible rfl)
        simp only [Act.put, List.getElem_toArray, List.getElem_cons_zero, List.getElem_cons_succ, List.setIfInBounds_toArray, List.set_cons_zero, List.set_cons_succ]
        refine tkY 5 (v := ?v207) rfl (.inl ⟨by rfl, ?hy207⟩) ?hr207
        case hy207 => (intro w hSw; (try dsimp only at hSw); go_simp; try with_reducible rfl)
        simp only [Act.put, List.getElem_toArray, List.getElem_cons_zero, List.getElem_cons_succ, List.setIfInBounds_toArray, List.set_cons_zero, List.set_cons_succ]
        refine tkY 6 (v := ?v208) rfl (.inl ⟨by rfl, ?hy208⟩) ?hr208
        case hy208 => (intro w hSw; (try dsimp only at hSw); go_simp; try with_reducible rfl)
        simp only [Act.put, List.getElem_toArray, List.getElem_cons_zero, List.getElem_cons_succ, List.setIfInBounds_toArray, List.set_cons_zero, List.set_cons_succ]
        refine tkY 7 (v := ?v209) rfl (.inl ⟨by rfl, ?hy209⟩) ?hr209
        case hy209 => (intro w hSw; (try dsimp only at hSw); go_simp; try with_reducible rfl)
        simp only [Act.put, List.getElem_toArray, List.getElem_cons_zero, List.getElem_cons_succ, List.setIfInBounds_toArray, List.set_cons_zero, List.set_cons_succ]
        refine tkY 8 (v := ?v210) rfl (.inl ⟨by rfl, ?hy210⟩) ?hr210
        case hy210 => (intro w hSw; (try dsimp only at hSw); go_simp; try with_reducible rfl)
        simp only [Act.put, List.getElem_toArray, List.getElem_cons_zero, List.getElem_cons_succ, List.setIfInBounds_toArray, List.set_cons_zero, List.set_cons_succ]
        refine tkY 9 (v := ?v211) rfl (.inl ⟨by rfl, ?hy211⟩) ?hr211
        case hy211 => (intro w hSw; (try dsimp only at hSw); go_simp; try with_reducible rfl)
        simp only [Act.put, List.getElem_toArray, List.getElem_cons_zero, List.getElem_cons_succ, List.setIfInBounds_toArray, List.set_cons_zero, List.set_cons_succ]
        refine tkY 10 (v := ?v212) rfl (.inl ⟨by rfl, ?hy212⟩) ?hr212
        case hy212 => (intro w hSw; (try dsimp only at hSw); go_simp; try with_reducible rfl)
        simp only [Act.put, List.getElem_toArray, List.getElem_cons_zero, List.getElem_cons_succ, List.setIfInBounds_toArray, List.set_cons_zero, List.set_cons_succ]
        refine tkY 11 (v := ?v213) rfl (.inl ⟨by rfl, ?hy213⟩) ?hr213
        case hy213 => (intro w hSw; (try dsimp only at hSw); go_simp; try with_reducible rfl)
        simp only [Act.put, List.getElem_toArray, List.getElem_cons_zero, List.getElem_cons_succ, List.setIfInBounds_toArray, List.set_cons_zero, List.set_cons_succ]
        refine wpAnyH_done (by kernel_rfl) ?_ _
        have hbW := hHeld.1
        clear hHeld hS1 keepS
        clear e0 e1 e2 e3 e4 hgl hpl hbS
        replace hbW := Lib.hid hbW
        have zr1 := hbW.out.size
        have hO3 : OwnB w r1 [((w.heap.size + 1), [.string d.ref.run, .string d.ref.job, .int .u64 d.ver, .int .i64 d.at_, .int .i64 d.st]), (w.heap.size, [.string r.run, .string r.job])] := hO2.kept hbW.out
        clear c0_0 c0_1 c0_2 c0_3 c0_4 cf0 c1_0 c1_1 cf1 hO2
        have c0_0 := hO3.c 0 0
        have c0_1 := hO3.c 0 1
        have c0_2 := hO3.c 0 2
        have c0_3 := hO3.c 0 3
        have c0_4 := hO3.c 0 4
        have cf0 := hO3.fr 0
        have c1_0 := hO3.c 1 0
        have c1_1 := hO3.c 1 1
        have cf1 := hO3.fr 1
        have hbS := hO3.below
        have hT := hS.below hg hbS
        have e0 := hT.e0
        have e1 := hT.e1
        have e2 := hT.e2
        have e3 := hT.e3
        have e4 := hT.e4
        have hws := hbS.size
        clear hT
        go_upto_region 10 with (fail)
        generalize hx_ : World.alloc r1 _ = wo4
        have hO4 : OwnB w wo4 [(r1.heap.size, [.string x.name, .string x.holder.run, .string x.holder.job, .slice A1 x.waiting.length c1, .slice A2 x.history.length c2]), ((w.heap.size + 1), [.string d.ref.run, .string d.ref.job, .int .u64 d.ver, .int .i64 d.at_, .int .i64 d.st]), (w.heap.size, [.string r.run, .string r.job])] := by rw [← hx_]; exact hO3.new #[.string x.name, .string x.holder.run, .string x.holder.job, .slice A1 x.waiting.length c1, .slice A2 x.history.length c2] _ (g := r1.heap.size)
        have hbn : Below r1.heap.size r1 wo4 := by rw [← hx_]; exact (Below.refl _ _).alloc (Nat.le_refl _) _
        have zwo4 : r1.heap.size + 0 < wo4.heap.size := by rw [← hx_]; simp <;> omega
        clear hx_ c0_0 c0_1 c0_2 c0_3 c0_4 cf0 c1_0 c1_1 cf1 hO3
        have c0_0 := hO4.c 0 0
        have c0_1 := hO4.c 0 1
        have c0_2 := hO4.c 0 2
        have c0_3 := hO4.c 0 3
        have c0_4 := hO4.c 0 4
        have cf0 := hO4.fr 0
        have c1_0 := hO4.c 1 0
        have c1_1 := hO4.c 1 1
        have c1_2 := hO4.c 1 2
        have c1_3 := hO4.c 1 3
        have c1_4 := hO4.c 1 4
        have cf1 := hO4.fr 1
        have c2_0 := hO4.c 2 0
        have c2_1 := hO4.c 2 1
        have cf2 := hO4.fr 2
        clear hbn
        clear e0 e1 e2 e3 e4 hbS
        go_upto_region 11 with (fail)
        generalize hx_ : World.setCell (World.setCell _ _ _) _ _ = wo5
        have hO5 : OwnB w wo5 [(r1.heap.size, [.string x.name, .string ⟨#[]⟩, .string ⟨#[]⟩, .slice A1 x.waiting.length c1, .slice A2 x.history.length c2]), ((w.heap.size + 1), [.string d.ref.run, .string d.ref.job, .int .u64 d.ver, .int .i64 d.at_, .int .i64 d.st]), (w.heap.size, [.string r.run, .string r.job])] := by rw [← hx_]; exact (hO4.store 0 rfl 1 _).store 0 rfl 2 _
        have zwo5 : wo4.heap.size ≤ wo5.heap.size := by rw [← hx_]; simp [World.setCell]
        clear hx_ c0_0 c0_1 c0_2 c0_3 c0_4 cf0 c1_0 c1_1 c1_2 c1_3 c1_4 cf1 c2_0 c2_1 cf2 hO4
        have c0_0 := hO5.c 0 0
        have c0_1 := hO5.c 0 1
        have c0_2 := hO5.c 0 2
        have c0_3 := hO5.c 0 3
        have c0_4 := hO5.c 0 4
        have cf0 := hO5.fr 0
        have c1_0 := hO5.c 1 0
        have c1_1 := hO5.c 1 1
        have c1_2 := hO5.c 1 2
        have c1_3 := hO5.c 1 3
        have c1_4 := hO5.c 1 4
        have cf1 := hO5.fr 1
        have c2_0 := hO5.c 2 0
        have c2_1 := hO5.c 2 1
        have cf2 := hO5.fr 2
        have hby1 : (([] : List Dep).length + x.history.length) * 56 ≤ 140737488355328 := by simp; omega
        have hby2 : (x.history.length + 1) * 56 ≤ 140737488355328 := by omega
        go_cut [65] (fun u65 wx => ∃ (wq : World) (A6 : Option Addr) (c6 : Nat), wq = wx ∧ OwnB w wq [(r1.heap.size, [.string x.name, .string ⟨#[]⟩, .string ⟨#[]⟩, .slice A1 x.waiting.length c1, .slice A6 (x.history.length + 1) c6]), ((w.heap.size + 1), [.string d.ref.run, .string d.ref.job, .int .u64 d.ver, .int .i64 d.at_, .int .i64 d.st]), (w.heap.size, [.string r.run, .string r.job])] ∧ OwnR rDep 5 w wq depT (.slice A6 (x.history.length + 1) c6) (x.history ++ [(⟨r, d.ver, d.at_, d.st⟩ : Dep)]) ∧ Value.ownBlock (.slice A6 (x.history.length + 1) c6) ≠ some r1.heap.size)
        case first =>
         have HB0 := hO5.below
         have HX_ := hO5.lt 0
         have hb : Below wo5.heap.size wo5 wo5.drew := (Below.refl _ _).drew
         refine wp_region_held_drew (S := fun w' => w'.cell? ⟨w.heap.size, 0, none⟩ = some (.string r.run) ∧ w'.cell? ⟨w.heap.size, 1, none⟩ = some (.string r.job) ∧ w'.cell? ⟨(w.heap.size + 1), 0, none⟩ = some (.string d.ref.run) ∧ w'.cell? ⟨(w.heap.size + 1), 1, none⟩ = some (.string d.ref.job) ∧ w'.cell? ⟨(w.heap.size + 1), 2, none⟩ = some (.int .u64 d.ver) ∧ w'.cell? ⟨(w.heap.size + 1), 3, none⟩ = some (.int .i64 d.at_) ∧ w'.cell? ⟨(w.heap.size + 1), 4, none⟩ = some (.int .i64 d.st)) (by kernel_rfl) ?_ (fun hHeld => ?_)
         ·
          (try dsimp only)
          exact ⟨hO5.c 2 0, hO5.c 2 1, hO5.c 1 0, hO5.c 1 1, hO5.c 1 2, hO5.c 1 3, hO5.c 1 4⟩
         generalize World.drew wo5 = vd at *
         refine tkY 1 (v := ?v214) rfl (.inl ⟨by rfl, ?hy214⟩) ?hr214
         case hy214 => (intro w hSw; (try dsimp only at hSw); go_simp; try with_reducible rfl)
         simp only [Act.put, List.getElem_toArray, List.getElem_cons_zero, List.getElem_cons_succ, List.setIfInBounds_toArray, List.set_cons_zero, List.set_cons_succ]
         refine tkY 4 (v := ?v215) rfl (.inl ⟨by rfl, ?hy215⟩) ?hr215
         case hy215 => (intro w hSw; (try dsimp only at hSw); go_simp; try with_reducible rfl)
         simp only [Act.put, List.getElem_toArray, List.getElem_cons_zero, List.getElem_cons_succ, List.setIfInBounds_toArray, List.set_cons_zero, List.set_cons_succ]
         refine tkY 5 (v := ?v216) rfl (.inl ⟨by rfl, ?hy216⟩) ?hr216
         case hy216 => (intro w hSw; (try dsimp only at hSw); go_simp; try with_reducible rfl)
         simp only [Act.put, List.getElem_toArray, List.getElem_cons_zero, List.getElem_cons_succ, List.setIfInBounds_toArray, List.set_cons_zero, List.set_cons_succ]
         refine tkY 6 (v := ?v217) rfl (.inl ⟨by rfl, ?hy217⟩) ?hr217
         case hy217 => (intro w hSw; (try dsimp only at hSw); go_simp; try with_reducible rfl)
         simp only [Act.put, List.getElem_toArray, List.getElem_cons_zero, List.getElem_cons_succ, List.setIfInBounds_toArray, List.set_cons_zero, List.set_cons_succ]
         refine tkY 7 (v := ?v218) rfl (.inl ⟨by rfl, ?hy218⟩) ?hr218
         case hy218 => (intro w hSw; (try dsimp only at hSw); go_simp; try with_reducible rfl)
         simp only [Act.put, List.getElem_toArray, List.getElem_cons_zero, List.getElem_cons_succ, List.setIfInBounds_toArray, List.set_cons_zero, List.set_cons_succ]
         refine tkY 8 (v := ?v219) rfl (.inl ⟨by rfl, ?hy219⟩) ?hr219
         case hy219 => (intro w hSw; (try dsimp only at hSw); go_simp; try with_reducible rfl)
         simp only [Act.put, List.getElem_toArray, List.getElem_cons_zero, List.getElem_cons_succ, List.setIfInBounds_toArray, List.set_cons_zero, List.set_cons_succ]
         refine tkY 9 (v := ?v220) rfl (.inl ⟨by rfl, ?hy220⟩) ?hr220
         case hy220 => (intro w hSw; (try dsimp only at hSw); go_simp; try with_reducible rfl)
         simp only [Act.put, List.getElem_toArray, List.getElem_cons_zero, List.getElem_cons_succ, List.setIfInBounds_toArray, List.set_cons_zero, List.set_cons_succ]
         refine tkY 10 (v := ?v221) rfl (.inl ⟨by rfl, ?hy221⟩) ?hr221
         case hy221 => (intro w hSw; (try dsimp only at hSw); go_simp; try with_reducible rfl)
         simp only [Act.put, List.getElem_toArray, List.getElem_cons_zero, List.getElem_cons_succ, List.setIfInBounds_toArray, List.set_cons_zero, List.set_cons_succ]
         refine tkY 11 (v := ?v222) rfl (.inl ⟨by rfl, ?hy222⟩) ?hr222
         case hy222 => (intro w hSw; (try dsimp only at hSw); go_simp; try with_reducible rfl)
         simp only [Act.put, List.getElem_toArray, List.getElem_cons_zero, List.getElem_cons_succ, List.setIfInBounds_toArray, List.set_cons_zero, List.set_cons_succ]
         refine wpAnyH_ready (rs := [0, 2, 12]) (by kernel_rfl) (by simp) ?_
         refine AllReadyH.cons rfl (fun K hK => ?_) ?_
         ·
          go_simp
          have hba := (Below.refl vd.heap.size vd).alloc (Nat.le_refl _) (.cells #[] depT)
          have hR := OwnR.empty (r := rDep) (sz := 5) vd depT
          have hVW := hb
          replace hb := hb.trans (hba.mono hb.size)
          clear hba
          generalize World.alloc vd _ = v1 at *
          refine hK.out _ _ ?_ (fun hHeld => ?_)
          ·
           (try dsimp only)
           exact ⟨(hO5.kept hb).c 2 0, (hO5.kept hb).c 2 1, (hO5.kept hb).c 1 0, (hO5.kept hb).c 1 1, (hO5.kept hb).c 1 2, (hO5.kept hb).c 1 3, (hO5.kept hb).c 1 4⟩
          clear hK K
          try simp only [Act.put, List.getElem_toArray, List.getElem_cons_zero, List.getElem_cons_succ, List.setIfInBounds_toArray, List.set_cons_zero, List.set_cons_succ]
          refine wpAnyH_ready (rs := [2, 12]) (by kernel_rfl) (by simp) ?_
          refine AllReadyH.cons rfl (fun K hK => ?_) ?_
          ·
           have x3 := (hO5.kept hb).c 0 4
           go_simp
           clear x3
           refine hK.out _ _ ?_ (fun hHeld => ?_)
           ·
            (try dsimp only)
            exact ⟨(hO5.kept hb).c 2 0, (hO5.kept hb).c 2 1, (hO5.kept hb).c 1 0, (hO5.kept hb).c 1 1, (hO5.kept hb).c 1 2, (hO5.kept hb).c 1 3, (hO5.kept hb).c 1 4⟩
           clear hK K
           try simp only [Act.put, List.getElem_toArray, List.getElem_cons_zero, List.getElem_cons_succ, List.setIfInBounds_toArray, List.set_cons_zero, List.set_cons_succ]
           refine wpAnyH_ready (rs := [3, 12]) (by kernel_rfl) (by simp) ?_
           refine AllReadyH.cons rfl (fun K hK => ?_) ?_
           ·
            have hVs : w.heap.size ≤ vd.heap.size := Nat.le_trans hO5.below.size hVW.size
            have hws := ((hS.hist.below rDep_ok (hO5.below.trans (hb.mono hO5.below.size))).more rDep_ok (S' := Beh v1 (.slice (some ⟨vd.heap.size, 0, none⟩) 0 0)) (fun b hb' => beh_old hR (Nat.lt_of_lt_of_le hb' hVs)))
            refine step_appRS rDep_ok rDep_one hR hws Tryd.underlying59 dep_info hby1 ?_
            intro v4 w4_ hR4 hg4
            rw [List.nil_append] at hR4
            obtain ⟨A4, c4, rfl⟩ := hR4.form
            replace hb := hVW.trans (hR4.bel.mono hVW.size)
            replace hR := hR4
            clear hR4 hg4 hws hVs
            refine hK.out _ _ ?_ (fun hHeld => ?_)
            ·
             (try dsimp only)
             exact ⟨(hO5.kept hb).c 2 0, (hO5.kept hb).c 2 1, (hO5.kept hb).c 1 0, (hO5.kept hb).c 1 1, (hO5.kept hb).c 1 2, (hO5.kept hb).c 1 3, (hO5.kept hb).c 1 4⟩
            clear hK K
            try simp only [Act.put, List.getElem_toArray, List.getElem_cons_zero, List.getElem_cons_succ, List.setIfInBounds_toArray, List.set_cons_zero, List.set_cons_succ]
            refine wpAnyH_ready (rs := [12]) (by kernel_rfl) (by simp) ?_
            refine AllReadyH.cons rfl (fun K hK => ?_) ?_
            ·
             go_simp
             have hba := (Below.refl w4_.heap.size w4_).alloc (Nat.le_refl _) (.cells #[.string r.run, .string r.job, .int .u64 d.ver, .int .i64 d.at_, .int .i64 d.st] depT)
             have b0 := (CellsAt.new w4_ #[.string r.run, .string r.job, .int .u64 d.ver, .int .i64 d.at_, .int .i64 d.st] depT).cell 0 _ rfl
             have b1 := (CellsAt.new w4_ #[.string r.run, .string r.job, .int .u64 d.ver, .int .i64 d.at_, .int .i64 d.st] depT).cell 1 _ rfl
             have b2 := (CellsAt.new w4_ #[.string r.run, .string r.job, .int .u64 d.ver, .int .i64 d.at_, .int .i64 d.st] depT).cell 2 _ rfl
             have b3 := (CellsAt.new w4_ #[.string r.run, .string r.job, .int .u64 d.ver, .int .i64 d.at_, .int .i64 d.st] depT).cell 3 _ rfl
             have b4 := (CellsAt.new w4_ #[.string r.run, .string r.job, .int .u64 d.ver, .int .i64 d.at_, .int .i64 d.st] depT).cell 4 _ rfl
             have gBlt : w4_.heap.size < (World.alloc w4_ (.cells #[.string r.run, .string r.job, .int .u64 d.ver, .int .i64 d.at_, .int .i64 d.st] depT)).heap.size := by simp
             have gBne : some w4_.heap.size ≠ Value.ownBlock (.slice A4 x.history.length c4) := hR.ltB (Nat.le_refl _)
             replace hR := hR.below rDep_ok hba
             replace hb := hb.trans (hba.mono hb.size)
             clear hba
             generalize World.alloc w4_ _ = v4 at *
             refine hK.out _ _ ?_ (fun hHeld => ?_)
             ·
              (try dsimp only)
              exact ⟨(hO5.kept hb).c 2 0, (hO5.kept hb).c 2 1, (hO5.kept hb).c 1 0, (hO5.kept hb).c 1 1, (hO5.kept hb).c 1 2, (hO5.kept hb).c 1 3, (hO5.kept hb).c 1 4⟩
             clear hK K
             try simp only [Act.put, List.getElem_toArray, List.getElem_cons_zero, List.getElem_cons_succ, List.setIfInBounds_toArray, List.set_cons_zero, List.set_cons_succ]
             refine wpAnyH_ready (rs := [13]) (by kernel_rfl) (by simp) ?_
             refine AllReadyH.cons rfl (fun K hK => ?_) ?_
             ·
              have hbx := box_dep (d := (⟨r, d.ver, d.at_, d.st⟩ : Dep)) (S := Beh v4 (.slice A4 x.history.length c4)) ⟨gBlt, gBne⟩ b0 b1 b2 b3 b4
              refine step_appRS rDep_ok rDep_one hR hbx Tryd.underlying59 dep_info hby2 ?_
              intro v6 w6_ hR6 hg6
              obtain ⟨A6, c6, rfl⟩ := hR6.form
              have hl6 : (x.history ++ [(⟨r, d.ver, d.at_, d.st⟩ : Dep)]).length = x.history.length + 1 := by simp
              rw [hl6] at hR6 ⊢
              replace hb := hVW.trans (hR6.bel.mono hVW.size)
              replace hR := hR6
              clear hR6 hg6 hbx hl6 gBlt gBne b0 b1 b2 b3 b4
              refine hK.out _ _ ?_ (fun hHeld => ?_)
              ·
               (try dsimp only)
               exact ⟨(hO5.kept hb).c 2 0, (hO5.kept hb).c 2 1, (hO5.kept hb).c 1 0, (hO5.kept hb).c 1 1, (hO5.kept hb).c 1 2, (hO5.kept hb).c 1 3, (hO5.kept hb).c 1 4⟩
              clear hK K
              try simp only [Act.put, List.getElem_toArray, List.getElem_cons_zero, List.getElem_cons_succ, List.setIfInBounds_toArray, List.set_cons_zero, List.set_cons_succ]
              refine tkY 14 (v := ?v223) rfl (.inl ⟨by rfl, ?hy223⟩) ?hr223
              case hy223 => (intro w hSw; (try dsimp only at hSw); go_simp; try with_reducible rfl)
              simp only [Act.put, List.getElem_toArray, List.getElem_cons_zero, List.getElem_cons_succ, List.setIfInBounds_toArray, List.set_cons_zero, List.set_cons_succ]
              refine wpAnyH_ready (rs := [15]) (by kernel_rfl) (by simp) ?_
              refine AllReadyH.cons rfl (fun K hK => ?_) ?_
              ·
               have x3 := (hO5.kept hb).c 0 4
               have xf := (hO5.kept hb).fr 0
               have hOs := (hO5.kept hb).store 0 rfl 4 (.slice A6 (x.history.length + 1) c6)
               go_simp
               clear x3 xf
               refine hK.out _ _ ?_ (fun hHeld => ?_)
               ·
                (try dsimp only)
                exact ⟨hOs.c 2 0, hOs.c 2 1, hOs.c 1 0, hOs.c 1 1, hOs.c 1 2, hOs.c 1 3, hOs.c 1 4⟩
               clear hK K
               try simp only [Act.put, List.getElem_toArray, List.getElem_cons_zero, List.getElem_cons_succ, List.setIfInBounds_toArray, List.set_cons_zero, List.set_cons_succ]
               refine wpAnyH_done (by kernel_rfl) ?_ _
               clear hOs
               have hO6 : OwnB w w6_ [(r1.heap.size, [.string x.name, .string ⟨#[]⟩, .string ⟨#[]⟩, .slice A1 x.waiting.length c1, .slice A2 x.history.length c2]), ((w.heap.size + 1), [.string d.ref.run, .string d.ref.job, .int .u64 d.ver, .int .i64 d.at_, .int .i64 d.st]), (w.heap.size, [.string r.run, .string r.job])] := hO5.kept hb
               clear c0_0 c0_1 c0_2 c0_3 c0_4 cf0 c1_0 c1_1 c1_2 c1_3 c1_4 cf1 c2_0 c2_1 cf2 hO5
               have c0_0 := hO6.c 0 0
               have c0_1 := hO6.c 0 1
               have c0_2 := hO6.c 0 2
               have c0_3 := hO6.c 0 3
               have c0_4 := hO6.c 0 4
               have cf0 := hO6.fr 0
               have c1_0 := hO6.c 1 0
               have c1_1 := hO6.c 1 1
               have c1_2 := hO6.c 1 2
               have c1_3 := hO6.c 1 3
               have c1_4 := hO6.c 1 4
               have cf1 := hO6.fr 1
               have c2_0 := hO6.c 2 0
               have c2_1 := hO6.c 2 1
               have cf2 := hO6.fr 2
               have hR4 := hR
               have hbV := (HB0).trans (hVW.mono HB0.size)
               have hxl := Nat.lt_of_lt_of_le (HX_) hVW.size
               clear hR
               have hld : (x.history ++ [(⟨r, d.ver, d.at_, d.st⟩ : Dep)]).length = x.history.length + 1 := by simp
               (try rw [hld] at hR4)
               replace hld := Lib.hid hld
               have hne : Value.ownBlock (.slice A6 (x.history.length + 1) c6) ≠ some (r1.heap.size) := fun e => by
                obtain ⟨cs, HH, _⟩ := hR4
                have := (HH.1.lt _ e).1
                omega
               have hR5 := (OwnR.up (w1 := vd) hbV hR4).farSet (xb := r1.heap.size) (o := 4) (u := .slice A6 (x.history.length + 1) c6) rDep_ok hne (by omega) (fun x c h => h)
               generalize hx_ : World.setCell _ _ _ = wo7
               rw [hx_] at hR5
               have hO7 : OwnB w wo7 [(r1.heap.size, [.string x.name, .string ⟨#[]⟩, .string ⟨#[]⟩, .slice A1 x.waiting.length c1, .slice A6 (x.history.length + 1) c6]), ((w.heap.size + 1), [.string d.ref.run, .string d.ref.job, .int .u64 d.ver, .int .i64 d.at_, .int .i64 d.st]), (w.heap.size, [.string r.run, .string r.job])] := by rw [← hx_]; exact hO6.store 0 rfl 4 _
               have zwo7 : w6_.heap.size ≤ wo7.heap.size := by rw [← hx_]; simp [World.setCell]
               clear hx_ c0_0 c0_1 c0_2 c0_3 c0_4 cf0 c1_0 c1_1 c1_2 c1_3 c1_4 cf1 c2_0 c2_1 cf2 hO6
               have c0_0 := hO7.c 0 0
               have c0_1 := hO7.c 0 1
               have c0_2 := hO7.c 0 2
               have c0_3 := hO7.c 0 3
               have c0_4 := hO7.c 0 4
               have cf0 := hO7.fr 0
               have c1_0 := hO7.c 1 0
               have c1_1 := hO7.c 1 1
               have c1_2 := hO7.c 1 2
               have c1_3 := hO7.c 1 3
               have c1_4 := hO7.c 1 4
               have cf1 := hO7.fr 1
               have c2_0 := hO7.c 2 0
               have c2_1 := hO7.c 2 1
               have cf2 := hO7.fr 2
               clear hR4
               (try repeat' ((fail_if_success at_builtin); (first | go_skip | go_guarded | go_step)))
               go_meet
               case rel => exact ⟨_, _, _, rfl, hO7, hR5, hne⟩
              exact AllReadyH.nil
             exact AllReadyH.nil
            exact AllReadyH.nil
           refine AllReadyH.cons rfl (fun K hK => ?_) ?_
           ·
            go_simp
            have hba := (Below.refl v1.heap.size v1).alloc (Nat.le_refl _) (.cells #[.string r.run, .string r.job, .int .u64 d.ver, .int .i64 d.at_, .int .i64 d.st] depT)
            have b0 := (CellsAt.new v1 #[.string r.run, .string r.job, .int .u64 d.ver, .int .i64 d.at_, .int .i64 d.st] depT).cell 0 _ rfl
            have b1 := (CellsAt.new v1 #[.string r.run, .string r.job, .int .u64 d.ver, .int .i64 d.at_, .int .i64 d.st] depT).cell 1 _ rfl
            have b2 := (CellsAt.new v1 #[.string r.run, .string r.job, .int .u64 d.ver, .int .i64 d.at_, .int .i64 d.st] depT).cell 2 _ rfl
            have b3 := (CellsAt.new v1 #[.string r.run, .string r.job, .int .u64 d.ver, .int .i64 d.at_, .int .i64 d.st] depT).cell 3 _ rfl
            have b4 := (CellsAt.new v1 #[.string r.run, .string r.job, .int .u64 d.ver, .int .i64 d.at_, .int .i64 d.st] depT).cell 4 _ rfl
            have gBlt : v1.heap.size < (World.alloc v1 (.cells #[.string r.run, .string r.job, .int .u64 d.ver, .int .i64 d.at_, .int .i64 d.st] depT)).heap.size := by simp
            have gBne : some v1.heap.size ≠ Value.ownBlock (.slice (some ⟨vd.heap.size, 0, none⟩) 0 0) := hR.ltB (Nat.le_refl _)
            replace hR := hR.below rDep_ok hba
            replace hb := hb.trans (hba.mono hb.size)
            clear hba
            generalize World.alloc v1 _ = v3 at *
            refine hK.out _ _ ?_ (fun hHeld => ?_)
            ·
             (try dsimp only)
             exact ⟨(hO5.kept hb).c 2 0, (hO5.kept hb).c 2 1, (hO5.kept hb).c 1 0, (hO5.kept hb).c 1 1, (hO5.kept hb).c 1 2, (hO5.kept hb).c 1 3, (hO5.kept hb).c 1 4⟩
            clear hK K
            try simp only [Act.put, List.getElem_toArray, List.getElem_cons_zero, List.getElem_cons_succ, List.setIfInBounds_toArray, List.set_cons_zero, List.set_cons_succ]
            refine wpAnyH_ready (rs := [3]) (by kernel_rfl) (by simp) ?_
            refine AllReadyH.cons rfl (fun K hK => ?_) ?_
            ·
             have hVs : w.heap.size ≤ vd.heap.size := Nat.le_trans hO5.below.size hVW.size
             have hws := ((hS.hist.below rDep_ok (hO5.below.trans (hb.mono hO5.below.size))).more rDep_ok (S' := Beh v3 (.slice (some ⟨vd.heap.size, 0, none⟩) 0 0)) (fun b hb' => beh_old hR (Nat.lt_of_lt_of_le hb' hVs)))
             refine step_appRS rDep_ok rDep_one hR hws Tryd.underlying59 dep_info hby1 ?_
             intro v4 w4_ hR4 hg4
             rw [List.nil_append] at hR4
             obtain ⟨A4, c4, rfl⟩ := hR4.form
             replace b0 := (hg4.cell (p := ⟨v1.heap.size, 0, none⟩) gBlt gBne).trans b0
             replace b1 := (hg4.cell (p := ⟨v1.heap.size, 1, none⟩) gBlt gBne).trans b1
             replace b2 := (hg4.cell (p := ⟨v1.heap.size, 2, none⟩) gBlt gBne).trans b2
             replace b3 := (hg4.cell (p := ⟨v1.heap.size, 3, none⟩) gBlt gBne).trans b3
             replace b4 := (hg4.cell (p := ⟨v1.heap.size, 4, none⟩) gBlt gBne).trans b4
             replace gBne := hg4.ne gBlt gBne
             replace gBlt := Nat.lt_of_lt_of_le gBlt hg4.by_.size
             replace hb := hVW.trans (hR4.bel.mono hVW.size)
             replace hR := hR4
             clear hR4 hg4 hws hVs
             refine hK.out _ _ ?_ (fun hHeld => ?_)
             ·
              (try dsimp only)
              exact ⟨(hO5.kept hb).c 2 0, (hO5.kept hb).c 2 1, (hO5.kept hb).c 1 0, (hO5.kept hb).c 1 1, (hO5.kept hb).c 1 2, (hO5.kept hb).c 1 3, (hO5.kept hb).c 1 4⟩
             clear hK K
             try simp only [Act.put, List.getElem_toArray, List.getElem_cons_zero, List.getElem_cons_succ, List.setIfInBounds_toArray, List.set_cons_zero, List.set_cons_succ]
             refine wpAnyH_ready (rs := [13]) (by kernel_rfl) (by simp) ?_
             refine AllReadyH.cons rfl (fun K hK => ?_) ?_
             ·
              have hbx := box_dep (d := (⟨r, d.ver, d.at_, d.st⟩ : Dep)) (S := Beh w4_ (.slice A4 x.history.length c4)) ⟨gBlt, gBne⟩ b0 b1 b2 b3 b4
              refine step_appRS rDep_ok rDep_one hR hbx Tryd.underlying59 dep_info hby2 ?_
              intro v6 w6_ hR6 hg6
              obtain ⟨A6, c6, rfl⟩ := hR6.form
              have hl6 : (x.history ++ [(⟨r, d.ver, d.at_, d.st⟩ : Dep)]).length = x.history.length + 1 := by simp
              rw [hl6] at hR6 ⊢
              replace hb := hVW.trans (hR6.bel.mono hVW.size)
              replace hR := hR6
              clear hR6 hg6 hbx hl6 gBlt gBne b0 b1 b2 b3 b4
              refine hK.out _ _ ?_ (fun hHeld => ?_)
              ·
               (try dsimp only)
               exact ⟨(hO5.kept hb).c 2 0, (hO5.kept hb).c 2 1, (hO5.kept hb).c 1 0, (hO5.kept hb).c 1 1, (hO5.kept hb).c 1 2, (hO5.kept hb).c 1 3, (hO5.kept hb).c 1 4⟩
              clear hK K
              try simp only [Act.put, List.getElem_toArray, List.getElem_cons_zero, List.getElem_cons_succ, List.setIfInBounds_toArray, List.set_cons_zero, List.set_cons_succ]
              refine tkY 14 (v := ?v224) rfl (.inl ⟨by rfl, ?hy224⟩) ?hr224
              case hy224 => (intro w hSw; (try dsimp only at hSw); go_simp; try with_reducible rfl)
              simp only [Act.put, List.getElem_toArray, List.getElem_cons_zero, List.getElem_cons_succ, List.setIfInBounds_toArray, List.set_cons_zero, List.set_cons_succ]
              refine wpAnyH_ready (rs := [15]) (by kernel_rfl) (by simp) ?_
              refine AllReadyH.cons rfl (fun K hK => ?_) ?_
              ·
               have x3 := (hO5.kept hb).c 0 4
               have xf := (hO5.kept hb).fr 0
               have hOs := (hO5.kept hb).store 0 rfl 4 (.slice A6 (x.history.length + 1) c6)
               go_simp
               clear x3 xf
               refine hK.out _ _ ?_ (fun hHeld => ?_)
               ·
                (try dsimp only)
                exact ⟨hOs.c 2 0, hOs.c 2 1, hOs.c 1 0, hOs.c 1 1, hOs.c 1 2, hOs.c 1 3, hOs.c 1 4⟩
               clear hK K
               try simp only [Act.put, List.getElem_toArray, List.getElem_cons_zero, List.getElem_cons_succ, List.setIfInBounds_toArray, List.set_cons_zero, List.set_cons_succ]
               refine wpAnyH_done (by kernel_rfl) ?_ _
               clear hOs
               have hO6 : OwnB w w6_ [(r1.heap.size, [.string x.name, .string ⟨#[]⟩, .string ⟨#[]⟩, .slice A1 x.waiting.length c1, .slice A2 x.history.length c2]), ((w.heap.size + 1), [.string d.ref.run, .string d.ref.job, .int .u64 d.ver, .int .i64 d.at_, .int .i64 d.st]), (w.heap.size, [.string r.run, .string r.job])] := hO5.kept hb
               clear c0_0 c0_1 c0_2 c0_3 c0_4 cf0 c1_0 c1_1 c1_2 c1_3 c1_4 cf1 c2_0 c2_1 cf2 hO5
               have c0_0 := hO6.c 0 0
               have c0_1 := hO6.c 0 1
               have c0_2 := hO6.c 0 2
               have c0_3 := hO6.c 0 3
               have c0_4 := hO6.c 0 4
               have cf0 := hO6.fr 0
               have c1_0 := hO6.c 1 0
               have c1_1 := hO6.c 1 1
               have c1_2 := hO6.c 1 2
               have c1_3 := hO6.c 1 3
               have c1_4 := hO6.c 1 4
               have cf1 := hO6.fr 1
               have c2_0 := hO6.c 2 0
               have c2_1 := hO6.c 2 1
               have cf2 := hO6.fr 2
               have hR4 := hR
               have hbV := (HB0).trans (hVW.mono HB0.size)
               have hxl := Nat.lt_of_lt_of_le (HX_) hVW.size
               clear hR
               have hld : (x.history ++ [(⟨r, d.ver, d.at_, d.st⟩ : Dep)]).length = x.history.length + 1 := by simp
               (try rw [hld] at hR4)
               replace hld := Lib.hid hld
               have hne : Value.ownBlock (.slice A6 (x.history.length + 1) c6) ≠ some (r1.heap.size) := fun e => by
                obtain ⟨cs, HH, _⟩ := hR4
                have := (HH.1.lt _ e).1
                omega
               have hR5 := (OwnR.up (w1 := vd) hbV hR4).farSet (xb := r1.heap.size) (o := 4) (u := .slice A6 (x.history.length + 1) c6) rDep_ok hne (by omega) (fun x c h => h)
               generalize hx_ : World.setCell _ _ _ = wo7
               rw [hx_] at hR5
               have hO7 : OwnB w wo7 [(r1.heap.size, [.string x.name, .string ⟨#[]⟩, .string ⟨#[]⟩, .slice A1 x.waiting.length c1, .slice A6 (x.history.length + 1) c6]), ((w.heap.size + 1), [.string d.ref.run, .string d.ref.job, .int .u64 d.ver, .int .i64 d.at_, .int .i64 d.st]), (w.heap.size, [.string r.run, .string r.job])] := by rw [← hx_]; exact hO6.store 0 rfl 4 _
               have zwo7 : w6_.heap.size ≤ wo7.heap.size := by rw [← hx_]; simp [World.setCell]
               clear hx_ c0_0 c0_1 c0_2 c0_3 c0_4 cf0 c1_0 c1_1 c1_2 c1_3 c1_4 cf1 c2_0 c2_1 cf2 hO6
               have c0_0 := hO7.c 0 0
               have c0_1 := hO7.c 0 1
               have c0_2 := hO7.c 0 2
               have c0_3 := hO7.c 0 3
               have c0_4 := hO7.c 0 4
               have cf0 := hO7.fr 0
               have c1_0 := hO7.c 1 0
               have c1_1 := hO7.c 1 1
               have c1_2 := hO7.c 1 2
               have c1_3 := hO7.c 1 3
               have c1_4 := hO7.c 1 4
               have cf1 := hO7.fr 1
               have c2_0 := hO7.c 2 0
               have c2_1 := hO7.c 2 1
               have cf2 := hO7.fr 2
               clear hR4
               (try repeat' ((fail_if_success at_builtin); (first | go_skip | go_guarded | go_step)))
               go_meet
               case rel => exact ⟨_, _, _, rfl, hO7, hR5, hne⟩
              exact AllReadyH.nil
             exact AllReadyH.nil
            exact AllReadyH.nil
           exact AllReadyH.nil
          refine AllReadyH.cons rfl (fun K hK => ?_) ?_
          ·
           go_simp
           have hba := (Below.refl v1.heap.size v1).alloc (Nat.le_refl _) (.cells #[.string r.run, .string r.job, .int .u64 d.ver, .int .i64 d.at_, .int .i64 d.st] depT)
           have b0 := (CellsAt.new v1 #[.string r.run, .string r.job, .int .u64 d.ver, .int .i64 d.at_, .int .i64 d.st] depT).cell 0 _ rfl
           have b1 := (CellsAt.new v1 #[.string r.run, .string r.job, .int .u64 d.ver, .int .i64 d.at_, .int .i64 d.st] depT).cell 1 _ rfl
           have b2 := (CellsAt.new v1 #[.string r.run, .string r.job, .int .u64 d.ver, .int .i64 d.at_, .int .i64 d.st] depT).cell 2 _ rfl
           have b3 := (CellsAt.new v1 #[.string r.run, .string r.job, .int .u64 d.ver, .int .i64 d.at_, .int .i64 d.st] depT).cell 3 _ rfl
           have b4 := (CellsAt.new v1 #[.string r.run, .string r.job, .int .u64 d.ver, .int .i64 d.at_, .int .i64 d.st] depT).cell 4 _ rfl
           have gBlt : v1.heap.size < (World.alloc v1 (.cells #[.string r.run, .string r.job, .int .u64 d.ver, .int .i64 d.at_, .int .i64 d.st] depT)).heap.size := by simp
           have gBne : some v1.heap.size ≠ Value.ownBlock (.slice (some ⟨vd.heap.size, 0, none⟩) 0 0) := hR.ltB (Nat.le_refl _)
           replace hR := hR.below rDep_ok hba
           replace hb := hb.trans (hba.mono hb.size)
           clear hba
           generalize World.alloc v1 _ = v2 at *
           refine hK.out _ _ ?_ (fun hHeld => ?_)
           ·
            (try dsimp only)
            exact ⟨(hO5.kept hb).c 2 0, (hO5.kept hb).c 2 1, (hO5.kept hb).c 1 0, (hO5.kept hb).c 1 1, (hO5.kept hb).c 1 2, (hO5.kept hb).c 1 3, (hO5.kept hb).c 1 4⟩
           clear hK K
           try simp only [Act.put, List.getElem_toArray, List.getElem_cons_zero, List.getElem_cons_succ, List.setIfInBounds_toArray, List.set_cons_zero, List.set_cons_succ]
           refine wpAnyH_ready (rs := [2]) (by kernel_rfl) (by simp) ?_
           refine AllReadyH.cons rfl (fun K hK => ?_) ?_
           ·
            have x3 := (hO5.kept hb).c 0 4
            go_simp
            clear x3
            refine hK.out _ _ ?_ (fun hHeld => ?_)
            ·
             (try dsimp only)
             exact ⟨(hO5.kept hb).c 2 0, (hO5.kept hb).c 2 1, (hO5.kept hb).c 1 0, (hO5.kept hb).c 1 1, (hO5.kept hb).c 1 2, (hO5.kept hb).c 1 3, (hO5.kept hb).c 1 4⟩
            clear hK K
            try simp only [Act.put, List.getElem_toArray, List.getElem_cons_zero, List.getElem_cons_succ, List.setIfInBounds_toArray, List.set_cons_zero, List.set_cons_succ]
            refine wpAnyH_ready (rs := [3]) (by kernel_rfl) (by simp) ?_
            refine AllReadyH.cons rfl (fun K hK => ?_) ?_
            ·
             have hVs : w.heap.size ≤ vd.heap.size := Nat.le_trans hO5.below.size hVW.size
             have hws := ((hS.hist.below rDep_ok (hO5.below.trans (hb.mono hO5.below.size))).more rDep_ok (S' := Beh v2 (.slice (some ⟨vd.heap.size, 0, none⟩) 0 0)) (fun b hb' => beh_old hR (Nat.lt_of_lt_of_le hb' hVs)))
             refine step_appRS rDep_ok rDep_one hR hws Tryd.underlying59 dep_info hby1 ?_
             intro v4 w4_ hR4 hg4
             rw [List.nil_append] at hR4
             obtain ⟨A4, c4, rfl⟩ := hR4.form
             replace b0 := (hg4.cell (p := ⟨v1.heap.size, 0, none⟩) gBlt gBne).trans b0
             replace b1 := (hg4.cell (p := ⟨v1.heap.size, 1, none⟩) gBlt gBne).trans b1
             replace b2 := (hg4.cell (p := ⟨v1.heap.size, 2, none⟩) gBlt gBne).trans b2
             replace b3 := (hg4.cell (p := ⟨v1.heap.size, 3, none⟩) gBlt gBne).trans b3
             replace b4 := (hg4.cell (p := ⟨v1.heap.size, 4, none⟩) gBlt gBne).trans b4
             replace gBne := hg4.ne gBlt gBne
             replace gBlt := Nat.lt_of_lt_of_le gBlt hg4.by_.size
             replace hb := hVW.trans (hR4.bel.mono hVW.size)
             replace hR := hR4
             clear hR4 hg4 hws hVs
             refine hK.out _ _ ?_ (fun hHeld => ?_)
             ·
              (try dsimp only)
              exact ⟨(hO5.kept hb).c 2 0, (hO5.kept hb).c 2 1, (hO5.kept hb).c 1 0, (hO5.kept hb).c 1 1, (hO5.kept hb).c 1 2, (hO5.kept hb).c 1 3, (hO5.kept hb).c 1 4⟩
             clear hK K
             try simp only [Act.put, List.getElem_toArray, List.getElem_cons_zero, List.getElem_cons_succ, List.setIfInBounds_toArray, List.set_cons_zero, List.set_cons_succ]
             refine wpAnyH_ready (rs := [13]) (by kernel_rfl) (by simp) ?_
             refine AllReadyH.cons rfl (fun K hK => ?_) ?_
             ·
              have hbx := box_dep (d := (⟨r, d.ver, d.at_, d.st⟩ : Dep)) (S := Beh w4_ (.slice A4 x.history.length c4)) ⟨gBlt, gBne⟩ b0 b1 b2 b3 b4
              refine step_appRS rDep_ok rDep_one hR hbx Tryd.underlying59 dep_info hby2 ?_
              intro v6 w6_ hR6 hg6
              obtain ⟨A6, c6, rfl⟩ := hR6.form
              have hl6 : (x.history ++ [(⟨r, d.ver, d.at_, d.st⟩ : Dep)]).length = x.history.length + 1 := by simp
              rw [hl6] at hR6 ⊢
              replace hb := hVW.trans (hR6.bel.mono hVW.size)
              replace hR := hR6
              clear hR6 hg6 hbx hl6 gBlt gBne b0 b1 b2 b3 b4
              refine hK.out _ _ ?_ (fun hHeld => ?_)
              ·
               (try dsimp only)
               exact ⟨(hO5.kept hb).c 2 0, (hO5.kept hb).c 2 1, (hO5.kept hb).c 1 0, (hO5.kept hb).c 1 1, (hO5.kept hb).c 1 2, (hO5.kept hb).c 1 3, (hO5.kept hb).c 1 4⟩
              clear hK K
              try simp only [Act.put, List.getElem_toArray, List.getElem_cons_zero, List.getElem_cons_succ, List.setIfInBounds_toArray, List.set_cons_zero, List.set_cons_succ]
              refine tkY 14 (v := ?v225) rfl (.inl ⟨by rfl, ?hy225⟩) ?hr225
              case hy225 => (intro w hSw; (try dsimp only at hSw); go_simp; try with_reducible rfl)
              simp only [Act.put, List.getElem_toArray, List.getElem_cons_zero, List.getElem_cons_succ, List.setIfInBounds_toArray, List.set_cons_zero, List.set_cons_succ]
              refine wpAnyH_ready (rs := [15]) (by kernel_rfl) (by simp) ?_
              refine AllReadyH.cons rfl (fun K hK => ?_) ?_
              ·
               have x3 := (hO5.kept hb).c 0 4
               have xf := (hO5.kept hb).fr 0
               have hOs := (hO5.kept hb).store 0 rfl 4 (.slice A6 (x.history.length + 1) c6)
               go_simp
               clear x3 xf
               refine hK.out _ _ ?_ (fun hHeld => ?_)
               ·
                (try dsimp only)
                exact ⟨hOs.c 2 0, hOs.c 2 1, hOs.c 1 0, hOs.c 1 1, hOs.c 1 2, hOs.c 1 3, hOs.c 1 4⟩
               clear hK K
               try simp only [Act.put, List.getElem_toArray, List.getElem_cons_zero, List.getElem_cons_succ, List.setIfInBounds_toArray, List.set_cons_zero, List.set_cons_succ]
               refine wpAnyH_done (by kernel_rfl) ?_ _
               clear hOs
               have hO6 : OwnB w w6_ [(r1.heap.size, [.string x.name, .string ⟨#[]⟩, .string ⟨#[]⟩, .slice A1 x.waiting.length c1, .slice A2 x.history.length c2]), ((w.heap.size + 1), [.string d.ref.run, .string d.ref.job, .int .u64 d.ver, .int .i64 d.at_, .int .i64 d.st]), (w.heap.size, [.string r.run, .string r.job])] := hO5.kept hb
               clear c0_0 c0_1 c0_2 c0_3 c0_4 cf0 c1_0 c1_1 c1_2 c1_3 c1_4 cf1 c2_0 c2_1 cf2 hO5
               have c0_0 := hO6.c 0 0
               have c0_1 := hO6.c 0 1
               have c0_2 := hO6.c 0 2
               have c0_3 := hO6.c 0 3
               have c0_4 := hO6.c 0 4
               have cf0 := hO6.fr 0
               have c1_0 := hO6.c 1 0
               have c1_1 := hO6.c 1 1
               have c1_2 := hO6.c 1 2
               have c1_3 := hO6.c 1 3
               have c1_4 := hO6.c 1 4
               have cf1 := hO6.fr 1
               have c2_0 := hO6.c 2 0
               have c2_1 := hO6.c 2 1
               have cf2 := hO6.fr 2
               have hR4 := hR
               have hbV := (HB0).trans (hVW.mono HB0.size)
               have hxl := Nat.lt_of_lt_of_le (HX_) hVW.size
               clear hR
               have hld : (x.history ++ [(⟨r, d.ver, d.at_, d.st⟩ : Dep)]).length = x.history.length + 1 := by simp
               (try rw [hld] at hR4)
               replace hld := Lib.hid hld
               have hne : Value.ownBlock (.slice A6 (x.history.length + 1) c6) ≠ some (r1.heap.size) := fun e => by
                obtain ⟨cs, HH, _⟩ := hR4
                have := (HH.1.lt _ e).1
                omega
               have hR5 := (OwnR.up (w1 := vd) hbV hR4).farSet (xb := r1.heap.size) (o := 4) (u := .slice A6 (x.history.length + 1) c6) rDep_ok hne (by omega) (fun x c h => h)
               generalize hx_ : World.setCell _ _ _ = wo7
               rw [hx_] at hR5
               have hO7 : OwnB w wo7 [(r1.heap.size, [.string x.name, .string ⟨#[]⟩, .string ⟨#[]⟩, .slice A1 x.waiting.length c1, .slice A6 (x.history.length + 1) c6]), ((w.heap.size + 1), [.string d.ref.run, .string d.ref.job, .int .u64 d.ver, .int .i64 d.at_, .int .i64 d.st]), (w.heap.size, [.string r.run, .string r.job])] := by rw [← hx_]; exact hO6.store 0 rfl 4 _
               have zwo7 : w6_.heap.size ≤ wo7.heap.size := by rw [← hx_]; simp [World.setCell]
               clear hx_ c0_0 c0_1 c0_2 c0_3 c0_4 cf0 c1_0 c1_1 c1_2 c1_3 c1_4 cf1 c2_0 c2_1 cf2 hO6
               have c0_0 := hO7.c 0 0
               have c0_1 := hO7.c 0 1
               have c0_2 := hO7.c 0 2
               have c0_3 := hO7.c 0 3
               have c0_4 := hO7.c 0 4
               have cf0 := hO7.fr 0
               have c1_0 := hO7.c 1 0
               have c1_1 := hO7.c 1 1
               have c1_2 := hO7.c 1 2
               have c1_3 := hO7.c 1 3
               have c1_4 := hO7.c 1 4
               have cf1 := hO7.fr 1
               have c2_0 := hO7.c 2 0
               have c2_1 := hO7.c 2 1
               have cf2 := hO7.fr 2
               clear hR4
               (try repeat' ((fail_if_success at_builtin); (first | go_skip | go_guarded | go_step)))
               go_meet
               case rel => exact ⟨_, _, _, rfl, hO7, hR5, hne⟩
              exact AllReadyH.nil
             exact AllReadyH.nil
            exact AllReadyH.nil
           exact AllReadyH.nil
          exact AllReadyH.nil
         refine AllReadyH.cons rfl (fun K hK => ?_) ?_
         ·
          have x3 := (hO5.kept hb).c 0 4
          go_simp
          clear x3
          refine hK.out _ _ ?_ (fun hHeld => ?_)
          ·
           (try dsimp only)
           exact ⟨(hO5.kept hb).c 2 0, (hO5.kept hb).c 2 1, (hO5.kept hb).c 1 0, (hO5.kept hb).c 1 1, (hO5.kept hb).c 1 2, (hO5.kept hb).c 1 3, (hO5.kept hb).c 1 4⟩
          clear hK K
          try simp only [Act.put, List.getElem_toArray, List.getElem_cons_zero, List.getElem_cons_succ, List.setIfInBounds_toArray, List.set_cons_zero, List.set_cons_succ]
          refine wpAnyH_ready (rs := [0, 12]) (by kernel_rfl) (by simp) ?_
          refine AllReadyH.cons rfl (fun K hK => ?_) ?_
          ·
           go_simp
           have hba := (Below.refl vd.heap.size vd).alloc (Nat.le_refl _) (.cells #[] depT)
           have hR := OwnR.empty (r := rDep) (sz := 5) vd depT
           have hVW := hb
           replace hb := hb.trans (hba.mono hb.size)
           clear hba
           generalize World.alloc vd _ = v2 at *
           refine hK.out _ _ ?_ (fun hHeld => ?_)
           ·
            (try dsimp only)
            exact ⟨(hO5.kept hb).c 2 0, (hO5.kept hb).c 2 1, (hO5.kept hb).c 1 0, (hO5.kept hb).c 1 1, (hO5.kept hb).c 1 2, (hO5.kept hb).c 1 3, (hO5.kept hb).c 1 4⟩
           clear hK K
           try simp only [Act.put, List.getElem_toArray, List.getElem_cons_zero, List.getElem_cons_succ, List.setIfInBounds_toArray, List.set_cons_zero, List.set_cons_succ]
           refine wpAnyH_ready (rs := [3, 12]) (by kernel_rfl) (by simp) ?_
           refine AllReadyH.cons rfl (fun K hK => ?_) ?_
           ·
            have hVs : w.heap.size ≤ vd.heap.size := Nat.le_trans hO5.below.size hVW.size
            have hws := ((hS.hist.below rDep_ok (hO5.below.trans (hb.mono hO5.below.size))).more rDep_ok (S' := Beh v2 (.slice (some ⟨vd.heap.size, 0, none⟩) 0 0)) (fun b hb' => beh_old hR (Nat.lt_of_lt_of_le hb' hVs)))
            refine step_appRS rDep_ok rDep_one hR hws Tryd.underlying59 dep_info hby1 ?_
            intro v4 w4_ hR4 hg4
            rw [List.nil_append] at hR4
            obtain ⟨A4, c4, rfl⟩ := hR4.form
            replace hb := hVW.trans (hR4.bel.mono hVW.size)
            replace hR := hR4
            clear hR4 hg4 hws hVs
            refine hK.out _ _ ?_ (fun hHeld => ?_)
            ·
             (try dsimp only)
             exact ⟨(hO5.kept hb).c 2 0, (hO5.kept hb).c 2 1, (hO5.kept hb).c 1 0, (hO5.kept hb).c 1 1, (hO5.kept hb).c 1 2, (hO5.kept hb).c 1 3, (hO5.kept hb).c 1 4⟩
            clear hK K
            try simp only [Act.put, List.getElem_toArray, List.getElem_cons_zero, List.getElem_cons_succ, List.setIfInBounds_toArray, List.set_cons_zero, List.set_cons_succ]
            refine wpAnyH_ready (rs := [12]) (by kernel_rfl) (by simp) ?_
            refine AllReadyH.cons rfl (fun K hK => ?_) ?_
            ·
             go_simp
             have hba := (Below.refl w4_.heap.size w4_).alloc (Nat.le_refl _) (.cells #[.string r.run, .string r.job, .int .u64 d.ver, .int .i64 d.at_, .int .i64 d.st] depT)
             have b0 := (CellsAt.new w4_ #[.string r.run, .string r.job, .int .u64 d.ver, .int .i64 d.at_, .int .i64 d.st] depT).cell 0 _ rfl
             have b1 := (CellsAt.new w4_ #[.string r.run, .string r.job, .int .u64 d.ver, .int .i64 d.at_, .int .i64 d.st] depT).cell 1 _ rfl
             have b2 := (CellsAt.new w4_ #[.string r.run, .string r.job, .int .u64 d.ver, .int .i64 d.at_, .int .i64 d.st] depT).cell 2 _ rfl
             have b3 := (CellsAt.new w4_ #[.string r.run, .string r.job, .int .u64 d.ver, .int .i64 d.at_, .int .i64 d.st] depT).cell 3 _ rfl
             have b4 := (CellsAt.new w4_ #[.string r.run, .string r.job, .int .u64 d.ver, .int .i64 d.at_, .int .i64 d.st] depT).cell 4 _ rfl
             have gBlt : w4_.heap.size < (World.alloc w4_ (.cells #[.string r.run, .string r.job, .int .u64 d.ver, .int .i64 d.at_, .int .i64 d.st] depT)).heap.size := by simp
             have gBne : some w4_.heap.size ≠ Value.ownBlock (.slice A4 x.history.length c4) := hR.ltB (Nat.le_refl _)
             replace hR := hR.below rDep_ok hba
             replace hb := hb.trans (hba.mono hb.size)
             clear hba
             generalize World.alloc w4_ _ = v4 at *
             refine hK.out _ _ ?_ (fun hHeld => ?_)
             ·
              (try dsimp only)
              exact ⟨(hO5.kept hb).c 2 0, (hO5.kept hb).c 2 1, (hO5.kept hb).c 1 0, (hO5.kept hb).c 1 1, (hO5.kept hb).c 1 2, (hO5.kept hb).c 1 3, (hO5.kept hb).c 1 4⟩
             clear hK K
             try simp only [Act.put, List.getElem_toArray, List.getElem_cons_zero, List.getElem_cons_succ, List.setIfInBounds_toArray, List.set_cons_zero, List.set_cons_succ]
             refine wpAnyH_ready (rs := [13]) (by kernel_rfl) (by simp) ?_
             refine AllReadyH.cons rfl (fun K hK => ?_) ?_
             ·
              have hbx := box_dep (d := (⟨r, d.ver, d.at_, d.st⟩ : Dep)) (S := Beh v4 (.slice A4 x.history.length c4)) ⟨gBlt, gBne⟩ b0 b1 b2 b3 b4
              refine step_appRS rDep_ok rDep_one hR hbx Tryd.underlying59 dep_info hby2 ?_
              intro v6 w6_ hR6 hg6
              obtain ⟨A6, c6, rfl⟩ := hR6.form
              have hl6 : (x.history ++ [(⟨r, d.ver, d.at_, d.st⟩ : Dep)]).length = x.history.length + 1 := by simp
              rw [hl6] at hR6 ⊢
              replace hb := hVW.trans (hR6.bel.mono hVW.size)
              replace hR := hR6
              clear hR6 hg6 hbx hl6 gBlt gBne b0 b1 b2 b3 b4
              refine hK.out _ _ ?_ (fun hHeld => ?_)
              ·
               (try dsimp only)
               exact ⟨(hO5.kept hb).c 2 0, (hO5.kept hb).c 2 1, (hO5.kept hb).c 1 0, (hO5.kept hb).c 1 1, (hO5.kept hb).c 1 2, (hO5.kept hb).c 1 3, (hO5.kept hb).c 1 4⟩
              clear hK K
              try simp only [Act.put, List.getElem_toArray, List.getElem_cons_zero, List.getElem_cons_succ, List.setIfInBounds_toArray, List.set_cons_zero, List.set_cons_succ]
              refine tkY 14 (v := ?v226) rfl (.inl ⟨by rfl, ?hy226⟩) ?hr226
              case hy226 => (intro w hSw; (try dsimp only at hSw); go_simp; try with_reducible rfl)
              simp only [Act.put, List.getElem_toArray, List.getElem_cons_zero, List.getElem_cons_succ, List.setIfInBounds_toArray, List.set_cons_zero, List.set_cons_succ]
              refine wpAnyH_ready (rs := [15]) (by kernel_rfl) (by simp) ?_
              refine AllReadyH.cons rfl (fun K hK => ?_) ?_
              ·
               have x3 := (hO5.kept hb).c 0 4
               have xf := (hO5.kept hb).fr 0
               have hOs := (hO5.kept hb).store 0 rfl 4 (.slice A6 (x.history.length + 1) c6)
               go_simp
               clear x3 xf
               refine hK.out _ _ ?_ (fun hHeld => ?_)
               ·
                (try dsimp only)
                exact ⟨hOs.c 2 0, hOs.c 2 1, hOs.c 1 0, hOs.c 1 1, hOs.c 1 2, hOs.c 1 3, hOs.c 1 4⟩
               clear hK K
               try simp only [Act.put, List.getElem_toArray, List.getElem_cons_zero, List.getElem_cons_succ, List.setIfInBounds_toArray, List.set_cons_zero, List.set_cons_succ]
               refine wpAnyH_done (by kernel_rfl) ?_ _
               clear hOs
               have hO6 : OwnB w w6_ [(r1.heap.size, [.string x.name, .string ⟨#[]⟩, .string ⟨#[]⟩, .slice A1 x.waiting.length c1, .slice A2 x.history.length c2]), ((w.heap.size + 1), [.string d.ref.run, .string d.ref.job, .int .u64 d.ver, .int .i64 d.at_, .int .i64 d.st]), (w.heap.size, [.string r.run, .string r.job])] := hO5.kept hb
               clear c0_0 c0_1 c0_2 c0_3 c0_4 cf0 c1_0 c1_1 c1_2 c1_3 c1_4 cf1 c2_0 c2_1 cf2 hO5
               have c0_0 := hO6.c 0 0
               have c0_1 := hO6.c 0 1
               have c0_2 := hO6.c 0 2
               have c0_3 := hO6.c 0 3
               have c0_4 := hO6.c 0 4
               have cf0 := hO6.fr 0
               have c1_0 := hO6.c 1 0
               have c1_1 := hO6.c 1 1
               have c1_2 := hO6.c 1 2
               have c1_3 := hO6.c 1 3
               have c1_4 := hO6.c 1 4
               have cf1 := hO6.fr 1
               have c2_0 := hO6.c 2 0
               have c2_1 := hO6.c 2 1
               have cf2 := hO6.fr 2
               have hR4 := hR
               have hbV := (HB0).trans (hVW.mono HB0.size)
               have hxl := Nat.lt_of_lt_of_le (HX_) hVW.size
               clear hR
               have hld : (x.history ++ [(⟨r, d.ver, d.at_, d.st⟩ : Dep)]).length = x.history.length + 1 := by simp
               (try rw [hld] at hR4)
               replace hld := Lib.hid hld
               have hne : Value.ownBlock (.slice A6 (x.history.length + 1) c6) ≠ some (r1.heap.size) := fun e => by
                obtain ⟨cs, HH, _⟩ := hR4
                have := (HH.1.lt _ e).1
                omega
               have hR5 := (OwnR.up (w1 := vd) hbV hR4).farSet (xb := r1.heap.size) (o := 4) (u := .slice A6 (x.history.length + 1) c6) rDep_ok hne (by omega) (fun x c h => h)
               generalize hx_ : World.setCell _ _ _ = wo7
               rw [hx_] at hR5
               have hO7 : OwnB w wo7 [(r1.heap.size, [.string x.name, .string ⟨#[]⟩, .string ⟨#[]⟩, .slice A1 x.waiting.length c1, .slice A6 (x.history.length + 1) c6]), ((w.heap.size + 1), [.string d.ref.run, .string d.ref.job, .int .u64 d.ver, .int .i64 d.at_, .int .i64 d.st]), (w.heap.size, [.string r.run, .string r.job])] := by rw [← hx_]; exact hO6.store 0 rfl 4 _
               have zwo7 : w6_.heap.size ≤ wo7.heap.size := by rw [← hx_]; simp [World.setCell]
               clear hx_ c0_0 c0_1 c0_2 c0_3 c0_4 cf0 c1_0 c1_1 c1_2 c1_3 c1_4 cf1 c2_0 c2_1 cf2 hO6
               have c0_0 := hO7.c 0 0
               have c0_1 := hO7.c 0 1
               have c0_2 := hO7.c 0 2
               have c0_3 := hO7.c 0 3
               have c0_4 := hO7.c 0 4
               have cf0 := hO7.fr 0
               have c1_0 := hO7.c 1 0
               have c1_1 := hO7.c 1 1
               have c1_2 := hO7.c 1 2
               have c1_3 := hO7.c 1 3
               have c1_4 := hO7.c 1 4
               have cf1 := hO7.fr 1
               have c2_0 := hO7.c 2 0
               have c2_1 := hO7.c 2 1
               have cf2 := hO7.fr 2
               clear hR4
               (try repeat' ((fail_if_success at_builtin); (first | go_skip | go_guarded | go_step)))
               go_meet
               case rel => exact ⟨_, _, _, rfl, hO7, hR5, hne⟩
              exact AllReadyH.nil
             exact AllReadyH.nil
            exact AllReadyH.nil
           refine AllReadyH.cons rfl (fun K hK => ?_) ?_
           ·
            go_simp
            have hba := (Below.refl v2.heap.size v2).alloc (Nat.le_refl _) (.cells #[.string r.run, .string r.job, .int .u64 d.ver, .int .i64 d.at_, .int .i64 d.st] depT)
            have b0 := (CellsAt.new v2 #[.string r.run, .string r.job, .int .u64 d.ver, .int .i64 d.at_, .int .i64 d.st] depT).cell 0 _ rfl
            have b1 := (CellsAt.new v2 #[.string r.run, .string r.job, .int .u64 d.ver, .int .i64 d.at_, .int .i64 d.st] depT).cell 1 _ rfl
            have b2 := (CellsAt.new v2 #[.string r.run, .string r.job, .int .u64 d.ver, .int .i64 d.at_, .int .i64 d.st] depT).cell 2 _ rfl
            have b3 := (CellsAt.new v2 #[.string r.run, .string r.job, .int .u64 d.ver, .int .i64 d.at_, .int .i64 d.st] depT).cell 3 _ rfl
            have b4 := (CellsAt.new v2 #[.string r.run, .string r.job, .int .u64 d.ver, .int .i64 d.at_, .int .i64 d.st] depT).cell 4 _ rfl
            have gBlt : v2.heap.size < (World.alloc v2 (.cells #[.string r.run, .string r.job, .int .u64 d.ver, .int .i64 d.at_, .int .i64 d.st] depT)).heap.size := by simp
            have gBne : some v2.heap.size ≠ Value.ownBlock (.slice (some ⟨vd.heap.size, 0, none⟩) 0 0) := hR.ltB (Nat.le_refl _)
            replace hR := hR.below rDep_ok hba
            replace hb := hb.trans (hba.mono hb.size)
            clear hba
            generalize World.alloc v2 _ = v3 at *
            refine hK.out _ _ ?_ (fun hHeld => ?_)
            ·
             (try dsimp only)
             exact ⟨(hO5.kept hb).c 2 0, (hO5.kept hb).c 2 1, (hO5.kept hb).c 1 0, (hO5.kept hb).c 1 1, (hO5.kept hb).c 1 2, (hO5.kept hb).c 1 3, (hO5.kept hb).c 1 4⟩
            clear hK K
            try simp only [Act.put, List.getElem_toArray, List.getElem_cons_zero, List.getElem_cons_succ, List.setIfInBounds_toArray, List.set_cons_zero, List.set_cons_succ]
            refine wpAnyH_ready (rs := [3]) (by kernel_rfl) (by simp) ?_
            refine AllReadyH.cons rfl (fun K hK => ?_) ?_
            ·
             have hVs : w.heap.size ≤ vd.heap.size := Nat.le_trans hO5.below.size hVW.size
             have hws := ((hS.hist.below rDep_ok (hO5.below.trans (hb.mono hO5.below.size))).more rDep_ok (S' := Beh v3 (.slice (some ⟨vd.heap.size, 0, none⟩) 0 0)) (fun b hb' => beh_old hR (Nat.lt_of_lt_of_le hb' hVs)))
             refine step_appRS rDep_ok rDep_one hR hws Tryd.underlying59 dep_info hby1 ?_
             intro v4 w4_ hR4 hg4
             rw [List.nil_append] at hR4
             obtain ⟨A4, c4, rfl⟩ := hR4.form
             replace b0 := (hg4.cell (p := ⟨v2.heap.size, 0, none⟩) gBlt gBne).trans b0
             replace b1 := (hg4.cell (p := ⟨v2.heap.size, 1, none⟩) gBlt gBne).trans b1
             replace b2 := (hg4.cell (p := ⟨v2.heap.size, 2, none⟩) gBlt gBne).trans b2
             replace b3 := (hg4.cell (p := ⟨v2.heap.size, 3, none⟩) gBlt gBne).trans b3
             replace b4 := (hg4.cell (p := ⟨v2.heap.size, 4, none⟩) gBlt gBne).trans b4
             replace gBne := hg4.ne gBlt gBne
             replace gBlt := Nat.lt_of_lt_of_le gBlt hg4.by_.size
             replace hb := hVW.trans (hR4.bel.mono hVW.size)
             replace hR := hR4
             clear hR4 hg4 hws hVs
             refine hK.out _ _ ?_ (fun hHeld => ?_)
             ·
              (try dsimp only)
              exact ⟨(hO5.kept hb).c 2 0, (hO5.kept hb).c 2 1, (hO5.kept hb).c 1 0, (hO5.kept hb).c 1 1, (hO5.kept hb).c 1 2, (hO5.kept hb).c 1 3, (hO5.kept hb).c 1 4⟩
             clear hK K
             try simp only [Act.put, List.getElem_toArray, List.getElem_cons_zero, List.getElem_cons_succ, List.setIfInBounds_toArray, List.set_cons_zero, List.set_cons_succ]
             refine wpAnyH_ready (rs := [13]) (by kernel_rfl) (by simp) ?_
             refine AllReadyH.cons rfl (fun K hK => ?_) ?_
             ·
              have hbx := box_dep (d := (⟨r, d.ver, d.at_, d.st⟩ : Dep)) (S := Beh w4_ (.slice A4 x.history.length c4)) ⟨gBlt, gBne⟩ b0 b1 b2 b3 b4
              refine step_appRS rDep_ok rDep_one hR hbx Tryd.underlying59 dep_info hby2 ?_
              intro v6 w6_ hR6 hg6
              obtain ⟨A6, c6, rfl⟩ := hR6.form
              have hl6 : (x.history ++ [(⟨r, d.ver, d.at_, d.st⟩ : Dep)]).length = x.history.length + 1 := by simp
              rw [hl6] at hR6 ⊢
              replace hb := hVW.trans (hR6.bel.mono hVW.size)
              replace hR := hR6
              clear hR6 hg6 hbx hl6 gBlt gBne b0 b1 b2 b3 b4
              refine hK.out _ _ ?_ (fun hHeld => ?_)
              ·
               (try dsimp only)
               exact ⟨(hO5.kept hb).c 2 0, (hO5.kept hb).c 2 1, (hO5.kept hb).c 1 0, (hO5.kept hb).c 1 1, (hO5.kept hb).c 1 2, (hO5.kept hb).c 1 3, (hO5.kept hb).c 1 4⟩
              clear hK K
              try simp only [Act.put, List.getElem_toArray, List.getElem_cons_zero, List.getElem_cons_succ, List.setIfInBounds_toArray, List.set_cons_zero, List.set_cons_succ]
              refine tkY 14 (v := ?v227) rfl (.inl ⟨by rfl, ?hy227⟩) ?hr227
              case hy227 => (intro w hSw; (try dsimp only at hSw); go_simp; try with_reducible rfl)
              simp only [Act.put, List.getElem_toArray, List.getElem_cons_zero, List.getElem_cons_succ, List.setIfInBounds_toArray, List.set_cons_zero, List.set_cons_succ]
              refine wpAnyH_ready (rs := [15]) (by kernel_rfl) (by simp) ?_
              refine AllReadyH.cons rfl (fun K hK => ?_) ?_
              ·
               have x3 := (hO5.kept hb).c 0 4
               have xf := (hO5.kept hb).fr 0
               have hOs := (hO5.kept hb).store 0 rfl 4 (.slice A6 (x.history.length + 1) c6)
               go_simp
               clear x3 xf
               refine hK.out _ _ ?_ (fun hHeld => ?_)
               ·
                (try dsimp only)
                exact ⟨hOs.c 2 0, hOs.c 2 1, hOs.c 1 0, hOs.c 1 1, hOs.c 1 2, hOs.c 1 3, hOs.c 1 4⟩
               clear hK K
               try simp only [Act.put, List.getElem_toArray, List.getElem_cons_zero, List.getElem_cons_succ, List.setIfInBounds_toArray, List.set_cons_zero, List.set_cons_succ]
               refine wpAnyH_done (by kernel_rfl) ?_ _
               clear hOs
               have hO6 : OwnB w w6_ [(r1.heap.size, [.string x.name, .string ⟨#[]⟩, .string ⟨#[]⟩, .slice A1 x.waiting.length c1, .slice A2 x.history.length c2]), ((w.heap.size + 1), [.string d.ref.run, .string d.ref.job, .int .u64 d.ver, .int .i64 d.at_, .int .i64 d.st]), (w.heap.size, [.string r.run, .string r.job])] := hO5.kept hb
               clear c0_0 c0_1 c0_2 c0_3 c0_4 cf0 c1_0 c1_1 c1_2 c1_3 c1_4 cf1 c2_0 c2_1 cf2 hO5
               have c0_0 := hO6.c 0 0
               have c0_1 := hO6.c 0 1
               have c0_2 := hO6.c 0 2
               have c0_3 := hO6.c 0 3
               have c0_4 := hO6.c 0 4
               have cf0 := hO6.fr 0
               have c1_0 := hO6.c 1 0
               have c1_1 := hO6.c 1 1
               have c1_2 := hO6.c 1 2
               have c1_3 := hO6.c 1 3
               have c1_4 := hO6.c 1 4
               have cf1 := hO6.fr 1
               have c2_0 := hO6.c 2 0
               have c2_1 := hO6.c 2 1
               have cf2 := hO6.fr 2
               have hR4 := hR
               have hbV := (HB0).trans (hVW.mono HB0.size)
               have hxl := Nat.lt_of_lt_of_le (HX_) hVW.size
               clear hR
               have hld : (x.history ++ [(⟨r, d.ver, d.at_, d.st⟩ : Dep)]).length = x.history.length + 1 := by simp
               (try rw [hld] at hR4)
               replace hld := Lib.hid hld
               have hne : Value.ownBlock (.slice A6 (x.history.length + 1) c6) ≠ some (r1.heap.size) := fun e => by
                obtain ⟨cs, HH, _⟩ := hR4
                have := (HH.1.lt _ e).1
                omega
               have hR5 := (OwnR.up (w1 := vd) hbV hR4).farSet (xb := r1.heap.size) (o := 4) (u := .slice A6 (x.history.length + 1) c6) rDep_ok hne (by omega) (fun x c h => h)
               generalize hx_ : World.setCell _ _ _ = wo7
               rw [hx_] at hR5
               have hO7 : OwnB w wo7 [(r1.heap.size, [.string x.name, .string ⟨#[]⟩, .string ⟨#[]⟩, .slice A1 x.waiting.length c1, .slice A6 (x.history.length + 1) c6]), ((w.heap.size + 1), [.string d.ref.run, .string d.ref.job, .int .u64 d.ver, .int .i64 d.at_, .int .i64 d.st]), (w.heap.size, [.string r.run, .string r.job])] := by rw [← hx_]; exact hO6.store 0 rfl 4 _
               have zwo7 : w6_.heap.size ≤ wo7.heap.size := by rw [← hx_]; simp [World.setCell]
               clear hx_ c0_0 c0_1 c0_2 c0_3 c0_4 cf0 c1_0 c1_1 c1_2 c1_3 c1_4 cf1 c2_0 c2_1 cf2 hO6
               have c0_0 := hO7.c 0 0
               have c0_1 := hO7.c 0 1
               have c0_2 := hO7.c 0 2
               have c0_3 := hO7.c 0 3
               have c0_4 := hO7.c 0 4
               have cf0 := hO7.fr 0
               have c1_0 := hO7.c 1 0
               have c1_1 := hO7.c 1 1
               have c1_2 := hO7.c 1 2
               have c1_3 := hO7.c 1 3
               have c1_4 := hO7.c 1 4
               have cf1 := hO7.fr 1
               have c2_0 := hO7.c 2 0
               have c2_1 := hO7.c 2 1
               have cf2 := hO7.fr 2
               clear hR4
               (try repeat' ((fail_if_success at_builtin); (first | go_skip | go_guarded | go_step)))
               go_meet
               case rel => exact ⟨_, _, _, rfl, hO7, hR5, hne⟩
              exact AllReadyH.nil
             exact AllReadyH.nil
            exact AllReadyH.nil
           exact AllReadyH.nil
          refine AllReadyH.cons rfl (fun K hK => ?_) ?_
          ·
           go_simp
           have hba := (Below.refl vd.heap.size vd).alloc (Nat.le_refl _) (.cells #[.string r.run, .string r.job, .int .u64 d.ver, .int .i64 d.at_, .int .i64 d.st] depT)
           have b0 := (CellsAt.new vd #[.string r.run, .string r.job, .int .u64 d.ver, .int .i64 d.at_, .int .i64 d.st] depT).cell 0 _ rfl
           have b1 := (CellsAt.new vd #[.string r.run, .string r.job, .int .u64 d.ver, .int .i64 d.at_, .int .i64 d.st] depT).cell 1 _ rfl
           have b2 := (CellsAt.new vd #[.string r.run, .string r.job, .int .u64 d.ver, .int .i64 d.at_, .int .i64 d.st] depT).cell 2 _ rfl
           have b3 := (CellsAt.new vd #[.string r.run, .string r.job, .int .u64 d.ver, .int .i64 d.at_, .int .i64 d.st] depT).cell 3 _ rfl
           have b4 := (CellsAt.new vd #[.string r.run, .string r.job, .int .u64 d.ver, .int .i64 d.at_, .int .i64 d.st] depT).cell 4 _ rfl
           have gBlt : vd.heap.size < (World.alloc vd (.cells #[.string r.run, .string r.job, .int .u64 d.ver, .int .i64 d.at_, .int .i64 d.st] depT)).heap.size := by simp
           replace hb := hb.trans (hba.mono hb.size)
           clear hba
           generalize World.alloc vd _ = v2 at *
           refine hK.out _ _ ?_ (fun hHeld => ?_)
           ·
            (try dsimp only)
            exact ⟨(hO5.kept hb).c 2 0, (hO5.kept hb).c 2 1, (hO5.kept hb).c 1 0, (hO5.kept hb).c 1 1, (hO5.kept hb).c 1 2, (hO5.kept hb).c 1 3, (hO5.kept hb).c 1 4⟩
           clear hK K
           try simp only [Act.put, List.getElem_toArray, List.getElem_cons_zero, List.getElem_cons_succ, List.setIfInBounds_toArray, List.set_cons_zero, List.set_cons_succ]
           refine wpAnyH_ready (rs := [0]) (by kernel_rfl) (by simp) ?_
           refine AllReadyH.cons rfl (fun K hK => ?_) ?_
           ·
            go_simp
            have hba := (Below.refl v2.heap.size v2).alloc (Nat.le_refl _) (.cells #[] depT)
            have hR := OwnR.empty (r := rDep) (sz := 5) v2 depT
            have hVW := hb
            have gBne : some (vd.heap.size) ≠ Value.ownBlock (.slice (some ⟨v2.heap.size, 0, none⟩) 0 0) := fun e => by injection e with e; have e2 : vd.heap.size = v2.heap.size := e; omega
            replace b0 := (hba.cell (p := ⟨vd.heap.size, 0, none⟩) gBlt).trans b0
            replace b1 := (hba.cell (p := ⟨vd.heap.size, 1, none⟩) gBlt).trans b1
            replace b2 := (hba.cell (p := ⟨vd.heap.size, 2, none⟩) gBlt).trans b2
            replace b3 := (hba.cell (p := ⟨vd.heap.size, 3, none⟩) gBlt).trans b3
            replace b4 := (hba.cell (p := ⟨vd.heap.size, 4, none⟩) gBlt).trans b4
            replace gBlt := Nat.lt_of_lt_of_le gBlt hba.size
            replace hb := hb.trans (hba.mono hb.size)
            clear hba
            generalize World.alloc v2 _ = v3 at *
            refine hK.out _ _ ?_ (fun hHeld => ?_)
            ·
             (try dsimp only)
             exact ⟨(hO5.kept hb).c 2 0, (hO5.kept hb).c 2 1, (hO5.kept hb).c 1 0, (hO5.kept hb).c 1 1, (hO5.kept hb).c 1 2, (hO5.kept hb).c 1 3, (hO5.kept hb).c 1 4⟩
            clear hK K
            try simp only [Act.put, List.getElem_toArray, List.getElem_cons_zero, List.getElem_cons_succ, List.setIfInBounds_toArray, List.set_cons_zero, List.set_cons_succ]
            refine wpAnyH_ready (rs := [3]) (by kernel_rfl) (by simp) ?_
            refine AllReadyH.cons rfl (fun K hK => ?_) ?_
            ·
             have hVs : w.heap.size ≤ v2.heap.size := Nat.le_trans hO5.below.size hVW.size
             have hws := ((hS.hist.below rDep_ok (hO5.below.trans (hb.mono hO5.below.size))).more rDep_ok (S' := Beh v3 (.slice (some ⟨v2.heap.size, 0, none⟩) 0 0)) (fun b hb' => beh_old hR (Nat.lt_of_lt_of_le hb' hVs)))
             refine step_appRS rDep_ok rDep_one hR hws Tryd.underlying59 dep_info hby1 ?_
             intro v4 w4_ hR4 hg4
             rw [List.nil_append] at hR4
             obtain ⟨A4, c4, rfl⟩ := hR4.form
             replace b0 := (hg4.cell (p := ⟨vd.heap.size, 0, none⟩) gBlt gBne).trans b0
             replace b1 := (hg4.cell (p := ⟨vd.heap.size, 1, none⟩) gBlt gBne).trans b1
             replace b2 := (hg4.cell (p := ⟨vd.heap.size, 2, none⟩) gBlt gBne).trans b2
             replace b3 := (hg4.cell (p := ⟨vd.heap.size, 3, none⟩) gBlt gBne).trans b3
             replace b4 := (hg4.cell (p := ⟨vd.heap.size, 4, none⟩) gBlt gBne).trans b4
             replace gBne := hg4.ne gBlt gBne
             replace gBlt := Nat.lt_of_lt_of_le gBlt hg4.by_.size
             replace hb := hVW.trans (hR4.bel.mono hVW.size)
             replace hR := hR4
             clear hR4 hg4 hws hVs
             refine hK.out _ _ ?_ (fun hHeld => ?_)
             ·
              (try dsimp only)
              exact ⟨(hO5.kept hb).c 2 0, (hO5.kept hb).c 2 1, (hO5.kept hb).c 1 0, (hO5.kept hb).c 1 1, (hO5.kept hb).c 1 2, (hO5.kept hb).c 1 3, (hO5.kept hb).c 1 4⟩
             clear hK K
             try simp only [Act.put, List.getElem_toArray, List.getElem_cons_zero, List.getElem_cons_succ, List.setIfInBounds_toArray, List.set_cons_zero, List.set_cons_succ]
             refine wpAnyH_ready (rs := [13]) (by kernel_rfl) (by simp) ?_
             refine AllReadyH.cons rfl (fun K hK => ?_) ?_
             ·
              have hbx := box_dep (d := (⟨r, d.ver, d.at_, d.st⟩ : Dep)) (S := Beh w4_ (.slice A4 x.history.length c4)) ⟨gBlt, gBne⟩ b0 b1 b2 b3 b4
              refine step_appRS rDep_ok rDep_one hR hbx Tryd.underlying59 dep_info hby2 ?_
              intro v6 w6_ hR6 hg6
              obtain ⟨A6, c6, rfl⟩ := hR6.form
              have hl6 : (x.history ++ [(⟨r, d.ver, d.at_, d.st⟩ : Dep)]).length = x.history.length + 1 := by simp
              rw [hl6] at hR6 ⊢
              replace hb := hVW.trans (hR6.bel.mono hVW.size)
              replace hR := hR6
              clear hR6 hg6 hbx hl6 gBlt gBne b0 b1 b2 b3 b4
              refine hK.out _ _ ?_ (fun hHeld => ?_)
              ·
               (try dsimp only)
               exact ⟨(hO5.kept hb).c 2 0, (hO5.kept hb).c 2 1, (hO5.kept hb).c 1 0, (hO5.kept hb).c 1 1, (hO5.kept hb).c 1 2, (hO5.kept hb).c 1 3, (hO5.kept hb).c 1 4⟩
              clear hK K
              try simp only [Act.put, List.getElem_toArray, List.getElem_cons_zero, List.getElem_cons_succ, List.setIfInBounds_toArray, List.set_cons_zero, List.set_cons_succ]
              refine tkY 14 (v := ?v228) rfl (.inl ⟨by rfl, ?hy228⟩) ?hr228
              case hy228 => (intro w hSw; (try dsimp only at hSw); go_simp; try with_reducible rfl)
              simp only [Act.put, List.getElem_toArray, List.getElem_cons_zero, List.getElem_cons_succ, List.setIfInBounds_toArray, List.set_cons_zero, List.set_cons_succ]
              refine wpAnyH_ready (rs := [15]) (by kernel_rfl) (by simp) ?_
              refine AllReadyH.cons rfl (fun K hK => ?_) ?_
              ·
               have x3 := (hO5.kept hb).c 0 4
               have xf := (hO5.kept hb).fr 0
               have hOs := (hO5.kept hb).store 0 rfl 4 (.slice A6 (x.history.length + 1) c6)
               go_simp
               clear x3 xf
               refine hK.out _ _ ?_ (fun hHeld => ?_)
               ·
                (try dsimp only)
                exact ⟨hOs.c 2 0, hOs.c 2 1, hOs.c 1 0, hOs.c 1 1, hOs.c 1 2, hOs.c 1 3, hOs.c 1 4⟩
               clear hK K
               try simp only [Act.put, List.getElem_toArray, List.getElem_cons_zero, List.getElem_cons_succ, List.setIfInBounds_toArray, List.set_cons_zero, List.set_cons_succ]
               refine wpAnyH_done (by kernel_rfl) ?_ _
               clear hOs
               have hO6 : OwnB w w6_ [(r1.heap.size, [.string x.name, .string ⟨#[]⟩, .string ⟨#[]⟩, .slice A1 x.waiting.length c1, .slice A2 x.history.length c2]), ((w.heap.size + 1), [.string d.ref.run, .string d.ref.job, .int .u64 d.ver, .int .i64 d.at_, .int .i64 d.st]), (w.heap.size, [.string r.run, .string r.job])] := hO5.kept hb
               clear c0_0 c0_1 c0_2 c0_3 c0_4 cf0 c1_0 c1_1 c1_2 c1_3 c1_4 cf1 c2_0 c2_1 cf2 hO5
               have c0_0 := hO6.c 0 0
               have c0_1 := hO6.c 0 1
               have c0_2 := hO6.c 0 2
               have c0_3 := hO6.c 0 3
               have c0_4 := hO6.c 0 4
               have cf0 := hO6.fr 0
               have c1_0 := hO6.c 1 0
               have c1_1 := hO6.c 1 1
               have c1_2 := hO6.c 1 2
               have c1_3 := hO6.c 1 3
               have c1_4 := hO6.c 1 4
               have cf1 := hO6.fr 1
               have c2_0 := hO6.c 2 0
               have c2_1 := hO6.c 2 1
               have cf2 := hO6.fr 2
               have hR4 := hR
               have hbV := (HB0).trans (hVW.mono HB0.size)
               have hxl := Nat.lt_of_lt_of_le (HX_) hVW.size
               clear hR
               have hld : (x.history ++ [(⟨r, d.ver, d.at_, d.st⟩ : Dep)]).length = x.history.length + 1 := by simp
               (try rw [hld] at hR4)
               replace hld := Lib.hid hld
               have hne : Value.ownBlock (.slice A6 (x.history.length + 1) c6) ≠ some (r1.heap.size) := fun e => by
                obtain ⟨cs, HH, _⟩ := hR4
                have := (HH.1.lt _ e).1
                omega
               have hR5 := (OwnR.up (w1 := v2) hbV hR4).farSet (xb := r1.heap.size) (o := 4) (u := .slice A6 (x.history.length + 1) c6) rDep_ok hne (by omega) (fun x c h => h)
               generalize hx_ : World.setCell _ _ _ = wo7
               rw [hx_] at hR5
               have hO7 : OwnB w wo7 [(r1.heap.size, [.string x.name, .string ⟨#[]⟩, .string ⟨#[]⟩, .slice A1 x.waiting.length c1, .slice A6 (x.history.length + 1) c6]), ((w.heap.size + 1), [.string d.ref.run, .string d.ref.job, .int .u64 d.ver, .int .i64 d.at_, .int .i64 d.st]), (w.heap.size, [.string r.run, .string r.job])] := by rw [← hx_]; exact hO6.store 0 rfl 4 _
               have zwo7 : w6_.heap.size ≤ wo7.heap.size := by rw [← hx_]; simp [World.setCell]
               clear hx_ c0_0 c0_1 c0_2 c0_3 c0_4 cf0 c1_0 c1_1 c1_2 c1_3 c1_4 cf1 c2_0 c2_1 cf2 hO6
               have c0_0 := hO7.c 0 0
               have c0_1 := hO7.c 0 1
               have c0_2 := hO7.c 0 2
               have c0_3 := hO7.c 0 3
               have c0_4 := hO7.c 0 4
               have cf0 := hO7.fr 0
               have c1_0 := hO7.c 1 0
               have c1_1 := hO7.c 1 1
               have c1_2 := hO7.c 1 2
               have c1_3 := hO7.c 1 3
               have c1_4 := hO7.c 1 4
               have cf1 := hO7.fr 1
               have c2_0 := hO7.c 2 0
               have c2_1 := hO7.c 2 1
               have cf2 := hO7.fr 2
               clear hR4
               (try repeat' ((fail_if_success at_builtin); (first | go_skip | go_guarded | go_step)))
               go_meet
               case rel => exact ⟨_, _, _, rfl, hO7, hR5, hne⟩
              exact AllReadyH.nil
             exact AllReadyH.nil
            exact AllReadyH.nil
           exact AllReadyH.nil
          exact AllReadyH.nil
         refine AllReadyH.cons rfl (fun K hK => ?_) ?_
         ·
          go_simp
          have hba := (Below.refl vd.heap.size vd).alloc (Nat.le_refl _) (.cells #[.string r.run, .string r.job, .int .u64 d.ver, .int .i64 d.at_, .int .i64 d.st] depT)
          have b0 := (CellsAt.new vd #[.string r.run, .string r.job, .int .u64 d.ver, .int .i64 d.at_, .int .i64 d.st] depT).cell 0 _ rfl
          have b1 := (CellsAt.new vd #[.string r.run, .string r.job, .int .u64 d.ver, .int .i64 d.at_, .int .i64 d.st] depT).cell 1 _ rfl
          have b2 := (CellsAt.new vd #[.string r.run, .string r.job, .int .u64 d.ver, .int .i64 d.at_, .int .i64 d.st] depT).cell 2 _ rfl
          have b3 := (CellsAt.new vd #[.string r.run, .string r.job, .int .u64 d.ver, .int .i64 d.at_, .int .i64 d.st] depT).cell 3 _ rfl
          have b4 := (CellsAt.new vd #[.string r.run, .string r.job, .int .u64 d.ver, .int .i64 d.at_, .int .i64 d.st] depT).cell 4 _ rfl
          have gBlt : vd.heap.size < (World.alloc vd (.cells #[.string r.run, .string r.job, .int .u64 d.ver, .int .i64 d.at_, .int .i64 d.st] depT)).heap.size := by simp
          replace hb := hb.trans (hba.mono hb.size)
          clear hba
          generalize World.alloc vd _ = v1 at *
          refine hK.out _ _ ?_ (fun hHeld => ?_)
          ·
           (try dsimp only)
           exact ⟨(hO5.kept hb).c 2 0, (hO5.kept hb).c 2 1, (hO5.kept hb).c 1 0, (hO5.kept hb).c 1 1, (hO5.kept hb).c 1 2, (hO5.kept hb).c 1 3, (hO5.kept hb).c 1 4⟩
          clear hK K
          try simp only [Act.put, List.getElem_toArray, List.getElem_cons_zero, List.getElem_cons_succ, List.setIfInBounds_toArray, List.set_cons_zero, List.set_cons_succ]
          refine wpAnyH_ready (rs := [0, 2]) (by kernel_rfl) (by simp) ?_
          refine AllReadyH.cons rfl (fun K hK => ?_) ?_
          ·
           go_simp
           have hba := (Below.refl v1.heap.size v1).alloc (Nat.le_refl _) (.cells #[] depT)
           have hR := OwnR.empty (r := rDep) (sz := 5) v1 depT
           have hVW := hb
           have gBne : some (vd.heap.size) ≠ Value.ownBlock (.slice (some ⟨v1.heap.size, 0, none⟩) 0 0) := fun e => by injection e with e; have e2 : vd.heap.size = v1.heap.size := e; omega
           replace b0 := (hba.cell (p := ⟨vd.heap.size, 0, none⟩) gBlt).trans b0
           replace b1 := (hba.cell (p := ⟨vd.heap.size, 1, none⟩) gBlt).trans b1
           replace b2 := (hba.cell (p := ⟨vd.heap.size, 2, none⟩) gBlt).trans b2
           replace b3 := (hba.cell (p := ⟨vd.heap.size, 3, none⟩) gBlt).trans b3
           replace b4 := (hba.cell (p := ⟨vd.heap.size, 4, none⟩) gBlt).trans b4
           replace gBlt := Nat.lt_of_lt_of_le gBlt hba.size
           replace hb := hb.trans (hba.mono hb.size)
           clear hba
           generalize World.alloc v1 _ = v2 at *
           refine hK.out _ _ ?_ (fun hHeld => ?_)
           ·
            (try dsimp only)
            exact ⟨(hO5.kept hb).c 2 0, (hO5.kept hb).c 2 1, (hO5.kept hb).c 1 0, (hO5.kept hb).c 1 1, (hO5.kept hb).c 1 2, (hO5.kept hb).c 1 3, (hO5.kept hb).c 1 4⟩
           clear hK K
           try simp only [Act.put, List.getElem_toArray, List.getElem_cons_zero, List.getElem_cons_succ, List.setIfInBounds_toArray, List.set_cons_zero, List.set_cons_succ]
           refine wpAnyH_ready (rs := [2]) (by kernel_rfl) (by simp) ?_
           refine AllReadyH.cons rfl (fun K hK => ?_) ?_
           ·
            have x3 := (hO5.kept hb).c 0 4
            go_simp
            clear x3
            refine hK.out _ _ ?_ (fun hHeld => ?_)
            ·
             (try dsimp only)
             exact ⟨(hO5.kept hb).c 2 0, (hO5.kept hb).c 2 1, (hO5.kept hb).c 1 0, (hO5.kept hb).c 1 1, (hO5.kept hb).c 1 2, (hO5.kept hb).c 1 3, (hO5.kept hb).c 1 4⟩
            clear hK K
            try simp only [Act.put, List.getElem_toArray, List.getElem_cons_zero, List.getElem_cons_succ, List.setIfInBounds_toArray, List.set_cons_zero, List.set_cons_succ]
            refine wpAnyH_ready (rs := [3]) (by kernel_rfl) (by simp) ?_
            refine AllReadyH.cons rfl (fun K hK => ?_) ?_
            ·
             have hVs : w.heap.size ≤ v1.heap.size := Nat.le_trans hO5.below.size hVW.size
             have hws := ((hS.hist.below rDep_ok (hO5.below.trans (hb.mono hO5.below.size))).more rDep_ok (S' := Beh v2 (.slice (some ⟨v1.heap.size, 0, none⟩) 0 0)) (fun b hb' => beh_old hR (Nat.lt_of_lt_of_le hb' hVs)))
             refine step_appRS rDep_ok rDep_one hR hws Tryd.underlying59 dep_info hby1 ?_
             intro v4 w4_ hR4 hg4
             rw [List.nil_append] at hR4
             obtain ⟨A4, c4, rfl⟩ := hR4.form
             replace b0 := (hg4.cell (p := ⟨vd.heap.size, 0, none⟩) gBlt gBne).trans b0
             replace b1 := (hg4.cell (p := ⟨vd.heap.size, 1, none⟩) gBlt gBne).trans b1
             replace b2 := (hg4.cell (p := ⟨vd.heap.size, 2, none⟩) gBlt gBne).trans b2
             replace b3 := (hg4.cell (p := ⟨vd.heap.size, 3, none⟩) gBlt gBne).trans b3
             replace b4 := (hg4.cell (p := ⟨vd.heap.size, 4, none⟩) gBlt gBne).trans b4
             replace gBne := hg4.ne gBlt gBne
             replace gBlt := Nat.lt_of_lt_of_le gBlt hg4.by_.size
             replace hb := hVW.trans (hR4.bel.mono hVW.size)
             replace hR := hR4
             clear hR4 hg4 hws hVs
             refine hK.out _ _ ?_ (fun hHeld => ?_)
             ·
              (try dsimp only)
              exact ⟨(hO5.kept hb).c 2 0, (hO5.kept hb).c 2 1, (hO5.kept hb).c 1 0, (hO5.kept hb).c 1 1, (hO5.kept hb).c 1 2, (hO5.kept hb).c 1 3, (hO5.kept hb).c 1 4⟩
             clear hK K
             try simp only [Act.put, List.getElem_toArray, List.getElem_cons_zero, List.getElem_cons_succ, List.setIfInBounds_toArray, List.set_cons_zero, List.set_cons_succ]
             refine wpAnyH_ready (rs := [13]) (by kernel_rfl) (by simp) ?_
             refine AllReadyH.cons rfl (fun K hK => ?_) ?_
             ·
              have hbx := box_dep (d := (⟨r, d.ver, d.at_, d.st⟩ : Dep)) (S := Beh w4_ (.slice A4 x.history.length c4)) ⟨gBlt, gBne⟩ b0 b1 b2 b3 b4
              refine step_appRS rDep_ok rDep_one hR hbx Tryd.underlying59 dep_info hby2 ?_
              intro v6 w6_ hR6 hg6
              obtain ⟨A6, c6, rfl⟩ := hR6.form
              have hl6 : (x.history ++ [(⟨r, d.ver, d.at_, d.st⟩ : Dep)]).length = x.history.length + 1 := by simp
              rw [hl6] at hR6 ⊢
              replace hb := hVW.trans (hR6.bel.mono hVW.size)
              replace hR := hR6
              clear hR6 hg6 hbx hl6 gBlt gBne b0 b1 b2 b3 b4
              refine hK.out _ _ ?_ (fun hHeld => ?_)
              ·
               (try dsimp only)
               exact ⟨(hO5.kept hb).c 2 0, (hO5.kept hb).c 2 1, (hO5.kept hb).c 1 0, (hO5.kept hb).c 1 1, (hO5.kept hb).c 1 2, (hO5.kept hb).c 1 3, (hO5.kept hb).c 1 4⟩
              clear hK K
              try simp only [Act.put, List.getElem_toArray, List.getElem_cons_zero, List.getElem_cons_succ, List.setIfInBounds_toArray, List.set_cons_zero, List.set_cons_succ]
              refine tkY 14 (v := ?v229) rfl (.inl ⟨by rfl, ?hy229⟩) ?hr229
              case hy229 => (intro w hSw; (try dsimp only at hSw); go_simp; try with_reducible rfl)
              simp only [Act.put, List.getElem_toArray, List.getElem_cons_zero, List.getElem_cons_succ, List.setIfInBounds_toArray, List.set_cons_zero, List.set_cons_succ]
              refine wpAnyH_ready (rs := [15]) (by kernel_rfl) (by simp) ?_
              refine AllReadyH.cons rfl (fun K hK => ?_) ?_
              ·
               have x3 := (hO5.kept hb).c 0 4
               have xf := (hO5.kept hb).fr 0
               have hOs := (hO5.kept hb).store 0 rfl 4 (.slice A6 (x.history.length + 1) c6)
               go_simp
               clear x3 xf
               refine hK.out _ _ ?_ (fun hHeld => ?_)
               ·
                (try dsimp only)
                exact ⟨hOs.c 2 0, hOs.c 2 1, hOs.c 1 0, hOs.c 1 1, hOs.c 1 2, hOs.c 1 3, hOs.c 1 4⟩
               clear hK K
               try simp only [Act.put, List.getElem_toArray, List.getElem_cons_zero, List.getElem_cons_succ, List.setIfInBounds_toArray, List.set_cons_zero, List.set_cons_succ]
               refine wpAnyH_done (by kernel_rfl) ?_ _
               clear hOs
               have hO6 : OwnB w w6_ [(r1.heap.size, [.string x.name, .string ⟨#[]⟩, .string ⟨#[]⟩, .slice A1 x.waiting.length c1, .slice A2 x.history.length c2]), ((w.heap.size + 1), [.string d.ref.run, .string d.ref.job, .int .u64 d.ver, .int .i64 d.at_, .int .i64 d.st]), (w.heap.size, [.string r.run, .string r.job])] := hO5.kept hb
               clear c0_0 c0_1 c0_2 c0_3 c0_4 cf0 c1_0 c1_1 c1_2 c1_3 c1_4 cf1 c2_0 c2_1 cf2 hO5
               have c0_0 := hO6.c 0 0
               have c0_1 := hO6.c 0 1
               have c0_2 := hO6.c 0 2
               have c0_3 := hO6.c 0 3
               have c0_4 := hO6.c 0 4
               have cf0 := hO6.fr 0
               have c1_0 := hO6.c 1 0
               have c1_1 := hO6.c 1 1
               have c1_2 := hO6.c 1 2
               have c1_3 := hO6.c 1 3
               have c1_4 := hO6.c 1 4
               have cf1 := hO6.fr 1
               have c2_0 := hO6.c 2 0
               have c2_1 := hO6.c 2 1
               have cf2 := hO6.fr 2
               have hR4 := hR
               have hbV := (HB0).trans (hVW.mono HB0.size)
               have hxl := Nat.lt_of_lt_of_le (HX_) hVW.size
               clear hR
               have hld : (x.history ++ [(⟨r, d.ver, d.at_, d.st⟩ : Dep)]).length = x.history.length + 1 := by simp
               (try rw [hld] at hR4)
               replace hld := Lib.hid hld
               have hne : Value.ownBlock (.slice A6 (x.history.length + 1) c6) ≠ some (r1.heap.size) := fun e => by
                obtain ⟨cs, HH, _⟩ := hR4
                have := (HH.1.lt _ e).1
                omega
               have hR5 := (OwnR.up (w1 := v1) hbV hR4).farSet (xb := r1.heap.size) (o := 4) (u := .slice A6 (x.history.length + 1) c6) rDep_ok hne (by omega) (fun x c h => h)
               generalize hx_ : World.setCell _ _ _ = wo7
               rw [hx_] at hR5
               have hO7 : OwnB w wo7 [(r1.heap.size, [.string x.name, .string ⟨#[]⟩, .string ⟨#[]⟩, .slice A1 x.waiting.length c1, .slice A6 (x.history.length + 1) c6]), ((w.heap.size + 1), [.string d.ref.run, .string d.ref.job, .int .u64 d.ver, .int .i64 d.at_, .int .i64 d.st]), (w.heap.size, [.string r.run, .string r.job])] := by rw [← hx_]; exact hO6.store 0 rfl 4 _
               have zwo7 : w6_.heap.size ≤ wo7.heap.size := by rw [← hx_]; simp [World.setCell]
               clear hx_ c0_0 c0_1 c0_2 c0_3 c0_4 cf0 c1_0 c1_1 c1_2 c1_3 c1_4 cf1 c2_0 c2_1 cf2 hO6
               have c0_0 := hO7.c 0 0
               have c0_1 := hO7.c 0 1
               have c0_2 := hO7.c 0 2
               have c0_3 := hO7.c 0 3
               have c0_4 := hO7.c 0 4
               have cf0 := hO7.fr 0
               have c1_0 := hO7.c 1 0
               have c1_1 := hO7.c 1 1
               have c1_2 := hO7.c 1 2
               have c1_3 := hO7.c 1 3
               have c1_4 := hO7.c 1 4
               have cf1 := hO7.fr 1
               have c2_0 := hO7.c 2 0
               have c2_1 := hO7.c 2 1
               have cf2 := hO7.fr 2
               clear hR4
               (try repeat' ((fail_if_success at_builtin); (first | go_skip | go_guarded | go_step)))
               go_meet
               case rel => exact ⟨_, _, _, rfl, hO7, hR5, hne⟩
              exact AllReadyH.nil
             exact AllReadyH.nil
            exact AllReadyH.nil
           exact AllReadyH.nil
          refine AllReadyH.cons rfl (fun K hK => ?_) ?_
          ·
           have x3 := (hO5.kept hb).c 0 4
           go_simp
           clear x3
           refine hK.out _ _ ?_ (fun hHeld => ?_)
           ·
            (try dsimp only)
            exact ⟨(hO5.kept hb).c 2 0, (hO5.kept hb).c 2 1, (hO5.kept hb).c 1 0, (hO5.kept hb).c 1 1, (hO5.kept hb).c 1 2, (hO5.kept hb).c 1 3, (hO5.kept hb).c 1 4⟩
           clear hK K
           try simp only [Act.put, List.getElem_toArray, List.getElem_cons_zero, List.getElem_cons_succ, List.setIfInBounds_toArray, List.set_cons_zero, List.set_cons_succ]
           refine wpAnyH_ready (rs := [0]) (by kernel_rfl) (by simp) ?_
           refine AllReadyH.cons rfl (fun K hK => ?_) ?_
           ·
            go_simp
            have hba := (Below.refl v1.heap.size v1).alloc (Nat.le_refl _) (.cells #[] depT)
            have hR := OwnR.empty (r := rDep) (sz := 5) v1 depT
            have hVW := hb
            have gBne : some (vd.heap.size) ≠ Value.ownBlock (.slice (some ⟨v1.heap.size, 0, none⟩) 0 0) := fun e => by injection e with e; have e2 : vd.heap.size = v1.heap.size := e; omega
            replace b0 := (hba.cell (p := ⟨vd.heap.size, 0, none⟩) gBlt).trans b0
            replace b1 := (hba.cell (p := ⟨vd.heap.size, 1, none⟩) gBlt).trans b1
            replace b2 := (hba.cell (p := ⟨vd.heap.size, 2, none⟩) gBlt).trans b2
            replace b3 := (hba.cell (p := ⟨vd.heap.size, 3, none⟩) gBlt).trans b3
            replace b4 := (hba.cell (p := ⟨vd.heap.size, 4, none⟩) gBlt).trans b4
            replace gBlt := Nat.lt_of_lt_of_le gBlt hba.size
            replace hb := hb.trans (hba.mono hb.size)
            clear hba
            generalize World.alloc v1 _ = v3 at *
            refine hK.out _ _ ?_ (fun hHeld => ?_)
            ·
             (try dsimp only)
             exact ⟨(hO5.kept hb).c 2 0, (hO5.kept hb).c 2 1, (hO5.kept hb).c 1 0, (hO5.kept hb).c 1 1, (hO5.kept hb).c 1 2, (hO5.kept hb).c 1 3, (hO5.kept hb).c 1 4⟩
            clear hK K
            try simp only [Act.put, List.getElem_toArray, List.getElem_cons_zero, List.getElem_cons_succ, List.setIfInBounds_toArray, List.set_cons_zero, List.set_cons_succ]
            refine wpAnyH_ready (rs := [3]) (by kernel_rfl) (by simp) ?_
            refine AllReadyH.cons rfl (fun K hK => ?_) ?_
            ·
             have hVs : w.heap.size ≤ v1.heap.size := Nat.le_trans hO5.below.size hVW.size
             have hws := ((hS.hist.below rDep_ok (hO5.below.trans (hb.mono hO5.below.size))).more rDep_ok (S' := Beh v3 (.slice (some ⟨v1.heap.size, 0, none⟩) 0 0)) (fun b hb' => beh_old hR (Nat.lt_of_lt_of_le hb' hVs)))
             refine step_appRS rDep_ok rDep_one hR hws Tryd.underlying59 dep_info hby1 ?_
             intro v4 w4_ hR4 hg4
             rw [List.nil_append] at hR4
             obtain ⟨A4, c4, rfl⟩ := hR4.form
             replace b0 := (hg4.cell (p := ⟨vd.heap.size, 0, none⟩) gBlt gBne).trans b0
             replace b1 := (hg4.cell (p := ⟨vd.heap.size, 1, none⟩) gBlt gBne).trans b1
             replace b2 := (hg4.cell (p := ⟨vd.heap.size, 2, none⟩) gBlt gBne).trans b2
             replace b3 := (hg4.cell (p := ⟨vd.heap.size, 3, none⟩) gBlt gBne).trans b3
             replace b4 := (hg4.cell (p := ⟨vd.heap.size, 4, none⟩) gBlt gBne).trans b4
             replace gBne := hg4.ne gBlt gBne
             replace gBlt := Nat.lt_of_lt_of_le gBlt hg4.by_.size
             replace hb := hVW.trans (hR4.bel.mono hVW.size)
             replace hR := hR4
             clear hR4 hg4 hws hVs
             refine hK.out _ _ ?_ (fun hHeld => ?_)
             ·
              (try dsimp only)
              exact ⟨(hO5.kept hb).c 2 0, (hO5.kept hb).c 2 1, (hO5.kept hb).c 1 0, (hO5.kept hb).c 1 1, (hO5.kept hb).c 1 2, (hO5.kept hb).c 1 3, (hO5.kept hb).c 1 4⟩
             clear hK K
             try simp only [Act.put, List.getElem_toArray, List.getElem_cons_zero, List.getElem_cons_succ, List.setIfInBounds_toArray, List.set_cons_zero, List.set_cons_succ]
             refine wpAnyH_ready (rs := [13]) (by kernel_rfl) (by simp) ?_
             refine AllReadyH.cons rfl (fun K hK => ?_) ?_
             ·
              have hbx := box_dep (d := (⟨r, d.ver, d.at_, d.st⟩ : Dep)) (S := Beh w4_ (.slice A4 x.history.length c4)) ⟨gBlt, gBne⟩ b0 b1 b2 b3 b4
              refine step_appRS rDep_ok rDep_one hR hbx Tryd.underlying59 dep_info hby2 ?_
              intro v6 w6_ hR6 hg6
              obtain ⟨A6, c6, rfl⟩ := hR6.form
              have hl6 : (x.history ++ [(⟨r, d.ver, d.at_, d.st⟩ : Dep)]).length = x.history.length + 1 := by simp
              rw [hl6] at hR6 ⊢
              replace hb := hVW.trans (hR6.bel.mono hVW.size)
              replace hR := hR6
              clear hR6 hg6 hbx hl6 gBlt gBne b0 b1 b2 b3 b4
              refine hK.out _ _ ?_ (fun hHeld => ?_)
              ·
               (try dsimp only)
               exact ⟨(hO5.kept hb).c 2 0, (hO5.kept hb).c 2 1, (hO5.kept hb).c 1 0, (hO5.kept hb).c 1 1, (hO5.kept hb).c 1 2, (hO5.kept hb).c 1 3, (hO5.kept hb).c 1 4⟩
              clear hK K
              try simp only [Act.put, List.getElem_toArray, List.getElem_cons_zero, List.getElem_cons_succ, List.setIfInBounds_toArray, List.set_cons_zero, List.set_cons_succ]
              refine tkY 14 (v := ?v230) rfl (.inl ⟨by rfl, ?hy230⟩) ?hr230
              case hy230 => (intro w hSw; (try dsimp only at hSw); go_simp; try with_reducible rfl)
              simp only [Act.put, List.getElem_toArray, List.getElem_cons_zero, List.getElem_cons_succ, List.setIfInBounds_toArray, List.set_cons_zero, List.set_cons_succ]
              refine wpAnyH_ready (rs := [15]) (by kernel_rfl) (by simp) ?_
              refine AllReadyH.cons rfl (fun K hK => ?_) ?_
              ·
               have x3 := (hO5.kept hb).c 0 4
               have xf := (hO5.kept hb).fr 0
               have hOs := (hO5.kept hb).store 0 rfl 4 (.slice A6 (x.history.length + 1) c6)
               go_simp
               clear x3 xf
               refine hK.out _ _ ?_ (fun hHeld => ?_)
               ·
                (try dsimp only)
                exact ⟨hOs.c 2 0, hOs.c 2 1, hOs.c 1 0, hOs.c 1 1, hOs.c 1 2, hOs.c 1 3, hOs.c 1 4⟩
               clear hK K
               try simp only [Act.put, List.getElem_toArray, List.getElem_cons_zero, List.getElem_cons_succ, List.setIfInBounds_toArray, List.set_cons_zero, List.set_cons_succ]
               refine wpAnyH_done (by kernel_rfl) ?_ _
               clear hOs
               have hO6 : OwnB w w6_ [(r1.heap.size, [.string x.name, .string ⟨#[]⟩, .string ⟨#[]⟩, .slice A1 x.waiting.length c1, .slice A2 x.history.length c2]), ((w.heap.size + 1), [.string d.ref.run, .string d.ref.job, .int .u64 d.ver, .int .i64 d.at_, .int .i64 d.st]), (w.heap.size, [.string r.run, .string r.job])] := hO5.kept hb
               clear c0_0 c0_1 c0_2 c0_3 c0_4 cf0 c1_0 c1_1 c1_2 c1_3 c1_4 cf1 c2_0 c2_1 cf2 hO5
               have c0_0 := hO6.c 0 0
               have c0_1 := hO6.c 0 1
               have c0_2 := hO6.c 0 2
               have c0_3 := hO6.c 0 3
               have c0_4 := hO6.c 0 4
               have cf0 := hO6.fr 0
               have c1_0 := hO6.c 1 0
               have c1_1 := hO6.c 1 1
               have c1_2 := hO6.c 1 2
               have c1_3 := hO6.c 1 3
               have c1_4 := hO6.c 1 4
               have cf1 := hO6.fr 1
               have c2_0 := hO6.c 2 0
               have c2_1 := hO6.c 2 1
               have cf2 := hO6.fr 2
               have hR4 := hR
               have hbV := (HB0).trans (hVW.mono HB0.size)
               have hxl := Nat.lt_of_lt_of_le (HX_) hVW.size
               clear hR
               have hld : (x.history ++ [(⟨r, d.ver, d.at_, d.st⟩ : Dep)]).length = x.history.length + 1 := by simp
               (try rw [hld] at hR4)
               replace hld := Lib.hid hld
               have hne : Value.ownBlock (.slice A6 (x.history.length + 1) c6) ≠ some (r1.heap.size) := fun e => by
                obtain ⟨cs, HH, _⟩ := hR4
                have := (HH.1.lt _ e).1
                omega
               have hR5 := (OwnR.up (w1 := v1) hbV hR4).farSet (xb := r1.heap.size) (o := 4) (u := .slice A6 (x.history.length + 1) c6) rDep_ok hne (by omega) (fun x c h => h)
               generalize hx_ : World.setCell _ _ _ = wo7
               rw [hx_] at hR5
               have hO7 : OwnB w wo7 [(r1.heap.size, [.string x.name, .string ⟨#[]⟩, .string ⟨#[]⟩, .slice A1 x.waiting.length c1, .slice A6 (x.history.length + 1) c6]), ((w.heap.size + 1), [.string d.ref.run, .string d.ref.job, .int .u64 d.ver, .int .i64 d.at_, .int .i64 d.st]), (w.heap.size, [.string r.run, .string r.job])] := by rw [← hx_]; exact hO6.store 0 rfl 4 _
               have zwo7 : w6_.heap.size ≤ wo7.heap.size := by rw [← hx_]; simp [World.setCell]
               clear hx_ c0_0 c0_1 c0_2 c0_3 c0_4 cf0 c1_0 c1_1 c1_2 c1_3 c1_4 cf1 c2_0 c2_1 cf2 hO6
               have c0_0 := hO7.c 0 0
               have c0_1 := hO7.c 0 1
               have c0_2 := hO7.c 0 2
               have c0_3 := hO7.c 0 3
               have c0_4 := hO7.c 0 4
               have cf0 := hO7.fr 0
               have c1_0 := hO7.c 1 0
               have c1_1 := hO7.c 1 1
               have c1_2 := hO7.c 1 2
               have c1_3 := hO7.c 1 3
               have c1_4 := hO7.c 1 4
               have cf1 := hO7.fr 1
               have c2_0 := hO7.c 2 0
               have c2_1 := hO7.c 2 1
               have cf2 := hO7.fr 2
               clear hR4
               (try repeat' ((fail_if_success at_builtin); (first | go_skip | go_guarded | go_step)))
               go_meet
               case rel => exact ⟨_, _, _, rfl, hO7, hR5, hne⟩
              exact AllReadyH.nil
             exact AllReadyH.nil
            exact AllReadyH.nil
           exact AllReadyH.nil
          exact AllReadyH.nil
         exact AllReadyH.nil
        case rest =>
         obtain ⟨wf, A6, c6, rfl, hOf, hR5, hne⟩ := hcut
         have hld : (x.history ++ [(⟨r, d.ver, d.at_, d.st⟩ : Dep)]).length = x.history.length + 1 := by simp
         replace hld := Lib.hid hld
         have hxb := hOf.lo 0
         have hO6 : OwnB w wf [(r1.heap.size, [.string x.name, .string ⟨#[]⟩, .string ⟨#[]⟩, .slice A1 x.waiting.length c1, .slice A6 (x.history.length + 1) c6]), ((w.heap.size + 1), [.string d.ref.run, .string d.ref.job, .int .u64 d.ver, .int .i64 d.at_, .int .i64 d.st]), (w.heap.size, [.string r.run, .string r.job])] := hOf
         clear c0_0 c0_1 c0_2 c0_3 c0_4 cf0 c1_0 c1_1 c1_2 c1_3 c1_4 cf1 c2_0 c2_1 cf2 hO5
         have c0_0 := hO6.c 0 0
         have c0_1 := hO6.c 0 1
         have c0_2 := hO6.c 0 2
         have c0_3 := hO6.c 0 3
         have c0_4 := hO6.c 0 4
         have cf0 := hO6.fr 0
         have c1_0 := hO6.c 1 0
         have c1_1 := hO6.c 1 1
         have c1_2 := hO6.c 1 2
         have c1_3 := hO6.c 1 3
         have c1_4 := hO6.c 1 4
         have cf1 := hO6.fr 1
         have c2_0 := hO6.c 2 0
         have c2_1 := hO6.c 2 1
         have cf2 := hO6.fr 2
         clear hOf
         by_cases hc : 64 < x.history.length + 1
         ·
          have hc1 : (64 : Int) < (x.history.length : Int) + 1 := by omega
          have hcap : (finE (⟨r, d.ver, d.at_, d.st⟩ : Dep) x).history = (x.history ++ [(⟨r, d.ver, d.at_, d.st⟩ : Dep)]).drop 1 := capH_big (by rw [hld.out]; exact hc)
          have hcl : x.history.length + 1 ≤ c6 := by obtain ⟨cs, HH, _⟩ := hR5; rw [hld.out] at HH; exact HH.cap_le
          have j1 : (1 : Int) ≤ (x.history.length : Int) + 1 := by omega
          have j3 : (x.history.length : Int) + 1 ≤ (c6 : Int) := by omega
          have j4 : ¬ c6 = 1 := by omega
          obtain ⟨gb, hA6, hgb1, hgb2, _⟩ := hR5.head hld.out.symm (by omega)
          subst hA6
          have hcN := Lib.hid hc
          clear hc
          replace hcap := Lib.hid hcap
          go_upto_region 14 with (fail)
          have hR6 := hR5.farSet (xb := r1.heap.size) (o := 4) (u := .slice (some ⟨gb, 5, none⟩) x.history.length (c6 - 1)) rDep_ok hne (by omega) (fun x c h => h)
          generalize hx_ : World.setCell _ _ _ = wo7
          rw [hx_] at hR6
          have hO7 : OwnB w wo7 [(r1.heap.size, [.string x.name, .string ⟨#[]⟩, .string ⟨#[]⟩, .slice A1 x.waiting.length c1, .slice (some ⟨gb, 5, none⟩) x.history.length (c6 - 1)]), ((w.heap.size + 1), [.string d.ref.run, .string d.ref.job, .int .u64 d.ver, .int .i64 d.at_, .int .i64 d.st]), (w.heap.size, [.string r.run, .string r.job])] := by rw [← hx_]; exact hO6.store 0 rfl 4 _
          have zwo7 : wf.heap.size ≤ wo7.heap.size := by rw [← hx_]; simp [World.setCell]
          clear hx_ c0_0 c0_1 c0_2 c0_3 c0_4 cf0 c1_0 c1_1 c1_2 c1_3 c1_4 cf1 c2_0 c2_1 cf2 hO6
          have c0_0 := hO7.c 0 0
          have c0_1 := hO7.c 0 1
          have c0_2 := hO7.c 0 2
          have c0_3 := hO7.c 0 3
          have c0_4 := hO7.c 0 4
          have cf0 := hO7.fr 0
          have c1_0 := hO7.c 1 0
          have c1_1 := hO7.c 1 1
          have c1_2 := hO7.c 1 2
          have c1_3 := hO7.c 1 3
          have c1_4 := hO7.c 1 4
          have cf1 := hO7.fr 1
          have c2_0 := hO7.c 2 0
          have c2_1 := hO7.c 2 1
          have cf2 := hO7.fr 2
          have hbS := hO7.below
          have hs5 : RSlice rDep 5 wo7 (fun b => b < wo7.heap.size) (some ⟨gb, 5, none⟩) (finE (⟨r, d.ver, d.at_, d.st⟩ : Dep) x).history.length (c6 - 1) (finE (⟨r, d.ver, d.at_, d.st⟩ : Dep) x).history := by
           rw [hcap.out]
           have h9 := hR6
           rw [← hld.out] at h9
           have h8 := (h9.slice rDep_ok).drop (i := 1) (by rw [hld.out]; omega)
           rw [if_neg j4] at h8
           rw [List.length_drop]
           exact h8
          have C := with_any l (finE (⟨r, d.ver, d.at_, d.st⟩ : Dep) x) A1 c1 (some ⟨gb, 5, none⟩) (c6 - 1) i (some ⟨g, o, none⟩) n c wo7 (h.below hbS) hk ((hS.wait.below rRef_ok hbS).more rRef_ok (fun _ hp => Nat.lt_of_lt_of_le hp hbS.size)) hs5
          rw [show (finE (⟨r, d.ver, d.at_, d.st⟩ : Dep) x).history.length = x.history.length from by rw [hcap.out, List.length_drop, hld.out]; rfl] at C
          replace C := Lib.hid C
          replace hbS := Lib.hid hbS
          clear hs5
          repeat' ((fail_if_success at_builtin); (first | go_skip | go_guarded | go_step))
          refine C.out.mono ?_
          clear C
          rintro e w9 ⟨A', n', c', rfl, hb9, hs9⟩
          dsimp only
          have hbz := hbS.out.trans (hb9.mono hbS.out.size)
          replace hs9 := Lib.hid hs9
          replace hbz := Lib.hid hbz
          repeat' ((fail_if_success at_builtin); (first | go_skip | go_guarded | go_step))
          go_ret2
          rw [hm1.out]
          exact ⟨_, _, _, rfl, hbz.out, hs9.out⟩
         ·
          have hc1 : ¬ (64 : Int) < (x.history.length : Int) + 1 := by omega
          have hcap : (finE (⟨r, d.ver, d.at_, d.st⟩ : Dep) x).history = x.history ++ [(⟨r, d.ver, d.at_, d.st⟩ : Dep)] := capH_few (by rw [hld.out]; exact hc)
          clear hc
          replace hcap := Lib.hid hcap
          have hbS := hO6.below
          have hs5 : RSlice rDep 5 wf (fun b => b < wf.heap.size) A6 (finE (⟨r, d.ver, d.at_, d.st⟩ : Dep) x).history.length c6 (finE (⟨r, d.ver, d.at_, d.st⟩ : Dep) x).history := by
           rw [hcap.out]
           have h9 := hR5
           rw [← hld.out] at h9
           exact h9.slice rDep_ok
          have C := with_any l (finE (⟨r, d.ver, d.at_, d.st⟩ : Dep) x) A1 c1 A6 c6 i (some ⟨g, o, none⟩) n c wf (h.below hbS) hk ((hS.wait.below rRef_ok hbS).more rRef_ok (fun _ hp => Nat.lt_of_lt_of_le hp hbS.size)) hs5
          rw [show (finE (⟨r, d.ver, d.at_, d.st⟩ : Dep) x).history.length = x.history.length + 1 from by rw [hcap.out]; exact hld.out] at C
          replace C := Lib.hid C
          replace hbS := Lib.hid hbS
          clear hs5
          repeat' ((fail_if_success at_builtin); (first | go_skip | go_guarded | go_step))
          refine C.out.mono ?_
          clear C
          rintro e w9 ⟨A', n', c', rfl, hb9, hs9⟩
          dsimp only
          have hbz := hbS.out.trans (hb9.mono hbS.out.size)
          replace hs9 := Lib.hid hs9
          replace hbz := Lib.hid hbz
          repeat' ((fail_if_success at_builtin); (first | go_skip | go_guarded | go_step))
          go_ret2
          rw [hm1.out]
          exact ⟨_, _, _, rfl, hbz.out, hs9.out⟩
      ·
       have i1 : ¬ (i : Int) < (n : Int) := by omega
       have hm1 := hm0.out
       rw [List.getElem?_eq_none (by
        rw [List.drop_of_length_le (by omega)] at hp
        have : posA (holdE r) [] = 0 := rfl
        omega)] at hm1
       dsimp only at hm1
       replace hm1 := Lib.hid hm1
       clear hp
       repeat' ((fail_if_success at_builtin); (first | go_skip | go_guarded | go_step))
       go_ret2
       rw [hm1.out]
       exact RetL.same h hbS 8
 ·
  have f1 : (d.st != 1) = true := by simpa using hs1
  by_cases hs2 : d.st = 2
  ·
   have f2 : (d.st != 2) = false := by simp [hs2]
   have hok : (d.st == 1 || d.st == 2) = true := by rw [hs2]; rfl
   clear hs1 hs2
   by_cases ha1 : d.at_ < 0
   ·
    have hm : finL l ⟨r, d.ver, d.at_, d.st⟩ = (l, 2) := by unfold finL; rw [if_neg (by show ¬ (d.st == 1 || d.st == 2) = false; rw [hok]; simp), if_pos (Or.inl ha1)]
    have hbz := hO1.below
    replace hm := Lib.hid hm
    repeat' ((fail_if_success at_builtin); (first | go_skip | go_guarded | go_step))
    go_ret2
    rw [hm.out]
    exact RetL.same h hbz 2
   ·
    by_cases ha2 : 1125899906842624 < d.at_
    ·
     have hm : finL l ⟨r, d.ver, d.at_, d.st⟩ = (l, 2) := by unfold finL; rw [if_neg (by show ¬ (d.st == 1 || d.st == 2) = false; rw [hok]; simp), if_pos (Or.inr ha2)]
     have hbz := hO1.below
     replace hm := Lib.hid hm
     repeat' ((fail_if_success at_builtin); (first | go_skip | go_guarded | go_step))
     go_ret2
     rw [hm.out]
     exact RetL.same h hbz 2
    ·
     have hm0 : finL l ⟨r, d.ver, d.at_, d.st⟩ = if properR r = false then (l, (8 : Int)) else match l[posA (holdE r) l]? with
       | none => (l, (8 : Int))
       | some x => (l.set (posA (holdE r) l) (finE ⟨r, d.ver, d.at_, d.st⟩ x), (0 : Int)) := by
      unfold finL
      rw [if_neg (by show ¬ (d.st == 1 || d.st == 2) = false; rw [hok]; simp), if_neg (by show ¬ (d.at_ < 0 ∨ 1125899906842624 < d.at_); omega)]
      rfl
     clear hok
     cases hpr : properR r with
     | false =>
      rw [hpr, if_pos rfl] at hm0
      replace hm0 := Lib.hid hm0
      repeat' ((fail_if_success at_builtin); (first | go_skip | go_guarded | go_step))
      go_loopw [8] (fun u8 wr => ∃ i : Nat, i ≤ n ∧ u8 = .int .i64 (i : Int) ∧ Below wo1.heap.size wo1 wr) (fun u8 _ => n - (intOf u8).toNat)
      case atStart => exact ⟨0, by omega, rfl, Below.refl _ _⟩
      case round =>
       obtain ⟨i, hi, rfl, hb⟩ := hrel
       have i0 : (0 : Int) ≤ (i : Int) := by omega
       have i2 : IntKind.i64.wrap ((i : Int) + 1) = (i : Int) + 1 := IntWalk.i64_in _ (by omega)
       have zwr := hb.size
       have hO2 : OwnB w wr [((w.heap.size + 1), [.string d.ref.run, .string d.ref.job, .int .u64 d.ver, .int .i64 d.at_, .int .i64 d.st]), (w.heap.size, [.string r.run, .string r.job])] := hO1.kept hb
       clear c0_0 c0_1 c0_2 c0_3 c0_4 cf0 c1_0 c1_1 cf1 hO1
       have c0_0 := hO2.c 0 0
       have c0_1 := hO2.c 0 1
       have c0_2 := hO2.c 0 2
       have c0_3 := hO2.c 0 3
       have c0_4 := hO2.c 0 4
       have cf0 := hO2.fr 0
       have c1_0 := hO2.c 1 0
       have c1_1 := hO2.c 1 1
       have cf1 := hO2.fr 1
       by_cases hlt : i < n
       ·
        have i1 : (i : Int) < (n : Int) := by omega
        have hpl := hO2.lt 1
        have hS0 : (Below wr.heap.size wr wr ∧ wr.cell? ⟨w.heap.size, 0, none⟩ = some (.string r.run) ∧ wr.cell? ⟨w.heap.size, 1, none⟩ = some (.string r.job)) := ⟨Below.refl _ _, c1_0, c1_1⟩
        have keepS : ∀ v1 v2 : World, (Below wr.heap.size wr v1 ∧ v1.cell? ⟨w.heap.size, 0, none⟩ = some (.string r.run) ∧ v1.cell? ⟨w.heap.size, 1, none⟩ = some (.string r.job)) → Below v1.heap.size v1 v2 → (Below wr.heap.size wr v2 ∧ v2.cell? ⟨w.heap.size, 0, none⟩ = some (.string r.run) ∧ v2.cell? ⟨w.heap.size, 1, none⟩ = some (.string r.job)) := fun v1 v2 h hb => ⟨h.1.trans (hb.mono h.1.size), (hb.cell (p := ⟨w.heap.size, _, none⟩) (Nat.lt_of_lt_of_le hpl h.1.size)).trans h.2.1, (hb.cell (p := ⟨w.heap.size, _, none⟩) (Nat.lt_of_lt_of_le hpl h.1.size)).trans h.2.2⟩
        have hS1 : (Below wr.heap.size wr wr.drew ∧ wr.drew.cell? ⟨w.heap.size, 0, none⟩ = some (.string r.run) ∧ wr.drew.cell? ⟨w.heap.size, 1, none⟩ = some (.string r.job)) := keepS _ _ hS0 ((Below.refl _ _).drew)
        replace keepS := Lib.hid keepS
        clear hS0
        go_upto_region 8 with (fail)
        refine wp_region_held_drew (S := fun w' => Below wr.heap.size wr w' ∧ w'.cell? ⟨w.heap.size, 0, none⟩ = some (.string r.run) ∧ w'.cell? ⟨w.heap.size, 1, none⟩ = some (.string r.job)) (by kernel_rfl) ?_ (fun hHeld => ?_)
        ·
         (try dsimp only)
         exact hS1
        refine tkY 0 (v := ?v231) rfl (.inl ⟨by rfl, ?hy231⟩) ?hr231
        case hy231 => (intro w hSw; (try dsimp only at hSw); go_simp; try with_reducible rfl)
        simp only [Act.put, List.getElem_toArray, List.getElem_cons_zero, List.setIfInBounds_toArray, List.set_cons_zero, List.set_cons_succ]
        refine wpAnyH_ready (rs := [1]) (by kernel_rfl) (by simp) ?_
        refine AllReadyH.cons rfl (fun K hK => ?_) AllReadyH.nil
        go_simp
        go_at_call 45
        refine (rproper_any r _).mono ?_
        rintro e r1 ⟨rfl, hbq⟩
        dsimp only
        rw [hpr]
        refine hK.out _ _ ?_ (fun hHeld => ?_)
        ·
         (try dsimp only)
         exact keepS.out _ _ hHeld hbq
        clear hK K
        try simp only [Act.put, List.getElem_toArray, List.getElem_cons_zero, List.getElem_cons_succ, List.setIfInBounds_toArray, List.set_cons_zero, List.set_cons_succ]
        refine tkY 2 (v := ?v232) rfl (.inl ⟨by rfl, ?hy232⟩) ?hr232
        case hy232 => (intro w hSw; (try dsimp only at hSw); go_simp; try with_reducible rfl)
        simp only [Act.put, List.getElem_toArray, List.getElem_cons_zero, List.getElem_cons_succ, List.setIfInBounds_toArray, List.set_cons_zero, List.set_cons_succ]
        refine tkY 3 (v := ?v233) rfl (.inl ⟨by rfl, ?hy233⟩) ?hr233
        case hy233 => (intro w hSw; (try dsimp only at hSw); go_simp; try with_reducible rfl)
        simp only [Act.put, List.getElem_toArray, List.getElem_cons_zero, List.getElem_cons_succ, List.setIfInBounds_toArray, List.set_cons_zero, List.set_cons_succ]
        refine tkN 4 rfl ?_
        simp only [Act.put, List.getElem_toArray, List.getElem_cons_zero, List.getElem_cons_succ, List.setIfInBounds_toArray, List.set_cons_zero, List.set_cons_succ]
        refine tkN 5 rfl ?_
        simp only [Act.put, List.getElem_toArray, List.getElem_cons_zero, List.getElem_cons_succ, List.setIfInBounds_toArray, List.set_cons_zero, List.set_cons_succ]
        refine tkN 6 rfl ?_
        simp only [Act.put, List.getElem_toArray, List.getElem_cons_zero, List.getElem_cons_succ, List.setIfInBounds_toArray, List.set_cons_zero, List.set_cons_succ]
        refine tkN 7 rfl ?_
        simp only [Act.put, List.getElem_toArray, List.getElem_cons_zero, List.getElem_cons_succ, List.setIfInBounds_toArray, List.set_cons_zero, List.set_cons_succ]
        refine tkN 8 rfl ?_
        simp only [Act.put, List.getElem_toArray, List.getElem_cons_zero, List.getElem_cons_succ, List.setIfInBounds_toArray, List.set_cons_zero, List.set_cons_succ]
        refine tkN 9 rfl ?_
        simp only [Act.put, List.getElem_toArray, List.getElem_cons_zero, List.getElem_cons_succ, List.setIfInBounds_toArray, List.set_cons_zero, List.set_cons_succ]
        refine tkN 10 rfl ?_
        simp only [Act.put, List.getElem_toArray, List.getElem_cons_zero, List.getElem_cons_succ, List.setIfInBounds_toArray, List.set_cons_zero, List.set_cons_succ]
        refine tkY 11 (v := ?v234) rfl (.inl ⟨by rfl, ?hy234⟩) ?hr234
        case hy234 => (intro w hSw; (try dsimp only at hSw); go_simp; try with_reducible rfl)
        simp only [Act.put, List.getElem_toArray, List.getElem_cons_zero, List.getElem_cons_succ, List.setIfInBounds_toArray, List.set_cons_zero, List.set_cons_succ]
        refine wpAnyH_done (by kernel_rfl) ?_ _
        have hbW := hHeld.1
        clear hHeld hS1 keepS
        have hbz := hb.trans (hbW.mono hb.size)
        repeat' ((fail_if_success at_builtin); (first | go_skip | go_guarded | go_step))
        go_roundw
        case rel => exact ⟨i + 1, by omega, by first | rfl | go_num, hbz⟩
        case measure => (try go_num); (try simp [intOf]); (try omega)
       ·
        have i1 : ¬ (i : Int) < (n : Int) := by omega
        have hbz := hO2.below
        repeat' ((fail_if_success at_builtin); (first | go_skip | go_guarded | go_step))
        go_ret2
        rw [hm0.out]
        exact RetL.same h hbz 8
     | true =>
      rw [hpr, if_neg (by simp)] at hm0
      replace hm0 := Lib.hid hm0
      repeat' ((fail_if_success at_builtin); (first | go_skip | go_guarded | go_step))
      go_loopw [8] (fun u8 wr => ∃ i : Nat, i ≤ n ∧ u8 = .int .i64 (i : Int) ∧ Below wo1.heap.size wo1 wr ∧ posA (holdE r) l = i + posA (holdE r) (l.drop i)) (fun u8 _ => n - (intOf u8).toNat)
      case atStart => exact ⟨0, by omega, rfl, Below.refl _ _, by simp⟩
      case round =>
       obtain ⟨i, hi, rfl, hb, hp⟩ := hrel
       have i0 : (0 : Int) ≤ (i : Int) := by omega
       have i2 : IntKind.i64.wrap ((i : Int) + 1) = (i : Int) + 1 := IntWalk.i64_in _ (by omega)
       have zwr := hb.size
       have hO2 : OwnB w wr [((w.heap.size + 1), [.string d.ref.run, .string d.ref.job, .int .u64 d.ver, .int .i64 d.at_, .int .i64 d.st]), (w.heap.size, [.string r.run, .string r.job])] := hO1.kept hb
       clear c0_0 c0_1 c0_2 c0_3 c0_4 cf0 c1_0 c1_1 cf1 hO1
       have c0_0 := hO2.c 0 0
       have c0_1 := hO2.c 0 1
       have c0_2 := hO2.c 0 2
       have c0_3 := hO2.c 0 3
       have c0_4 := hO2.c 0 4
       have cf0 := hO2.fr 0
       have c1_0 := hO2.c 1 0
       have c1_1 := hO2.c 1 1
       have cf1 := hO2.fr 1
       have hbS := hO2.below
       by_cases hlt : i < n
       ·
        have i1 : (i : Int) < (n : Int) := by omega
        have hpl := hO2.lt 1
        have hk : i < l.length := by omega
        obtain ⟨x, hx⟩ : ∃ x, l[i]? = some x := ⟨_, List.getElem?_eq_getElem hk⟩
        obtain ⟨g, o, A1, c1, A2, c2, rfl, hg, hS⟩ := env_at h.rd hx
        have hT := hS.below hg hbS
        have e0 := hT.e0
        have e1 := hT.e1
        have e2 := hT.e2
        have e3 := hT.e3
        have e4 := hT.e4
        have hgl : g < wr.heap.size := Nat.lt_of_lt_of_le hg hbS.size
        have hhl := hH x (List.mem_of_getElem? hx)
        have hq := run_neR x.holder r
        have hhe : holdE r x = eqR x.holder r := rfl
        clear hT
        cases hz : eqR x.holder r with
        | false =>
         simp only [hz] at hq
         have hp2 := posA_miss hx hp (by rw [hhe, hz])
         clear hp hhe hx
         replace hp2 := Lib.hid hp2
         have hS0 : (Below wr.heap.size wr wr ∧ wr.cell? ⟨g, o + i * 5 + 1, none⟩ = some (.string x.holder.run) ∧ wr.cell? ⟨g, o + i * 5 + 2, none⟩ = some (.string x.holder.job) ∧ wr.cell? ⟨w.heap.size, 0, none⟩ = some (.string r.run) ∧ wr.cell? ⟨w.heap.size, 1, none⟩ = some (.string r.job)) := ⟨Below.refl _ _, e1, e2, c1_0, c1_1⟩
         have keepS : ∀ v1 v2 : World, (Below wr.heap.size wr v1 ∧ v1.cell? ⟨g, o + i * 5 + 1, none⟩ = some (.string x.holder.run) ∧ v1.cell? ⟨g, o + i * 5 + 2, none⟩ = some (.string x.holder.job) ∧ v1.cell? ⟨w.heap.size, 0, none⟩ = some (.string r.run) ∧ v1.cell? ⟨w.heap.size, 1, none⟩ = some (.string r.job)) → Below v1.heap.size v1 v2 → (Below wr.heap.size wr v2 ∧ v2.cell? ⟨g, o + i * 5 + 1, none⟩ = some (.string x.holder.run) ∧ v2.cell? ⟨g, o + i * 5 + 2, none⟩ = some (.string x.holder.job) ∧ v2.cell? ⟨w.heap.size, 0, none⟩ = some (.string r.run) ∧ v2.cell? ⟨w.heap.size, 1, none⟩ = some (.string r.job)) := fun v1 v2 h hb => ⟨h.1.trans (hb.mono h.1.size), (hb.cell (p := ⟨g, _, none⟩) (Nat.lt_of_lt_of_le hgl h.1.size)).trans h.2.1, (hb.cell (p := ⟨g, _, none⟩) (Nat.lt_of_lt_of_le hgl h.1.size)).trans h.2.2.1, (hb.cell (p := ⟨w.heap.size, _, none⟩) (Nat.lt_of_lt_of_le hpl h.1.size)).trans h.2.2.2.1, (hb.cell (p := ⟨w.heap.size, _, none⟩) (Nat.lt_of_lt_of_le hpl h.1.size)).trans h.2.2.2.2⟩
         have hS1 : (Below wr.heap.size wr wr.drew ∧ wr.drew.cell? ⟨g, o + i * 5 + 1, none⟩ = some (.string x.holder.run) ∧ wr.drew.cell? ⟨g, o + i * 5 + 2, none⟩ = some (.string x.holder.job) ∧ wr.drew.cell? ⟨w.heap.size, 0, none⟩ = some (.string r.run) ∧ wr.drew.cell? ⟨w.heap.size, 1, none⟩ = some (.string r.job)) := keepS _ _ hS0 ((Below.refl _ _).drew)
         replace keepS := Lib.hid keepS
         clear hS0
         go_upto_region 8 with (fail)
         refine wp_region_held_drew (S := fun w' => Below wr.heap.size wr w' ∧ w'.cell? ⟨g, o + i * 5 + 1, none⟩ = some (.string x.holder.run) ∧ w'.cell? ⟨g, o + i * 5 + 2, none⟩ = some (.string x.holder.job) ∧ w'.cell? ⟨w.heap.size, 0, none⟩ = some (.string r.run) ∧ w'.cell? ⟨w.heap.size, 1, none⟩ = some (.string r.job)) (by kernel_rfl) ?_ (fun hHeld => ?_)
         ·
          (try dsimp only)
          exact hS1
         refine tkY 0 (v := ?v235) rfl (.inl ⟨by rfl, ?hy235⟩) ?hr235
         case hy235 => (intro w hSw; (try dsimp only at hSw); go_simp; try with_reducible rfl)
         simp only [Act.put, List.getElem_toArray, List.getElem_cons_zero, List.setIfInBounds_toArray, List.set_cons_zero, List.set_cons_succ]
         refine wpAnyH_ready (rs := [1]) (by kernel_rfl) (by simp) ?_
         refine AllReadyH.cons rfl (fun K hK => ?_) AllReadyH.nil
         go_simp
         go_at_call 45
         refine (rproper_any r _).mono ?_
         rintro e r1 ⟨rfl, hbq⟩
         dsimp only
         rw [hpr]
         refine hK.out _ _ ?_ (fun hHeld => ?_)
         ·
          (try dsimp only)
          exact keepS.out _ _ hHeld hbq
         clear hK K
         try simp only [Act.put, List.getElem_toArray, List.getElem_cons_zero, List.getElem_cons_succ, List.setIfInBounds_toArray, List.set_cons_zero, List.set_cons_succ]
         refine tkY 2 (v := ?v236) rfl (.inl ⟨by rfl, ?hy236⟩) ?hr236
         case hy236 => (intro w hSw; (try dsimp only at hSw); go_simp; try with_reducible rfl)
         simp only [Act.put, List.getElem_toArray, List.getElem_cons_zero, List.getElem_cons_succ, List.setIfInBounds_toArray, List.set_cons_zero, List.set_cons_succ]
         refine tkY 3 (v := ?v237) rfl (.inl ⟨by rfl, ?hy237⟩) ?hr237
         case hy237 => (intro w hSw; (try dsimp only at hSw); go_simp; try with_reducible rfl)
         simp only [Act.put, List.getElem_toArray, List.getElem_cons_zero, List.getElem_cons_succ, List.setIfInBounds_toArray, List.set_cons_zero, List.set_cons_succ]
         refine tkY 4 (v := ?v238) rfl (.inl ⟨by rfl, ?hy238⟩) ?hr238
         case hy238 => (intro w hSw; (try dsimp only at hSw); go_simp; try with_reducible rfl)
         simp only [Act.put, List.getElem_toArray, List.getElem_cons_zero, List.getElem_cons_succ, List.setIfInBounds_toArray, List.set_cons_zero, List.set_cons_succ]
         refine tkY 5 (v := ?v239) rfl (.inl ⟨by rfl, ?hy239⟩) ?hr239
         case hy239 => (intro w hSw; (try dsimp only at hSw); go_simp; try with_reducible rfl)
         simp only [Act.put, List.getElem_toArray, List.getElem_cons_zero, List.getElem_cons_succ, List.setIfInBounds_toArray, List.set_cons_zero, List.set_cons_succ]
         refine tkY 6 (v := ?v240) rfl (.inl ⟨by rfl, ?hy240⟩) ?hr240
         case hy240 => (intro w hSw; (try dsimp only at hSw); go_simp; try with_reducible rfl)
         simp only [Act.put, List.getElem_toArray, List.getElem_cons_zero, List.getElem_cons_succ, List.setIfInBounds_toArray, List.set_cons_zero, List.set_cons_succ]
         refine tkY 7 (v := ?v241) rfl (.inl ⟨by rfl, ?hy241⟩) ?hr241
         case hy241 => (intro w hSw; (try dsimp only at hSw); go_simp; try with_reducible rfl)
         simp only [Act.put, List.getElem_toArray, List.getElem_cons_zero, List.getElem_cons_succ, List.setIfInBounds_toArray, List.set_cons_zero, List.set_cons_succ]
         refine tkY 8 (v := ?v242) rfl (.inl ⟨by rfl, ?hy242⟩) ?hr242
         case hy242 => (intro w hSw; (try dsimp only at hSw); go_simp; try with_reducible rfl)
         simp only [Act.put, List.getElem_toArray, List.getElem_cons_zero, List.getElem_cons_succ, List.setIfInBounds_toArray, List.set_cons_zero, List.set_cons_succ]
         refine tkY 9 (v := ?v243) rfl (.inl ⟨by rfl, ?hy243⟩) ?hr243
         case hy243 => (intro w hSw; (try dsimp only at hSw); go_simp; try with_reducible rfl)
         simp only [Act.put, List.getElem_toArray, List.getElem_cons_zero, List.getElem_cons_succ, List.setIfInBounds_toArray, List.set_cons_zero, List.set_cons_succ]
         refine tkY 10 (v := ?v244) rfl (.inl ⟨by rfl, ?hy244⟩) ?hr244
         case hy244 => (intro w hSw; (try dsimp only at hSw); go_simp; try with_reducible rfl)
         simp only [Act.put, List.getElem_toArray, List.getElem_cons_zero, List.getElem_cons_succ, List.setIfInBounds_toArray, List.set_cons_zero, List.set_cons_succ]
         refine tkY 11 (v := ?v245) rfl (.inl ⟨by rfl, ?hy245⟩) ?hr245
         case hy245 => (intro w hSw; (try dsimp only at hSw); go_simp; try with_reducible rfl)
         simp only [Act.put, List.getElem_toArray, List.getElem_cons_zero, List.getElem_cons_succ, List.setIfInBounds_toArray, List.set_cons_zero, List.set_cons_succ]
         refine wpAnyH_done (by kernel_rfl) ?_ _
         have hbW := hHeld.1
         clear hHeld hS1 keepS
         have hbz := hb.trans (hbW.mono hb.size)
         repeat' ((fail_if_success at_builtin); (first | go_skip | go_guarded | go_step))
         go_roundw
         case rel => exact ⟨i + 1, by omega, by first | rfl | go_num, hbz, hp2.out⟩
         case measure => (try go_num); (try simp [intOf]); (try omega)
        | true =>
         simp only [hz] at hq
         have hpi : posA (holdE r) l = i := by
          have h1 := posA_hit hx hp (by rw [hhe, hz])
          unfold posI at h1
          split at h1 <;> omega
         have hm1 := hm0.out
         rw [hpi, hx] at hm1
         dsimp only at hm1
         replace hm1 := Lib.hid hm1
         clear hp hhe hx hpi
         have hS0 : (Below wr.heap.size wr wr ∧ wr.cell? ⟨g, o + i * 5, none⟩ = some (.string x.name) ∧ wr.cell? ⟨g, o + i * 5 + 1, none⟩ = some (.string x.holder.run) ∧ wr.cell? ⟨g, o + i * 5 + 2, none⟩ = some (.string x.holder.job) ∧ wr.cell? ⟨g, o + i * 5 + 3, none⟩ = some (.slice A1 x.waiting.length c1) ∧ wr.cell? ⟨g, o + i * 5 + 4, none⟩ = some (.slice A2 x.history.length c2) ∧ wr.cell? ⟨w.heap.size, 0, none⟩ = some (.string r.run) ∧ wr.cell? ⟨w.heap.size, 1, none⟩ = some (.string r.job)) := ⟨Below.refl _ _, e0, e1, e2, e3, e4, c1_0, c1_1⟩
         have keepS : ∀ v1 v2 : World, (Below wr.heap.size wr v1 ∧ v1.cell? ⟨g, o + i * 5, none⟩ = some (.string x.name) ∧ v1.cell? ⟨g, o + i * 5 + 1, none⟩ = some (.string x.holder.run) ∧ v1.cell? ⟨g, o + i * 5 + 2, none⟩ = some (.string x.holder.job) ∧ v1.cell? ⟨g, o + i * 5 + 3, none⟩ = some (.slice A1 x.waiting.length c1) ∧ v1.cell? ⟨g, o + i * 5 + 4, none⟩ = some (.slice A2 x.history.length c2) ∧ v1.cell? ⟨w.heap.size, 0, none⟩ = some (.string r.run) ∧ v1.cell? ⟨w.heap.size, 1, none⟩ = some (.string r.job)) → Below v1.heap.size v1 v2 → (Below wr.heap.size wr v2 ∧ v2.cell? ⟨g, o + i * 5, none⟩ = some (.string x.name) ∧ v2.cell? ⟨g, o + i * 5 + 1, none⟩ = some (.string x.holder.run) ∧ v2.cell? ⟨g, o + i * 5 + 2, none⟩ = some (.string x.holder.job) ∧ v2.cell? ⟨g, o + i * 5 + 3, none⟩ = some (.slice A1 x.waiting.length c1) ∧ v2.cell? ⟨g, o + i * 5 + 4, none⟩ = some (.slice A2 x.history.length c2) ∧ v2.cell? ⟨w.heap.size, 0, none⟩ = some (.string r.run) ∧ v2.cell? ⟨w.heap.size, 1, none⟩ = some (.string r.job)) := fun v1 v2 h hb => ⟨h.1.trans (hb.mono h.1.size), (hb.cell (p := ⟨g, _, none⟩) (Nat.lt_of_lt_of_le hgl h.1.size)).trans h.2.1, (hb.cell (p := ⟨g, _, none⟩) (Nat.lt_of_lt_of_le hgl h.1.size)).trans h.2.2.1, (hb.cell (p := ⟨g, _, none⟩) (Nat.lt_of_lt_of_le hgl h.1.size)).trans h.2.2.2.1, (hb.cell (p := ⟨g, _, none⟩) (Nat.lt_of_lt_of_le hgl h.1.size)).trans h.2.2.2.2.1, (hb.cell (p := ⟨g, _, none⟩) (Nat.lt_of_lt_of_le hgl h.1.size)).trans h.2.2.2.2.2.1, (hb.cell (p := ⟨w.heap.size, _, none⟩) (Nat.lt_of_lt_of_le hpl h.1.size)).trans h.2.2.2.2.2.2.1, (hb.cell (p := ⟨w.heap.size, _, none⟩) (Nat.lt_of_lt_of_le hpl h.1.size)).trans h.2.2.2.2.2.2.2⟩
         have hS1 : (Below wr.heap.size wr wr.drew ∧ wr.drew.cell? ⟨g, o + i * 5, none⟩ = some (.string x.name) ∧ wr.drew.cell? ⟨g, o + i * 5 + 1, none⟩ = some (.string x.holder.run) ∧ wr.drew.cell? ⟨g, o + i * 5 + 2, none⟩ = some (.string x.holder.job) ∧ wr.drew.cell? ⟨g, o + i * 5 + 3, none⟩ = some (.slice A1 x.waiting.length c1) ∧ wr.drew.cell? ⟨g, o + i * 5 + 4, none⟩ = some (.slice A2 x.history.length c2) ∧ wr.drew.cell? ⟨w.heap.size, 0, none⟩ = some (.string r.run) ∧ wr.drew.cell? ⟨w.heap.size, 1, none⟩ = some (.string r.job)) := keepS _ _ hS0 ((Below.refl _ _).drew)
         replace keepS := Lib.hid keepS
         clear hS0
         go_upto_region 8 with (fail)
         refine wp_region_held_drew (S := fun w' => Below wr.heap.size wr w' ∧ w'.cell? ⟨g, o + i * 5, none⟩ = some (.string x.name) ∧ w'.cell? ⟨g, o + i * 5 + 1, none⟩ = some (.string x.holder.run) ∧ w'.cell? ⟨g, o + i * 5 + 2, none⟩ = some (.string x.holder.job) ∧ w'.cell? ⟨g, o + i * 5 + 3, none⟩ = some (.slice A1 x.waiting.length c1) ∧ w'.cell? ⟨g, o + i * 5 + 4, none⟩ = some (.slice A2 x.history.length c2) ∧ w'.cell? ⟨w.heap.size, 0, none⟩ = some (.string r.run) ∧ w'.cell? ⟨w.heap.size, 1, none⟩ = some (.string r.job)) (by kernel_rfl) ?_ (fun hHeld => ?_)
         ·
          (try dsimp only)
          exact hS1
         refine tkY 0 (v := ?v246) rfl (.inl ⟨by rfl, ?hy246⟩) ?hr246
         case hy246 => (intro w hSw; (try dsimp only at hSw); go_simp; try with_reducible rfl)
         simp only [Act.put, List.getElem_toArray, List.getElem_cons_zero, List.setIfInBounds_toArray, List.set_cons_zero, List.set_cons_succ]
         refine wpAnyH_ready (rs := [1]) (by kernel_rfl) (by simp) ?_
         refine AllReadyH.cons rfl (fun K hK => ?_) AllReadyH.nil
         go_simp
         go_at_call 45
         refine (rproper_any r _).mono ?_
         rintro e r1 ⟨rfl, hbq⟩
         dsimp only
         rw [hpr]
         refine hK.out _ _ ?_ (fun hHeld => ?_)
         ·
          (try dsimp only)
          exact keepS.out _ _ hHeld hbq
         clear hK K
         try simp only [Act.put, List.getElem_toArray, List.getElem_cons_zero, List.getElem_cons_succ, List.setIfInBounds_toArray, List.set_cons_zero, List.set_cons_succ]
         refine tkY 2 (v := ?v247) rfl (.inl ⟨by rfl, ?hy247⟩) ?hr247
         case hy247 => (intro w hSw; (try dsimp only at hSw); go_simp; try with_reducible rfl)
         simp only [Act.put, List.getElem_toArray, List.getElem_cons_zero, List.getElem_cons_succ, List.setIfInBounds_toArray, List.set_cons_zero, List.set_cons_succ]
         refine tkY 3 (v := ?v248) rfl (.inl ⟨by rfl, ?hy248⟩) ?hr248
         case hy248 => (intro w hSw; (try dsimp only at hSw); go_simp; try with_reducible rfl)
         simp only [Act.put, List.getElem_toArray, List.getElem_cons_zero, List.getElem_cons_succ, List.setIfInBounds_toArray, List.set_cons_zero, List.set_cons_succ]
         refine tkY 4 (v := ?v249) rfl (.inl ⟨by rfl, ?hy249⟩) ?hr249
         case hy249 => (intro w hSw; (try dsimp only at hSw); go_simp; try with_reducible rfl)
         simp only [Act.put, List.getElem_toArray, List.getElem_cons_zero, List.getElem_cons_succ, List.setIfInBounds_toArray, List.set_cons_zero, List.set_cons_succ]
         refine tkY 5 (v := ?v250) rfl (.inl ⟨by rfl, ?hy250⟩) ?hr250
         case hy250 => (intro w hSw; (try dsimp only at hSw); go_simp; try with_reducible rfl)
         simp only [Act.put, List.getElem_toArray, List.getElem_cons_zero, List.getElem_cons_succ, List.setIfInBounds_toArray, List.set_cons_zero, List.set_cons_succ]
         refine tkY 6 (v := ?v251) rfl (.inl ⟨by rfl, ?hy251⟩) ?hr251
         case hy251 => (intro w hSw; (try dsimp only at hSw); go_simp; try with_reducible rfl)
         simp only [Act.put, List.getElem_toArray, List.getElem_cons_zero, List.getElem_cons_succ, List.setIfInBounds_toArray, List.set_cons_zero, List.set_cons_succ]
         refine tkY 7 (v := ?v252) rfl (.inl ⟨by rfl, ?hy252⟩) ?hr252
         case hy252 => (intro w hSw; (try dsimp only at hSw); go_simp; try with_reducible rfl)
         simp only [Act.put, List.getElem_toArray, List.getElem_cons_zero, List.getElem_cons_succ, List.setIfInBounds_toArray, List.set_cons_zero, List.set_cons_succ]
         refine tkY 8 (v := ?v253) rfl (.inl ⟨by rfl, ?hy253⟩) ?hr253
         case hy253 => (intro w hSw; (try dsimp only at hSw); go_simp; try with_reducible rfl)
         simp only [Act.put, List.getElem_toArray, List.getElem_cons_zero, List.getElem_cons_succ, List.setIfInBounds_toArray, List.set_cons_zero, List.set_cons_succ]
         refine tkY 9 (v := ?v254) rfl (.inl ⟨by rfl, ?hy254⟩) ?hr254
         case hy254 => (intro w hSw; (try dsimp only at hSw); go_simp; try with_reducible rfl)
         simp only [Act.put, List.getElem_toArray, List.getElem_cons_zero, List.getElem_cons_succ, List.setIfInBounds_toArray, List.set_cons_zero, List.set_cons_succ]
         refine tkY 10 (v := ?v255) rfl (.inl ⟨by rfl, ?hy255⟩) ?hr255
         case hy255 => (intro w hSw; (try dsimp only at hSw); go_simp; try with_reducible rfl)
         simp only [Act.put, List.getElem_toArray, List.getElem_cons_zero, List.getElem_cons_succ, List.setIfInBounds_toArray, List.set_cons_zero, List.set_cons_succ]
         refine tkY 11 (v := ?v256) rfl (.inl ⟨by rfl, ?hy256⟩) ?hr256
         case hy256 => (intro w hSw; (try dsimp only at hSw); go_simp; try with_reducible rfl)
         simp only [Act.put, List.getElem_toArray, List.getElem_cons_zero, List.getElem_cons_succ, List.setIfInBounds_toArray, List.set_cons_zero, List.set_cons_succ]
         refine wpAnyH_done (by kernel_rfl) ?_ _
         have hbW := hHeld.1
         clear hHeld hS1 keepS
         clear e0 e1 e2 e3 e4 hgl hpl hbS
         replace hbW := Lib.hid hbW
         have zr1 := hbW.out.size
         have hO3 : OwnB w r1 [((w.heap.size + 1), [.string d.ref.run, .string d.ref.job, .int .u64 d.ver, .int .i64 d.at_, .int .i64 d.st]), (w.heap.size, [.string r.run, .string r.job])] := hO2.kept hbW.out
         clear c0_0 c0_1 c0_2 c0_3 c0_4 cf0 c1_0 c1_1 cf1 hO2
         have c0_0 := hO3.c 0 0
         have c0_1 := hO3.c 0 1
         have c0_2 := hO3.c 0 2
         have c0_3 := hO3.c 0 3
         have c0_4 := hO3.c 0 4
         have cf0 := hO3.fr 0
         have c1_0 := hO3.c 1 0
         have c1_1 := hO3.c 1 1
         have cf1 := hO3.fr 1
         have hbS := hO3.below
         have hT := hS.below hg hbS
         have e0 := hT.e0
         have e1 := hT.e1
         have e2 := hT.e2
         have e3 := hT.e3
         have e4 := hT.e4
         have hws := hbS.size
         clear hT
         go_upto_region 10 with (fail)
         generalize hx_ : World.alloc r1 _ = wo4
         have hO4 : OwnB w wo4 [(r1.heap.size, [.string x.name, .string x.holder.run, .string x.holder.job, .slice A1 x.waiting.length c1, .slice A2 x.history.length c2]), ((w.heap.size + 1), [.string d.ref.run, .string d.ref.job, .int .u64 d.ver, .int .i64 d.at_, .int .i64 d.st]), (w.heap.size, [.string r.run, .string r.job])] := by rw [← hx_]; exact hO3.new #[.string x.name, .string x.holder.run, .string x.holder.job, .slice A1 x.waiting.length c1, .slice A2 x.history.length c2] _ (g := r1.heap.size)
         have hbn : Below r1.heap.size r1 wo4 := by rw [← hx_]; exact (Below.refl _ _).alloc (Nat.le_refl _) _
         have zwo4 : r1.heap.size + 0 < wo4.heap.size := by rw [← hx_]; simp <;> omega
         clear hx_ c0_0 c0_1 c0_2 c0_3 c0_4 cf0 c1_0 c1_1 cf1 hO3
         have c0_0 := hO4.c 0 0
         have c0_1 := hO4.c 0 1
         have c0_2 := hO4.c 0 2
         have c0_3 := hO4.c 0 3
         have c0_4 := hO4.c 0 4
         have cf0 := hO4.fr 0
         have c1_0 := hO4.c 1 0
         have c1_1 := hO4.c 1 1
         have c1_2 := hO4.c 1 2
         have c1_3 := hO4.c 1 3
         have c1_4 := hO4.c 1 4
         have cf1 := hO4.fr 1
         have c2_0 := hO4.c 2 0
         have c2_1 := hO4.c 2 1
         have cf2 := hO4.fr 2
         clear hbn
         clear e0 e1 e2 e3 e4 hbS
         go_upto_region 11 with (fail)
         generalize hx_ : World.setCell (World.setCell _ _ _) _ _ = wo5
         have hO5 : OwnB w wo5 [(r1.heap.size, [.string x.name, .string ⟨#[]⟩, .string ⟨#[]⟩, .slice A1 x.waiting.length c1, .slice A2 x.history.length c2]), ((w.heap.size + 1), [.string d.ref.run, .string d.ref.job, .int .u64 d.ver, .int .i64 d.at_, .int .i64 d.st]), (w.heap.size, [.string r.run, .string r.job])] := by rw [← hx_]; exact (hO4.store 0 rfl 1 _).store 0 rfl 2 _
         have zwo5 : wo4.heap.size ≤ wo5.heap.size := by rw [← hx_]; simp [World.setCell]
         clear hx_ c0_0 c0_1 c0_2 c0_3 c0_4 cf0 c1_0 c1_1 c1_2 c1_3 c1_4 cf1 c2_0 c2_1 cf2 hO4
         have c0_0 := hO5.c 0 0
         have c0_1 := hO5.c 0 1
         have c0_2 := hO5.c 0 2
         have c0_3 := hO5.c 0 3
         have c0_4 := hO5.c 0 4
         have cf0 := hO5.fr 0
         have c1_0 := hO5.c 1 0
         have c1_1 := hO5.c 1 1
         have c1_2 := hO5.c 1 2
         have c1_3 := hO5.c 1 3
         have c1_4 := hO5.c 1 4
         have cf1 := hO5.fr 1
         have c2_0 := hO5.c 2 0
         have c2_1 := hO5.c 2 1
         have cf2 := hO5.fr 2
         have hby1 : (([] : List Dep).length + x.history.length) * 56 ≤ 140737488355328 := by simp; omega
         have hby2 : (x.history.length + 1) * 56 ≤ 140737488355328 := by omega
         go_cut [65] (fun u65 wx => ∃ (wq : World) (A6 : Option Addr) (c6 : Nat), wq = wx ∧ OwnB w wq [(r1.heap.size, [.string x.name, .string ⟨#[]⟩, .string ⟨#[]⟩, .slice A1 x.waiting.length c1, .slice A6 (x.history.length + 1) c6]), ((w.heap.size + 1), [.string d.ref.run, .string d.ref.job, .int .u64 d.ver, .int .i64 d.at_, .int .i64 d.st]), (w.heap.size, [.string r.run, .string r.job])] ∧ OwnR rDep 5 w wq depT (.slice A6 (x.history.length + 1) c6) (x.history ++ [(⟨r, d.ver, d.at_, d.st⟩ : Dep)]) ∧ Value.ownBlock (.slice A6 (x.history.length + 1) c6) ≠ some r1.heap.size)
         case first =>
          have HB0 := hO5.below
          have HX_ := hO5.lt 0
          have hb : Below wo5.heap.size wo5 wo5.drew := (Below.refl _ _).drew
          refine wp_region_held_drew (S := fun w' => w'.cell? ⟨w.heap.size, 0, none⟩ = some (.string r.run) ∧ w'.cell? ⟨w.heap.size, 1, none⟩ = some (.string r.job) ∧ w'.cell? ⟨(w.heap.size + 1), 0, none⟩ = some (.string d.ref.run) ∧ w'.cell? ⟨(w.heap.size + 1), 1, none⟩ = some (.string d.ref.job) ∧ w'.cell? ⟨(w.heap.size + 1), 2, none⟩ = some (.int .u64 d.ver) ∧ w'.cell? ⟨(w.heap.size + 1), 3, none⟩ = some (.int .i64 d.at_) ∧ w'.cell? ⟨(w.heap.size + 1), 4, none⟩ = some (.int .i64 d.st)) (by kernel_rfl) ?_ (fun hHeld => ?_)
          ·
           (try dsimp only)
           exact ⟨hO5.c 2 0, hO5.c 2 1, hO5.c 1 0, hO5.c 1 1, hO5.c 1 2, hO5.c 1 3, hO5.c 1 4⟩
          generalize World.drew wo5 = vd at *
          refine tkY 1 (v := ?v257) rfl (.inl ⟨by rfl, ?hy257⟩) ?hr257
          case hy257 => (intro w hSw; (try dsimp only at hSw); go_simp; try with_reducible rfl)
          simp only [Act.put, List.getElem_toArray, List.getElem_cons_zero, List.getElem_cons_succ, List.setIfInBounds_toArray, List.set_cons_zero, List.set_cons_succ]
          refine tkY 4 (v := ?v258) rfl (.inl ⟨by rfl, ?hy258⟩) ?hr258
          case hy258 => (intro w hSw; (try dsimp only at hSw); go_simp; try with_reducible rfl)
          simp only [Act.put, List.getElem_toArray, List.getElem_cons_zero, List.getElem_cons_succ, List.setIfInBounds_toArray, List.set_cons_zero, List.set_cons_succ]
          refine tkY 5 (v := ?v259) rfl (.inl ⟨by rfl, ?hy259⟩) ?hr259
          case hy259 => (intro w hSw; (try dsimp only at hSw); go_simp; try with_reducible rfl)
          simp only [Act.put, List.getElem_toArray, List.getElem_cons_zero, List.getElem_cons_succ, List.setIfInBounds_toArray, List.set_cons_zero, List.set_cons_succ]
          refine tkY 6 (v := ?v260) rfl (.inl ⟨by rfl, ?hy260⟩) ?hr260
          case hy260 => (intro w hSw; (try dsimp only at hSw); go_simp; try with_reducible rfl)
          simp only [Act.put, List.getElem_toArray, List.getElem_cons_zero, List.getElem_cons_succ, List.setIfInBounds_toArray, List.set_cons_zero, List.set_cons_succ]
          refine tkY 7 (v := ?v261) rfl (.inl ⟨by rfl, ?hy261⟩) ?hr261
          case hy261 => (intro w hSw; (try dsimp only at hSw); go_simp; try with_reducible rfl)
          simp only [Act.put, List.getElem_toArray, List.getElem_cons_zero, List.getElem_cons_succ, List.setIfInBounds_toArray, List.set_cons_zero, List.set_cons_succ]
          refine tkY 8 (v := ?v262) rfl (.inl ⟨by rfl, ?hy262⟩) ?hr262
          case hy262 => (intro w hSw; (try dsimp only at hSw); go_simp; try with_reducible rfl)
          simp only [Act.put, List.getElem_toArray, List.getElem_cons_zero, List.getElem_cons_succ, List.setIfInBounds_toArray, List.set_cons_zero, List.set_cons_succ]
          refine tkY 9 (v := ?v263) rfl (.inl ⟨by rfl, ?hy263⟩) ?hr263
          case hy263 => (intro w hSw; (try dsimp only at hSw); go_simp; try with_reducible rfl)
          simp only [Act.put, List.getElem_toArray, List.getElem_cons_zero, List.getElem_cons_succ, List.setIfInBounds_toArray, List.set_cons_zero, List.set_cons_succ]
          refine tkY 10 (v := ?v264) rfl (.inl ⟨by rfl, ?hy264⟩) ?hr264
          case hy264 => (intro w hSw; (try dsimp only at hSw); go_simp; try with_reducible rfl)
          simp only [Act.put, List.getElem_toArray, List.getElem_cons_zero, List.getElem_cons_succ, List.setIfInBounds_toArray, List.set_cons_zero, List.set_cons_succ]
          refine tkY 11 (v := ?v265) rfl (.inl ⟨by rfl, ?hy265⟩) ?hr265
          case hy265 => (intro w hSw; (try dsimp only at hSw); go_simp; try with_reducible rfl)
          simp only [Act.put, List.getElem_toArray, List.getElem_cons_zero, List.getElem_cons_succ, List.setIfInBounds_toArray, List.set_cons_zero, List.set_cons_succ]
          refine wpAnyH_ready (rs := [0, 2, 12]) (by kernel_rfl) (by simp) ?_
          refine AllReadyH.cons rfl (fun K hK => ?_) ?_
          ·
           go_simp
           have hba := (Below.refl vd.heap.size vd).alloc (Nat.le_refl _) (.cells #[] depT)
           have hR := OwnR.empty (r := rDep) (sz := 5) vd depT
           have hVW := hb
           replace hb := hb.trans (hba.mono hb.size)
           clear hba
           generalize World.alloc vd _ = v1 at *
           refine hK.out _ _ ?_ (fun hHeld => ?_)
           ·
            (try dsimp only)
            exact ⟨(hO5.kept hb).c 2 0, (hO5.kept hb).c 2 1, (hO5.kept hb).c 1 0, (hO5.kept hb).c 1 1, (hO5.kept hb).c 1 2, (hO5.kept hb).c 1 3, (hO5.kept hb).c 1 4⟩
           clear hK K
           try simp only [Act.put, List.getElem_toArray, List.getElem_cons_zero, List.getElem_cons_succ, List.setIfInBounds_toArray, List.set_cons_zero, List.set_cons_succ]
           refine wpAnyH_ready (rs := [2, 12]) (by kernel_rfl) (by simp) ?_
           refine AllReadyH.cons rfl (fun K hK => ?_) ?_
           ·
            have x3 := (hO5.kept hb).c 0 4
            go_simp
            clear x3
            refine hK.out _ _ ?_ (fun hHeld => ?_)
            ·
             (try dsimp only)
             exact ⟨(hO5.kept hb).c 2 0, (hO5.kept hb).c 2 1, (hO5.kept hb).c 1 0, (hO5.kept hb).c 1 1, (hO5.kept hb).c 1 2, (hO5.kept hb).c 1 3, (hO5.kept hb).c 1 4⟩
            clear hK K
            try simp only [Act.put, List.getElem_toArray, List.getElem_cons_zero, List.getElem_cons_succ, List.setIfInBounds_toArray, List.set_cons_zero, List.set_cons_succ]
            refine wpAnyH_ready (rs := [3, 12]) (by kernel_rfl) (by simp) ?_
            refine AllReadyH.cons rfl (fun K hK => ?_) ?_
            ·
             have hVs : w.heap.size ≤ vd.heap.size := Nat.le_trans hO5.below.size hVW.size
             have hws := ((hS.hist.below rDep_ok (hO5.below.trans (hb.mono hO5.below.size))).more rDep_ok (S' := Beh v1 (.slice (some ⟨vd.heap.size, 0, none⟩) 0 0)) (fun b hb' => beh_old hR (Nat.lt_of_lt_of_le hb' hVs)))
             refine step_appRS rDep_ok rDep_one hR hws Tryd.underlying59 dep_info hby1 ?_
             intro v4 w4_ hR4 hg4
             rw [List.nil_append] at hR4
             obtain ⟨A4, c4, rfl⟩ := hR4.form
             replace hb := hVW.trans (hR4.bel.mono hVW.size)
             replace hR := hR4
             clear hR4 hg4 hws hVs
             refine hK.out _ _ ?_ (fun hHeld => ?_)
             ·
              (try dsimp only)
              exact ⟨(hO5.kept hb).c 2 0, (hO5.kept hb).c 2 1, (hO5.kept hb).c 1 0, (hO5.kept hb).c 1 1, (hO5.kept hb).c 1 2, (hO5.kept hb).c 1 3, (hO5.kept hb).c 1 4⟩
             clear hK K
             try simp only [Act.put, List.getElem_toArray, List.getElem_cons_zero, List.getElem_cons_succ, List.setIfInBounds_toArray, List.set_cons_zero, List.set_cons_succ]
             refine wpAnyH_ready (rs := [12]) (by kernel_rfl) (by simp) ?_
             refine AllReadyH.cons rfl (fun K hK => ?_) ?_
             ·
              go_simp
              have hba := (Below.refl w4_.heap.size w4_).alloc (Nat.le_refl _) (.cells #[.string r.run, .string r.job, .int .u64 d.ver, .int .i64 d.at_, .int .i64 d.st] depT)
              have b0 := (CellsAt.new w4_ #[.string r.run, .string r.job, .int .u64 d.ver, .int .i64 d.at_, .int .i64 d.st] depT).cell 0 _ rfl
              have b1 := (CellsAt.new w4_ #[.string r.run, .string r.job, .int .u64 d.ver, .int .i64 d.at_, .int .i64 d.st] depT).cell 1 _ rfl
              have b2 := (CellsAt.new w4_ #[.string r.run, .string r.job, .int .u64 d.ver, .int .i64 d.at_, .int .i64 d.st] depT).cell 2 _ rfl
              have b3 := (CellsAt.new w4_ #[.string r.run, .string r.job, .int .u64 d.ver, .int .i64 d.at_, .int .i64 d.st] depT).cell 3 _ rfl
              have b4 := (CellsAt.new w4_ #[.string r.run, .string r.job, .int .u64 d.ver, .int .i64 d.at_, .int .i64 d.st] depT).cell 4 _ rfl
              have gBlt : w4_.heap.size < (World.alloc w4_ (.cells #[.string r.run, .string r.job, .int .u64 d.ver, .int .i64 d.at_, .int .i64 d.st] depT)).heap.size := by simp
              have gBne : some w4_.heap.size ≠ Value.ownBlock (.slice A4 x.history.length c4) := hR.ltB (Nat.le_refl _)
              replace hR := hR.below rDep_ok hba
              replace hb := hb.trans (hba.mono hb.size)
              clear hba
              generalize World.alloc w4_ _ = v4 at *
              refine hK.out _ _ ?_ (fun hHeld => ?_)
              ·
               (try dsimp only)
               exact ⟨(hO5.kept hb).c 2 0, (hO5.kept hb).c 2 1, (hO5.kept hb).c 1 0, (hO5.kept hb).c 1 1, (hO5.kept hb).c 1 2, (hO5.kept hb).c 1 3, (hO5.kept hb).c 1 4⟩
              clear hK K
              try simp only [Act.put, List.getElem_toArray, List.getElem_cons_zero, List.getElem_cons_succ, List.setIfInBounds_toArray, List.set_cons_zero, List.set_cons_succ]
              refine wpAnyH_ready (rs := [13]) (by kernel_rfl) (by simp) ?_
              refine AllReadyH.cons rfl (fun K hK => ?_) ?_
              ·
               have hbx := box_dep (d := (⟨r, d.ver, d.at_, d.st⟩ : Dep)) (S := Beh v4 (.slice A4 x.history.length c4)) ⟨gBlt, gBne⟩ b0 b1 b2 b3 b4
               refine step_appRS rDep_ok rDep_one hR hbx Tryd.underlying59 dep_info hby2 ?_
               intro v6 w6_ hR6 hg6
               obtain ⟨A6, c6, rfl⟩ := hR6.form
               have hl6 : (x.history ++ [(⟨r, d.ver, d.at_, d.st⟩ : Dep)]).length = x.history.length + 1 := by simp
               rw [hl6] at hR6 ⊢
               replace hb := hVW.trans (hR6.bel.mono hVW.size)
               replace hR := hR6
               clear hR6 hg6 hbx hl6 gBlt gBne b0 b1 b2 b3 b4
               refine hK.out _ _ ?_ (fun hHeld => ?_)
               ·
                (try dsimp only)
                exact ⟨(hO5.kept hb).c 2 0, (hO5.kept hb).c 2 1, (hO5.kept hb).c 1 0, (hO5.kept hb).c 1 1, (hO5.kept hb).c 1 2, (hO5.kept hb).c 1 3, (hO5.kept hb).c 1 4⟩
               clear hK K
               try simp only [Act.put, List.getElem_toArray, List.getElem_cons_zero, List.getElem_cons_succ, List.setIfInBounds_toArray, List.set_cons_zero, List.set_cons_succ]
               refine tkY 14 (v := ?v266) rfl (.inl ⟨by rfl, ?hy266⟩) ?hr266
               case hy266 => (intro w hSw; (try dsimp only at hSw); go_simp; try with_reducible rfl)
               simp only [Act.put, List.getElem_toArray, List.getElem_cons_zero, List.getElem_cons_succ, List.setIfInBounds_toArray, List.set_cons_zero, List.set_cons_succ]
               refine wpAnyH_ready (rs := [15]) (by kernel_rfl) (by simp) ?_
               refine AllReadyH.cons rfl (fun K hK => ?_) ?_
               ·
                have x3 := (hO5.kept hb).c 0 4
                have xf := (hO5.kept hb).fr 0
                have hOs := (hO5.kept hb).store 0 rfl 4 (.slice A6 (x.history.length + 1) c6)
                go_simp
                clear x3 xf
                refine hK.out _ _ ?_ (fun hHeld => ?_)
                ·
                 (try dsimp only)
                 exact ⟨hOs.c 2 0, hOs.c 2 1, hOs.c 1 0, hOs.c 1 1, hOs.c 1 2, hOs.c 1 3, hOs.c 1 4⟩
                clear hK K
                try simp only [Act.put, List.getElem_toArray, List.getElem_cons_zero, List.getElem_cons_succ, List.setIfInBounds_toArray, List.set_cons_zero, List.set_cons_succ]
                refine wpAnyH_done (by kernel_rfl) ?_ _
                clear hOs
                have hO6 : OwnB w w6_ [(r1.heap.size, [.string x.name, .string ⟨#[]⟩, .string ⟨#[]⟩, .slice A1 x.waiting.length c1, .slice A2 x.history.length c2]), ((w.heap.size + 1), [.string d.ref.run, .string d.ref.job, .int .u64 d.ver, .int .i64 d.at_, .int .i64 d.st]), (w.heap.size, [.string r.run, .string r.job])] := hO5.kept hb
                clear c0_0 c0_1 c0_2 c0_3 c0_4 cf0 c1_0 c1_1 c1_2 c1_3 c1_4 cf1 c2_0 c2_1 cf2 hO5
                have c0_0 := hO6.c 0 0
                have c0_1 := hO6.c 0 1
                have c0_2 := hO6.c 0 2
                have c0_3 := hO6.c 0 3
                have c0_4 := hO6.c 0 4
                have cf0 := hO6.fr 0
                have c1_0 := hO6.c 1 0
                have c1_1 := hO6.c 1 1
                have c1_2 := hO6.c 1 2
                have c1_3 := hO6.c 1 3
                have c1_4 := hO6.c 1 4
                have cf1 := hO6.fr 1
                have c2_0 := hO6.c 2 0
                have c2_1 := hO6.c 2 1
                have cf2 := hO6.fr 2
                have hR4 := hR
                have hbV := (HB0).trans (hVW.mono HB0.size)
                have hxl := Nat.lt_of_lt_of_le (HX_) hVW.size
                clear hR
                have hld : (x.history ++ [(⟨r, d.ver, d.at_, d.st⟩ : Dep)]).length = x.history.length + 1 := by simp
                (try rw [hld] at hR4)
                replace hld := Lib.hid hld
                have hne : Value.ownBlock (.slice A6 (x.history.length + 1) c6) ≠ some (r1.heap.size) := fun e => by
                 obtain ⟨cs, HH, _⟩ := hR4
                 have := (HH.1.lt _ e).1
                 omega
                have hR5 := (OwnR.up (w1 := vd) hbV hR4).farSet (xb := r1.heap.size) (o := 4) (u := .slice A6 (x.history.length + 1) c6) rDep_ok hne (by omega) (fun x c h => h)
                generalize hx_ : World.setCell _ _ _ = wo7
                rw [hx_] at hR5
                have hO7 : OwnB w wo7 [(r1.heap.size, [.string x.name, .string ⟨#[]⟩, .string ⟨#[]⟩, .slice A1 x.waiting.length c1, .slice A6 (x.history.length + 1) c6]), ((w.heap.size + 1), [.string d.ref.run, .string d.ref.job, .int .u64 d.ver, .int .i64 d.at_, .int .i64 d.st]), (w.heap.size, [.string r.run, .string r.job])] := by rw [← hx_]; exact hO6.store 0 rfl 4 _
                have zwo7 : w6_.heap.size ≤ wo7.heap.size := by rw [← hx_]; simp [World.setCell]
                clear hx_ c0_0 c0_1 c0_2 c0_3 c0_4 cf0 c1_0 c1_1 c1_2 c1_3 c1_4 cf1 c2_0 c2_1 cf2 hO6
                have c0_0 := hO7.c 0 0
                have c0_1 := hO7.c 0 1
                have c0_2 := hO7.c 0 2
                have c0_3 := hO7.c 0 3
                have c0_4 := hO7.c 0 4
                have cf0 := hO7.fr 0
                have c1_0 := hO7.c 1 0
                have c1_1 := hO7.c 1 1
                have c1_2 := hO7.c 1 2
                have c1_3 := hO7.c 1 3
                have c1_4 := hO7.c 1 4
                have cf1 := hO7.fr 1
                have c2_0 := hO7.c 2 0
                have c2_1 := hO7.c 2 1
                have cf2 := hO7.fr 2
                clear hR4
                (try repeat' ((fail_if_success at_builtin); (first | go_skip | go_guarded | go_step)))
                go_meet
                case rel => exact ⟨_, _, _, rfl, hO7, hR5, hne⟩
               exact AllReadyH.nil
              exact AllReadyH.nil
             exact AllReadyH.nil
            refine AllReadyH.cons rfl (fun K hK => ?_) ?_
            ·
             go_simp
             have hba := (Below.refl v1.heap.size v1).alloc (Nat.le_refl _) (.cells #[.string r.run, .string r.job, .int .u64 d.ver, .int .i64 d.at_, .int .i64 d.st] depT)
             have b0 := (CellsAt.new v1 #[.string r.run, .string r.job, .int .u64 d.ver, .int .i64 d.at_, .int .i64 d.st] depT).cell 0 _ rfl
             have b1 := (CellsAt.new v1 #[.string r.run, .string r.job, .int .u64 d.ver, .int .i64 d.at_, .int .i64 d.st] depT).cell 1 _ rfl
             have b2 := (CellsAt.new v1 #[.string r.run, .string r.job, .int .u64 d.ver, .int .i64 d.at_, .int .i64 d.st] depT).cell 2 _ rfl
             have b3 := (CellsAt.new v1 #[.string r.run, .string r.job, .int .u64 d.ver, .int .i64 d.at_, .int .i64 d.st] depT).cell 3 _ rfl
             have b4 := (CellsAt.new v1 #[.string r.run, .string r.job, .int .u64 d.ver, .int .i64 d.at_, .int .i64 d.st] depT).cell 4 _ rfl
             have gBlt : v1.heap.size < (World.alloc v1 (.cells #[.string r.run, .string r.job, .int .u64 d.ver, .int .i64 d.at_, .int .i64 d.st] depT)).heap.size := by simp
             have gBne : some v1.heap.size ≠ Value.ownBlock (.slice (some ⟨vd.heap.size, 0, none⟩) 0 0) := hR.ltB (Nat.le_refl _)
             replace hR := hR.below rDep_ok hba
             replace hb := hb.trans (hba.mono hb.size)
             clear hba
             generalize World.alloc v1 _ = v3 at *
             refine hK.out _ _ ?_ (fun hHeld => ?_)
             ·
              (try dsimp only)
              exact ⟨(hO5.kept hb).c 2 0, (hO5.kept hb).c 2 1, (hO5.kept hb).c 1 0, (hO5.kept hb).c 1 1, (hO5.kept hb).c 1 2, (hO5.kept hb).c 1 3, (hO5.kept hb).c 1 4⟩
             clear hK K
             try simp only [Act.put, List.getElem_toArray, List.getElem_cons_zero, List.getElem_cons_succ, List.setIfInBounds_toArray, List.set_cons_zero, List.set_cons_succ]
             refine wpAnyH_ready (rs := [3]) (by kernel_rfl) (by simp) ?_
             refine AllReadyH.cons rfl (fun K hK => ?_) ?_
             ·
              have hVs : w.heap.size ≤ vd.heap.size := Nat.le_trans hO5.below.size hVW.size
              have hws := ((hS.hist.below rDep_ok (hO5.below.trans (hb.mono hO5.below.size))).more rDep_ok (S' := Beh v3 (.slice (some ⟨vd.heap.size, 0, none⟩) 0 0)) (fun b hb' => beh_old hR (Nat.lt_of_lt_of_le hb' hVs)))
              refine step_appRS rDep_ok rDep_one hR hws Tryd.underlying59 dep_info hby1 ?_
              intro v4 w4_ hR4 hg4
              rw [List.nil_append] at hR4
              obtain ⟨A4, c4, rfl⟩ := hR4.form
              replace b0 := (hg4.cell (p := ⟨v1.heap.size, 0, none⟩) gBlt gBne).trans b0
              replace b1 := (hg4.cell (p := ⟨v1.heap.size, 1, none⟩) gBlt gBne).trans b1
              replace b2 := (hg4.cell (p := ⟨v1.heap.size, 2, none⟩) gBlt gBne).trans b2
              replace b3 := (hg4.cell (p := ⟨v1.heap.size, 3, none⟩) gBlt gBne).trans b3
              replace b4 := (hg4.cell (p := ⟨v1.heap.size, 4, none⟩) gBlt gBne).trans b4
              replace gBne := hg4.ne gBlt gBne
              replace gBlt := Nat.lt_of_lt_of_le gBlt hg4.by_.size
              replace hb := hVW.trans (hR4.bel.mono hVW.size)
              replace hR := hR4
              clear hR4 hg4 hws hVs
              refine hK.out _ _ ?_ (fun hHeld => ?_)
              ·
               (try dsimp only)
               exact ⟨(hO5.kept hb).c 2 0, (hO5.kept hb).c 2 1, (hO5.kept hb).c 1 0, (hO5.kept hb).c 1 1, (hO5.kept hb).c 1 2, (hO5.kept hb).c 1 3, (hO5.kept hb).c 1 4⟩
              clear hK K
              try simp only [Act.put, List.getElem_toArray, List.getElem_cons_zero, List.getElem_cons_succ, List.setIfInBounds_toArray, List.set_cons_zero, List.set_cons_succ]
              refine wpAnyH_ready (rs := [13]) (by kernel_rfl) (by simp) ?_
              refine AllReadyH.cons rfl (fun K hK => ?_) ?_
              ·
               have hbx := box_dep (d := (⟨r, d.ver, d.at_, d.st⟩ : Dep)) (S := Beh w4_ (.slice A4 x.history.length c4)) ⟨gBlt, gBne⟩ b0 b1 b2 b3 b4
               refine step_appRS rDep_ok rDep_one hR hbx Tryd.underlying59 dep_info hby2 ?_
               intro v6 w6_ hR6 hg6
               obtain ⟨A6, c6, rfl⟩ := hR6.form
               have hl6 : (x.history ++ [(⟨r, d.ver, d.at_, d.st⟩ : Dep)]).length = x.history.length + 1 := by simp
               rw [hl6] at hR6 ⊢
               replace hb := hVW.trans (hR6.bel.mono hVW.size)
               replace hR := hR6
               clear hR6 hg6 hbx hl6 gBlt gBne b0 b1 b2 b3 b4
               refine hK.out _ _ ?_ (fun hHeld => ?_)
               ·
                (try dsimp only)
                exact ⟨(hO5.kept hb).c 2 0, (hO5.kept hb).c 2 1, (hO5.kept hb).c 1 0, (hO5.kept hb).c 1 1, (hO5.kept hb).c 1 2, (hO5.kept hb).c 1 3, (hO5.kept hb).c 1 4⟩
               clear hK K
               try simp only [Act.put, List.getElem_toArray, List.getElem_cons_zero, List.getElem_cons_succ, List.setIfInBounds_toArray, List.set_cons_zero, List.set_cons_succ]
               refine tkY 14 (v := ?v267) rfl (.inl ⟨by rfl, ?hy267⟩) ?hr267
               case hy267 => (intro w hSw; (try dsimp only at hSw); go_simp; try with_reducible rfl)
               simp only [Act.put, List.getElem_toArray, List.getElem_cons_zero, List.getElem_cons_succ, List.setIfInBounds_toArray, List.set_cons_zero, List.set_cons_succ]
               refine wpAnyH_ready (rs := [15]) (by kernel_rfl) (by simp) ?_
               refine AllReadyH.cons rfl (fun K hK => ?_) ?_
               ·
                have x3 := (hO5.kept hb).c 0 4
                have xf := (hO5.kept hb).fr 0
                have hOs := (hO5.kept hb).store 0 rfl 4 (.slice A6 (x.history.length + 1) c6)
                go_simp
                clear x3 xf
                refine hK.out _ _ ?_ (fun hHeld => ?_)
                ·
                 (try dsimp only)
                 exact ⟨hOs.c 2 0, hOs.c 2 1, hOs.c 1 0, hOs.c 1 1, hOs.c 1 2, hOs.c 1 3, hOs.c 1 4⟩
                clear hK K
                try simp only [Act.put, List.getElem_toArray, List.getElem_cons_zero, List.getElem_cons_succ, List.setIfInBounds_toArray, List.set_cons_zero, List.set_cons_succ]
                refine wpAnyH_done (by kernel_rfl) ?_ _
                clear hOs
                have hO6 : OwnB w w6_ [(r1.heap.size, [.string x.name, .string ⟨#[]⟩, .string ⟨#[]⟩, .slice A1 x.waiting.length c1, .slice A2 x.history.length c2]), ((w.heap.size + 1), [.string d.ref.run, .string d.ref.job, .int .u64 d.ver, .int .i64 d.at_, .int .i64 d.st]), (w.heap.size, [.string r.run, .string r.job])] := hO5.kept hb
                clear c0_0 c0_1 c0_2 c0_3 c0_4 cf0 c1_0 c1_1 c1_2 c1_3 c1_4 cf1 c2_0 c2_1 cf2 hO5
                have c0_0 := hO6.c 0 0
                have c0_1 := hO6.c 0 1
                have c0_2 := hO6.c 0 2
                have c0_3 := hO6.c 0 3
                have c0_4 := hO6.c 0 4
                have cf0 := hO6.fr 0
                have c1_0 := hO6.c 1 0
                have c1_1 := hO6.c 1 1
                have c1_2 := hO6.c 1 2
                have c1_3 := hO6.c 1 3
                have c1_4 := hO6.c 1 4
                have cf1 := hO6.fr 1
                have c2_0 := hO6.c 2 0
                have c2_1 := hO6.c 2 1
                have cf2 := hO6.fr 2
                have hR4 := hR
                have hbV := (HB0).trans (hVW.mono HB0.size)
                have hxl := Nat.lt_of_lt_of_le (HX_) hVW.size
                clear hR
                have hld : (x.history ++ [(⟨r, d.ver, d.at_, d.st⟩ : Dep)]).length = x.history.length + 1 := by simp
                (try rw [hld] at hR4)
                replace hld := Lib.hid hld
                have hne : Value.ownBlock (.slice A6 (x.history.length + 1) c6) ≠ some (r1.heap.size) := fun e => by
                 obtain ⟨cs, HH, _⟩ := hR4
                 have := (HH.1.lt _ e).1
                 omega
                have hR5 := (OwnR.up (w1 := vd) hbV hR4).farSet (xb := r1.heap.size) (o := 4) (u := .slice A6 (x.history.length + 1) c6) rDep_ok hne (by omega) (fun x c h => h)
                generalize hx_ : World.setCell _ _ _ = wo7
                rw [hx_] at hR5
                have hO7 : OwnB w wo7 [(r1.heap.size, [.string x.name, .string ⟨#[]⟩, .string ⟨#[]⟩, .slice A1 x.waiting.length c1, .slice A6 (x.history.length + 1) c6]), ((w.heap.size + 1), [.string d.ref.run, .string d.ref.job, .int .u64 d.ver, .int .i64 d.at_, .int .i64 d.st]), (w.heap.size, [.string r.run, .string r.job])] := by rw [← hx_]; exact hO6.store 0 rfl 4 _
                have zwo7 : w6_.heap.size ≤ wo7.heap.size := by rw [← hx_]; simp [World.setCell]
                clear hx_ c0_0 c0_1 c0_2 c0_3 c0_4 cf0 c1_0 c1_1 c1_2 c1_3 c1_4 cf1 c2_0 c2_1 cf2 hO6
                have c0_0 := hO7.c 0 0
                have c0_1 := hO7.c 0 1
                have c0_2 := hO7.c 0 2
                have c0_3 := hO7.c 0 3
                have c0_4 := hO7.c 0 4
                have cf0 := hO7.fr 0
                have c1_0 := hO7.c 1 0
                have c1_1 := hO7.c 1 1
                have c1_2 := hO7.c 1 2
                have c1_3 := hO7.c 1 3
                have c1_4 := hO7.c 1 4
                have cf1 := hO7.fr 1
                have c2_0 := hO7.c 2 0
                have c2_1 := hO7.c 2 1
                have cf2 := hO7.fr 2
                clear hR4
                (try repeat' ((fail_if_success at_builtin); (first | go_skip | go_guarded | go_step)))
                go_meet
                case rel => exact ⟨_, _, _, rfl, hO7, hR5, hne⟩
               exact AllReadyH.nil
              exact AllReadyH.nil
             exact AllReadyH.nil
            exact AllReadyH.nil
           refine AllReadyH.cons rfl (fun K hK => ?_) ?_
           ·
            go_simp
            have hba := (Below.refl v1.heap.size v1).alloc (Nat.le_refl _) (.cells #[.string r.run, .string r.job, .int .u64 d.ver, .int .i64 d.at_, .int .i64 d.st] depT)
            have b0 := (CellsAt.new v1 #[.string r.run, .string r.job, .int .u64 d.ver, .int .i64 d.at_, .int .i64 d.st] depT).cell 0 _ rfl
            have b1 := (CellsAt.new v1 #[.string r.run, .string r.job, .int .u64 d.ver, .int .i64 d.at_, .int .i64 d.st] depT).cell 1 _ rfl
            have b2 := (CellsAt.new v1 #[.string r.run, .string r.job, .int .u64 d.ver, .int .i64 d.at_, .int .i64 d.st] depT).cell 2 _ rfl
            have b3 := (CellsAt.new v1 #[.string r.run, .string r.job, .int .u64 d.ver, .int .i64 d.at_, .int .i64 d.st] depT).cell 3 _ rfl
            have b4 := (CellsAt.new v1 #[.string r.run, .string r.job, .int .u64 d.ver, .int .i64 d.at_, .int .i64 d.st] depT).cell 4 _ rfl
            have gBlt : v1.heap.size < (World.alloc v1 (.cells #[.string r.run, .string r.job, .int .u64 d.ver, .int .i64 d.at_, .int .i64 d.st] depT)).heap.size := by simp
            have gBne : some v1.heap.size ≠ Value.ownBlock (.slice (some ⟨vd.heap.size, 0, none⟩) 0 0) := hR.ltB (Nat.le_refl _)
            replace hR := hR.below rDep_ok hba
            replace hb := hb.trans (hba.mono hb.size)
            clear hba
            generalize World.alloc v1 _ = v2 at *
            refine hK.out _ _ ?_ (fun hHeld => ?_)
            ·
             (try dsimp only)
             exact ⟨(hO5.kept hb).c 2 0, (hO5.kept hb).c 2 1, (hO5.kept hb).c 1 0, (hO5.kept hb).c 1 1, (hO5.kept hb).c 1 2, (hO5.kept hb).c 1 3, (hO5.kept hb).c 1 4⟩
            clear hK K
            try simp only [Act.put, List.getElem_toArray, List.getElem_cons_zero, List.getElem_cons_succ, List.setIfInBounds_toArray, List.set_cons_zero, List.set_cons_succ]
            refine wpAnyH_ready (rs := [2]) (by kernel_rfl) (by simp) ?_
            refine AllReadyH.cons rfl (fun K hK => ?_) ?_
            ·
             have x3 := (hO5.kept hb).c 0 4
             go_simp
             clear x3
             refine hK.out _ _ ?_ (fun hHeld => ?_)
             ·
              (try dsimp only)
              exact ⟨(hO5.kept hb).c 2 0, (hO5.kept hb).c 2 1, (hO5.kept hb).c 1 0, (hO5.kept hb).c 1 1, (hO5.kept hb).c 1 2, (hO5.kept hb).c 1 3, (hO5.kept hb).c 1 4⟩
             clear hK K
             try simp only [Act.put, List.getElem_toArray, List.getElem_cons_zero, List.getElem_cons_succ, List.setIfInBounds_toArray, List.set_cons_zero, List.set_cons_succ]
             refine wpAnyH_ready (rs := [3]) (by kernel_rfl) (by simp) ?_
             refine AllReadyH.cons rfl (fun K hK => ?_) ?_
             ·
              have hVs : w.heap.size ≤ vd.heap.size := Nat.le_trans hO5.below.size hVW.size
              have hws := ((hS.hist.below rDep_ok (hO5.below.trans (hb.mono hO5.below.size))).more rDep_ok (S' := Beh v2 (.slice (some ⟨vd.heap.size, 0, none⟩) 0 0)) (fun b hb' => beh_old hR (Nat.lt_of_lt_of_le hb' hVs)))
              refine step_appRS rDep_ok rDep_one hR hws Tryd.underlying59 dep_info hby1 ?_
              intro v4 w4_ hR4 hg4
              rw [List.nil_append] at hR4
              obtain ⟨A4, c4, rfl⟩ := hR4.form
              replace b0 := (hg4.cell (p := ⟨v1.heap.size, 0, none⟩) gBlt gBne).trans b0
              replace b1 := (hg4.cell (p := ⟨v1.heap.size, 1, none⟩) gBlt gBne).trans b1
              replace b2 := (hg4.cell (p := ⟨v1.heap.size, 2, none⟩) gBlt gBne).trans b2
              replace b3 := (hg4.cell (p := ⟨v1.heap.size, 3, none⟩) gBlt gBne).trans b3
              replace b4 := (hg4.cell (p := ⟨v1.heap.size, 4, none⟩) gBlt gBne).trans b4
              replace gBne := hg4.ne gBlt gBne
              replace gBlt := Nat.lt_of_lt_of_le gBlt hg4.by_.size
              replace hb := hVW.trans (hR4.bel.mono hVW.size)
              replace hR := hR4
              clear hR4 hg4 hws hVs
              refine hK.out _ _ ?_ (fun hHeld => ?_)
              ·
               (try dsimp only)
               exact ⟨(hO5.kept hb).c 2 0, (hO5.kept hb).c 2 1, (hO5.kept hb).c 1 0, (hO5.kept hb).c 1 1, (hO5.kept hb).c 1 2, (hO5.kept hb).c 1 3, (hO5.kept hb).c 1 4⟩
              clear hK K
              try simp only [Act.put, List.getElem_toArray, List.getElem_cons_zero, List.getElem_cons_succ, List.setIfInBounds_toArray, List.set_cons_zero, List.set_cons_succ]
              refine wpAnyH_ready (rs := [13]) (by kernel_rfl) (by simp) ?_
              refine AllReadyH.cons rfl (fun K hK => ?_) ?_
              ·
               have hbx := box_dep (d := (⟨r, d.ver, d.at_, d.st⟩ : Dep)) (S := Beh w4_ (.slice A4 x.history.length c4)) ⟨gBlt, gBne⟩ b0 b1 b2 b3 b4
               refine step_appRS rDep_ok rDep_one hR hbx Tryd.underlying59 dep_info hby2 ?_
               intro v6 w6_ hR6 hg6
               obtain ⟨A6, c6, rfl⟩ := hR6.form
               have hl6 : (x.history ++ [(⟨r, d.ver, d.at_, d.st⟩ : Dep)]).length = x.history.length + 1 := by simp
               rw [hl6] at hR6 ⊢
               replace hb := hVW.trans (hR6.bel.mono hVW.size)
               replace hR := hR6
               clear hR6 hg6 hbx hl6 gBlt gBne b0 b1 b2 b3 b4
               refine hK.out _ _ ?_ (fun hHeld => ?_)
               ·
                (try dsimp only)
                exact ⟨(hO5.kept hb).c 2 0, (hO5.kept hb).c 2 1, (hO5.kept hb).c 1 0, (hO5.kept hb).c 1 1, (hO5.kept hb).c 1 2, (hO5.kept hb).c 1 3, (hO5.kept hb).c 1 4⟩
               clear hK K
               try simp only [Act.put, List.getElem_toArray, List.getElem_cons_zero, List.getElem_cons_succ, List.setIfInBounds_toArray, List.set_cons_zero, List.set_cons_succ]
               refine tkY 14 (v := ?v268) rfl (.inl ⟨by rfl, ?hy268⟩) ?hr268
               case hy268 => (intro w hSw; (try dsimp only at hSw); go_simp; try with_reducible rfl)
               simp only [Act.put, List.getElem_toArray, List.getElem_cons_zero, List.getElem_cons_succ, List.setIfInBounds_toArray, List.set_cons_zero, List.set_cons_succ]
               refine wpAnyH_ready (rs := [15]) (by kernel_rfl) (by simp) ?_
               refine AllReadyH.cons rfl (fun K hK => ?_) ?_
               ·
                have x3 := (hO5.kept hb).c 0 4
                have xf := (hO5.kept hb).fr 0
                have hOs := (hO5.kept hb).store 0 rfl 4 (.slice A6 (x.history.length + 1) c6)
                go_simp
                clear x3 xf
                refine hK.out _ _ ?_ (fun hHeld => ?_)
                ·
                 (try dsimp only)
                 exact ⟨hOs.c 2 0, hOs.c 2 1, hOs.c 1 0, hOs.c 1 1, hOs.c 1 2, hOs.c 1 3, hOs.c 1 4⟩
                clear hK K
                try simp only [Act.put, List.getElem_toArray, List.getElem_cons_zero, List.getElem_cons_succ, List.setIfInBounds_toArray, List.set_cons_zero, List.set_cons_succ]
                refine wpAnyH_done (by kernel_rfl) ?_ _
                clear hOs
                have hO6 : OwnB w w6_ [(r1.heap.size, [.string x.name, .string ⟨#[]⟩, .string ⟨#[]⟩, .slice A1 x.waiting.length c1, .slice A2 x.history.length c2]), ((w.heap.size + 1), [.string d.ref.run, .string d.ref.job, .int .u64 d.ver, .int .i64 d.at_, .int .i64 d.st]), (w.heap.size, [.string r.run, .string r.job])] := hO5.kept hb
                clear c0_0 c0_1 c0_2 c0_3 c0_4 cf0 c1_0 c1_1 c1_2 c1_3 c1_4 cf1 c2_0 c2_1 cf2 hO5
                have c0_0 := hO6.c 0 0
                have c0_1 := hO6.c 0 1
                have c0_2 := hO6.c 0 2
                have c0_3 := hO6.c 0 3
                have c0_4 := hO6.c 0 4
                have cf0 := hO6.fr 0
                have c1_0 := hO6.c 1 0
                have c1_1 := hO6.c 1 1
                have c1_2 := hO6.c 1 2
                have c1_3 := hO6.c 1 3
                have c1_4 := hO6.c 1 4
                have cf1 := hO6.fr 1
                have c2_0 := hO6.c 2 0
                have c2_1 := hO6.c 2 1
                have cf2 := hO6.fr 2
                have hR4 := hR
                have hbV := (HB0).trans (hVW.mono HB0.size)
                have hxl := Nat.lt_of_lt_of_le (HX_) hVW.size
                clear hR
                have hld : (x.history ++ [(⟨r, d.ver, d.at_, d.st⟩ : Dep)]).length = x.history.length + 1 := by simp
                (try rw [hld] at hR4)
                replace hld := Lib.hid hld
                have hne : Value.ownBlock (.slice A6 (x.history.length + 1) c6) ≠ some (r1.heap.size) := fun e => by
                 obtain ⟨cs, HH, _⟩ := hR4
                 have := (HH.1.lt _ e).1
                 omega
                have hR5 := (OwnR.up (w1 := vd) hbV hR4).farSet (xb := r1.heap.size) (o := 4) (u := .slice A6 (x.history.length + 1) c6) rDep_ok hne (by omega) (fun x c h => h)
                generalize hx_ : World.setCell _ _ _ = wo7
                rw [hx_] at hR5
                have hO7 : OwnB w wo7 [(r1.heap.size, [.string x.name, .string ⟨#[]⟩, .string ⟨#[]⟩, .slice A1 x.waiting.length c1, .slice A6 (x.history.length + 1) c6]), ((w.heap.size + 1), [.string d.ref.run, .string d.ref.job, .int .u64 d.ver, .int .i64 d.at_, .int .i64 d.st]), (w.heap.size, [.string r.run, .string r.job])] := by rw [← hx_]; exact hO6.store 0 rfl 4 _
                have zwo7 : w6_.heap.size ≤ wo7.heap.size := by rw [← hx_]; simp [World.setCell]
                clear hx_ c0_0 c0_1 c0_2 c0_3 c0_4 cf0 c1_0 c1_1 c1_2 c1_3 c1_4 cf1 c2_0 c2_1 cf2 hO6
                have c0_0 := hO7.c 0 0
                have c0_1 := hO7.c 0 1
                have c0_2 := hO7.c 0 2
                have c0_3 := hO7.c 0 3
                have c0_4 := hO7.c 0 4
                have cf0 := hO7.fr 0
                have c1_0 := hO7.c 1 0
                have c1_1 := hO7.c 1 1
                have c1_2 := hO7.c 1 2
                have c1_3 := hO7.c 1 3
                have c1_4 := hO7.c 1 4
                have cf1 := hO7.fr 1
                have c2_0 := hO7.c 2 0
                have c2_1 := hO7.c 2 1
                have cf2 := hO7.fr 2
                clear hR4
                (try repeat' ((fail_if_success at_builtin); (first | go_skip | go_guarded | go_step)))
                go_meet
                case rel => exact ⟨_, _, _, rfl, hO7, hR5, hne⟩
               exact AllReadyH.nil
              exact AllReadyH.nil
             exact AllReadyH.nil
            exact AllReadyH.nil
           exact AllReadyH.nil
          refine AllReadyH.cons rfl (fun K hK => ?_) ?_
          ·
           have x3 := (hO5.kept hb).c 0 4
           go_simp
           clear x3
           refine hK.out _ _ ?_ (fun hHeld => ?_)
           ·
            (try dsimp only)
            exact ⟨(hO5.kept hb).c 2 0, (hO5.kept hb).c 2 1, (hO5.kept hb).c 1 0, (hO5.kept hb).c 1 1, (hO5.kept hb).c 1 2, (hO5.kept hb).c 1 3, (hO5.kept hb).c 1 4⟩
           clear hK K
           try simp only [Act.put, List.getElem_toArray, List.getElem_cons_zero, List.getElem_cons_succ, List.setIfInBounds_toArray, List.set_cons_zero, List.set_cons_succ]
           refine wpAnyH_ready (rs := [0, 12]) (by kernel_rfl) (by simp) ?_
           refine AllReadyH.cons rfl (fun K hK => ?_) ?_
           ·
            go_simp
            have hba := (Below.refl vd.heap.size vd).alloc (Nat.le_refl _) (.cells #[] depT)
            have hR := OwnR.empty (r := rDep) (sz := 5) vd depT
            have hVW := hb
            replace hb := hb.trans (hba.mono hb.size)
            clear hba
            generalize World.alloc vd _ = v2 at *
            refine hK.out _ _ ?_ (fun hHeld => ?_)
            ·
             (try dsimp only)
             exact ⟨(hO5.kept hb).c 2 0, (hO5.kept hb).c 2 1, (hO5.kept hb).c 1 0, (hO5.kept hb).c 1 1, (hO5.kept hb).c 1 2, (hO5.kept hb).c 1 3, (hO5.kept hb).c 1 4⟩
            clear hK K
            try simp only [Act.put, List.getElem_toArray, List.getElem_cons_zero, List.getElem_cons_succ, List.setIfInBounds_toArray, List.set_cons_zero, List.set_cons_succ]
            refine wpAnyH_ready (rs := [3, 12]) (by kernel_rfl) (by simp) ?_
            refine AllReadyH.cons rfl (fun K hK => ?_) ?_
            ·
             have hVs : w.heap.size ≤ vd.heap.size := Nat.le_trans hO5.below.size hVW.size
             have hws := ((hS.hist.below rDep_ok (hO5.below.trans (hb.mono hO5.below.size))).more rDep_ok (S' := Beh v2 (.slice (some ⟨vd.heap.size, 0, none⟩) 0 0)) (fun b hb' => beh_old hR (Nat.lt_of_lt_of_le hb' hVs)))
             refine step_appRS rDep_ok rDep_one hR hws Tryd.underlying59 dep_info hby1 ?_
             intro v4 w4_ hR4 hg4
             rw [List.nil_append] at hR4
             obtain ⟨A4, c4, rfl⟩ := hR4.form
             replace hb := hVW.trans (hR4.bel.mono hVW.size)
             replace hR := hR4
             clear hR4 hg4 hws hVs
             refine hK.out _ _ ?_ (fun hHeld => ?_)
             ·
              (try dsimp only)
              exact ⟨(hO5.kept hb).c 2 0, (hO5.kept hb).c 2 1, (hO5.kept hb).c 1 0, (hO5.kept hb).c 1 1, (hO5.kept hb).c 1 2, (hO5.kept hb).c 1 3, (hO5.kept hb).c 1 4⟩
             clear hK K
             try simp only [Act.put, List.getElem_toArray, List.getElem_cons_zero, List.getElem_cons_succ, List.setIfInBounds_toArray, List.set_cons_zero, List.set_cons_succ]
             refine wpAnyH_ready (rs := [12]) (by kernel_rfl) (by simp) ?_
             refine AllReadyH.cons rfl (fun K hK => ?_) ?_
             ·
              go_simp
              have hba := (Below.refl w4_.heap.size w4_).alloc (Nat.le_refl _) (.cells #[.string r.run, .string r.job, .int .u64 d.ver, .int .i64 d.at_, .int .i64 d.st] depT)
              have b0 := (CellsAt.new w4_ #[.string r.run, .string r.job, .int .u64 d.ver, .int .i64 d.at_, .int .i64 d.st] depT).cell 0 _ rfl
              have b1 := (CellsAt.new w4_ #[.string r.run, .string r.job, .int .u64 d.ver, .int .i64 d.at_, .int .i64 d.st] depT).cell 1 _ rfl
              have b2 := (CellsAt.new w4_ #[.string r.run, .string r.job, .int .u64 d.ver, .int .i64 d.at_, .int .i64 d.st] depT).cell 2 _ rfl
              have b3 := (CellsAt.new w4_ #[.string r.run, .string r.job, .int .u64 d.ver, .int .i64 d.at_, .int .i64 d.st] depT).cell 3 _ rfl
              have b4 := (CellsAt.new w4_ #[.string r.run, .string r.job, .int .u64 d.ver, .int .i64 d.at_, .int .i64 d.st] depT).cell 4 _ rfl
              have gBlt : w4_.heap.size < (World.alloc w4_ (.cells #[.string r.run, .string r.job, .int .u64 d.ver, .int .i64 d.at_, .int .i64 d.st] depT)).heap.size := by simp
              have gBne : some w4_.heap.size ≠ Value.ownBlock (.slice A4 x.history.length c4) := hR.ltB (Nat.le_refl _)
              replace hR := hR.below rDep_ok hba
              replace hb := hb.trans (hba.mono hb.size)
              clear hba
              generalize World.alloc w4_ _ = v4 at *
              refine hK.out _ _ ?_ (fun hHeld => ?_)
              ·
               (try dsimp only)
               exact ⟨(hO5.kept hb).c 2 0, (hO5.kept hb).c 2 1, (hO5.kept hb).c 1 0, (hO5.kept hb).c 1 1, (hO5.kept hb).c 1 2, (hO5.kept hb).c 1 3, (hO5.kept hb).c 1 4⟩
              clear hK K
              try simp only [Act.put, List.getElem_toArray, List.getElem_cons_zero, List.getElem_cons_succ, List.setIfInBounds_toArray, List.set_cons_zero, List.set_cons_succ]
              refine wpAnyH_ready (rs := [13]) (by kernel_rfl) (by simp) ?_
              refine AllReadyH.cons rfl (fun K hK => ?_) ?_
              ·
               have hbx := box_dep (d := (⟨r, d.ver, d.at_, d.st⟩ : Dep)) (S := Beh v4 (.slice A4 x.history.length c4)) ⟨gBlt, gBne⟩ b0 b1 b2 b3 b4
               refine step_appRS rDep_ok rDep_one hR hbx Tryd.underlying59 dep_info hby2 ?_
               intro v6 w6_ hR6 hg6
               obtain ⟨A6, c6, rfl⟩ := hR6.form
               have hl6 : (x.history ++ [(⟨r, d.ver, d.at_, d.st⟩ : Dep)]).length = x.history.length + 1 := by simp
               rw [hl6] at hR6 ⊢
               replace hb := hVW.trans (hR6.bel.mono hVW.size)
               replace hR := hR6
               clear hR6 hg6 hbx hl6 gBlt gBne b0 b1 b2 b3 b4
               refine hK.out _ _ ?_ (fun hHeld => ?_)
               ·
                (try dsimp only)
                exact ⟨(hO5.kept hb).c 2 0, (hO5.kept hb).c 2 1, (hO5.kept hb).c 1 0, (hO5.kept hb).c 1 1, (hO5.kept hb).c 1 2, (hO5.kept hb).c 1 3, (hO5.kept hb).c 1 4⟩
               clear hK K
               try simp only [Act.put, List.getElem_toArray, List.getElem_cons_zero, List.getElem_cons_succ, List.setIfInBounds_toArray, List.set_cons_zero, List.set_cons_succ]
               refine tkY 14 (v := ?v269) rfl (.inl ⟨by rfl, ?hy269⟩) ?hr269
               case hy269 => (intro w hSw; (try dsimp only at hSw); go_simp; try with_reducible rfl)
               simp only [Act.put, List.getElem_toArray, List.getElem_cons_zero, List.getElem_cons_succ, List.setIfInBounds_toArray, List.set_cons_zero, List.set_cons_succ]
               refine wpAnyH_ready (rs := [15]) (by kernel_rfl) (by simp) ?_
               refine AllReadyH.cons rfl (fun K hK => ?_) ?_
               ·
                have x3 := (hO5.kept hb).c 0 4
                have xf := (hO5.kept hb).fr 0
                have hOs := (hO5.kept hb).store 0 rfl 4 (.slice A6 (x.history.length + 1) c6)
                go_simp
                clear x3 xf
                refine hK.out _ _ ?_ (fun hHeld => ?_)
                ·
                 (try dsimp only)
                 exact ⟨hOs.c 2 0, hOs.c 2 1, hOs.c 1 0, hOs.c 1 1, hOs.c 1 2, hOs.c 1 3, hOs.c 1 4⟩
                clear hK K
                try simp only [Act.put, List.getElem_toArray, List.getElem_cons_zero, List.getElem_cons_succ, List.setIfInBounds_toArray, List.set_cons_zero, List.set_cons_succ]
                refine wpAnyH_done (by kernel_rfl) ?_ _
                clear hOs
                have hO6 : OwnB w w6_ [(r1.heap.size, [.string x.name, .string ⟨#[]⟩, .string ⟨#[]⟩, .slice A1 x.waiting.length c1, .slice A2 x.history.length c2]), ((w.heap.size + 1), [.string d.ref.run, .string d.ref.job, .int .u64 d.ver, .int .i64 d.at_, .int .i64 d.st]), (w.heap.size, [.string r.run, .string r.job])] := hO5.kept hb
                clear c0_0 c0_1 c0_2 c0_3 c0_4 cf0 c1_0 c1_1 c1_2 c1_3 c1_4 cf1 c2_0 c2_1 cf2 hO5
                have c0_0 := hO6.c 0 0
                have c0_1 := hO6.c 0 1
                have c0_2 := hO6.c 0 2
                have c0_3 := hO6.c 0 3
                have c0_4 := hO6.c 0 4
                have cf0 := hO6.fr 0
                have c1_0 := hO6.c 1 0
                have c1_1 := hO6.c 1 1
                have c1_2 := hO6.c 1 2
                have c1_3 := hO6.c 1 3
                have c1_4 := hO6.c 1 4
                have cf1 := hO6.fr 1
                have c2_0 := hO6.c 2 0
                have c2_1 := hO6.c 2 1
                have cf2 := hO6.fr 2
                have hR4 := hR
                have hbV := (HB0).trans (hVW.mono HB0.size)
                have hxl := Nat.lt_of_lt_of_le (HX_) hVW.size
                clear hR
                have hld : (x.history ++ [(⟨r, d.ver, d.at_, d.st⟩ : Dep)]).length = x.history.length + 1 := by simp
                (try rw [hld] at hR4)
                replace hld := Lib.hid hld
                have hne : Value.ownBlock (.slice A6 (x.history.length + 1) c6) ≠ some (r1.heap.size) := fun e => by
                 obtain ⟨cs, HH, _⟩ := hR4
                 have := (HH.1.lt _ e).1
                 omega
                have hR5 := (OwnR.up (w1 := vd) hbV hR4).farSet (xb := r1.heap.size) (o := 4) (u := .slice A6 (x.history.length + 1) c6) rDep_ok hne (by omega) (fun x c h => h)
                generalize hx_ : World.setCell _ _ _ = wo7
                rw [hx_] at hR5
                have hO7 : OwnB w wo7 [(r1.heap.size, [.string x.name, .string ⟨#[]⟩, .string ⟨#[]⟩, .slice A1 x.waiting.length c1, .slice A6 (x.history.length + 1) c6]), ((w.heap.size + 1), [.string d.ref.run, .string d.ref.job, .int .u64 d.ver, .int .i64 d.at_, .int .i64 d.st]), (w.heap.size, [.string r.run, .string r.job])] := by rw [← hx_]; exact hO6.store 0 rfl 4 _
                have zwo7 : w6_.heap.size ≤ wo7.heap.size := by rw [← hx_]; simp [World.setCell]
                clear hx_ c0_0 c0_1 c0_2 c0_3 c0_4 cf0 c1_0 c1_1 c1_2 c1_3 c1_4 cf1 c2_0 c2_1 cf2 hO6
                have c0_0 := hO7.c 0 0
                have c0_1 := hO7.c 0 1
                have c0_2 := hO7.c 0 2
                have c0_3 := hO7.c 0 3
                have c0_4 := hO7.c 0 4
                have cf0 := hO7.fr 0
                have c1_0 := hO7.c 1 0
                have c1_1 := hO7.c 1 1
                have c1_2 := hO7.c 1 2
                have c1_3 := hO7.c 1 3
                have c1_4 := hO7.c 1 4
                have cf1 := hO7.fr 1
                have c2_0 := hO7.c 2 0
                have c2_1 := hO7.c 2 1
                have cf2 := hO7.fr 2
                clear hR4
                (try repeat' ((fail_if_success at_builtin); (first | go_skip | go_guarded | go_step)))
                go_meet
                case rel => exact ⟨_, _, _, rfl, hO7, hR5, hne⟩
               exact AllReadyH.nil
              exact AllReadyH.nil
             exact AllReadyH.nil
            refine AllReadyH.cons rfl (fun K hK => ?_) ?_
            ·
             go_simp
             have hba := (Below.refl v2.heap.size v2).alloc (Nat.le_refl _) (.cells #[.string r.run, .string r.job, .int .u64 d.ver, .int .i64 d.at_, .int .i64 d.st] depT)
             have b0 := (CellsAt.new v2 #[.string r.run, .string r.job, .int .u64 d.ver, .int .i64 d.at_, .int .i64 d.st] depT).cell 0 _ rfl
             have b1 := (CellsAt.new v2 #[.string r.run, .string r.job, .int .u64 d.ver, .int .i64 d.at_, .int .i64 d.st] depT).cell 1 _ rfl
             have b2 := (CellsAt.new v2 #[.string r.run, .string r.job, .int .u64 d.ver, .int .i64 d.at_, .int .i64 d.st] depT).cell 2 _ rfl
             have b3 := (CellsAt.new v2 #[.string r.run, .string r.job, .int .u64 d.ver, .int .i64 d.at_, .int .i64 d.st] depT).cell 3 _ rfl
             have b4 := (CellsAt.new v2 #[.string r.run, .string r.job, .int .u64 d.ver, .int .i64 d.at_, .int .i64 d.st] depT).cell 4 _ rfl
             have gBlt : v2.heap.size < (World.alloc v2 (.cells #[.string r.run, .string r.job, .int .u64 d.ver, .int .i64 d.at_, .int .i64 d.st] depT)).heap.size := by simp
             have gBne : some v2.heap.size ≠ Value.ownBlock (.slice (some ⟨vd.heap.size, 0, none⟩) 0 0) := hR.ltB (Nat.le_refl _)
             replace hR := hR.below rDep_ok hba
             replace hb := hb.trans (hba.mono hb.size)
             clear hba
             generalize World.alloc v2 _ = v3 at *
             refine hK.out _ _ ?_ (fun hHeld => ?_)
             ·
              (try dsimp only)
              exact ⟨(hO5.kept hb).c 2 0, (hO5.kept hb).c 2 1, (hO5.kept hb).c 1 0, (hO5.kept hb).c 1 1, (hO5.kept hb).c 1 2, (hO5.kept hb).c 1 3, (hO5.kept hb).c 1 4⟩
             clear hK K
             try simp only [Act.put, List.getElem_toArray, List.getElem_cons_zero, List.getElem_cons_succ, List.setIfInBounds_toArray, List.set_cons_zero, List.set_cons_succ]
             refine wpAnyH_ready (rs := [3]) (by kernel_rfl) (by simp) ?_
             refine AllReadyH.cons rfl (fun K hK => ?_) ?_
             ·
              have hVs : w.heap.size ≤ vd.heap.size := Nat.le_trans hO5.below.size hVW.size
              have hws := ((hS.hist.below rDep_ok (hO5.below.trans (hb.mono hO5.below.size))).more rDep_ok (S' := Beh v3 (.slice (some ⟨vd.heap.size, 0, none⟩) 0 0)) (fun b hb' => beh_old hR (Nat.lt_of_lt_of_le hb' hVs)))
              refine step_appRS rDep_ok rDep_one hR hws Tryd.underlying59 dep_info hby1 ?_
              intro v4 w4_ hR4 hg4
              rw [List.nil_append] at hR4
              obtain ⟨A4, c4, rfl⟩ := hR4.form
              replace b0 := (hg4.cell (p := ⟨v2.heap.size, 0, none⟩) gBlt gBne).trans b0
              replace b1 := (hg4.cell (p := ⟨v2.heap.size, 1, none⟩) gBlt gBne).trans b1
              replace b2 := (hg4.cell (p := ⟨v2.heap.size, 2, none⟩) gBlt gBne).trans b2
              replace b3 := (hg4.cell (p := ⟨v2.heap.size, 3, none⟩) gBlt gBne).trans b3
              replace b4 := (hg4.cell (p := ⟨v2.heap.size, 4, none⟩) gBlt gBne).trans b4
              replace gBne := hg4.ne gBlt gBne
              replace gBlt := Nat.lt_of_lt_of_le gBlt hg4.by_.size
              replace hb := hVW.trans (hR4.bel.mono hVW.size)
              replace hR := hR4
              clear hR4 hg4 hws hVs
              refine hK.out _ _ ?_ (fun hHeld => ?_)
              ·
               (try dsimp only)
               exact ⟨(hO5.kept hb).c 2 0, (hO5.kept hb).c 2 1, (hO5.kept hb).c 1 0, (hO5.kept hb).c 1 1, (hO5.kept hb).c 1 2, (hO5.kept hb).c 1 3, (hO5.kept hb).c 1 4⟩
              clear hK K
              try simp only [Act.put, List.getElem_toArray, List.getElem_cons_zero, List.getElem_cons_succ, List.setIfInBounds_toArray, List.set_cons_zero, List.set_cons_succ]
              refine wpAnyH_ready (rs := [13]) (by kernel_rfl) (by simp) ?_
              refine AllReadyH.cons rfl (fun K hK => ?_) ?_
              ·
               have hbx := box_dep (d := (⟨r, d.ver, d.at_, d.st⟩ : Dep)) (S := Beh w4_ (.slice A4 x.history.length c4)) ⟨gBlt, gBne⟩ b0 b1 b2 b3 b4
               refine step_appRS rDep_ok rDep_one hR hbx Tryd.underlying59 dep_info hby2 ?_
               intro v6 w6_ hR6 hg6
               obtain ⟨A6, c6, rfl⟩ := hR6.form
               have hl6 : (x.history ++ [(⟨r, d.ver, d.at_, d.st⟩ : Dep)]).length = x.history.length + 1 := by simp
               rw [hl6] at hR6 ⊢
               replace hb := hVW.trans (hR6.bel.mono hVW.size)
               replace hR := hR6
               clear hR6 hg6 hbx hl6 gBlt gBne b0 b1 b2 b3 b4
               refine hK.out _ _ ?_ (fun hHeld => ?_)
               ·
                (try dsimp only)
                exact ⟨(hO5.kept hb).c 2 0, (hO5.kept hb).c 2 1, (hO5.kept hb).c 1 0, (hO5.kept hb).c 1 1, (hO5.kept hb).c 1 2, (hO5.kept hb).c 1 3, (hO5.kept hb).c 1 4⟩
               clear hK K
               try simp only [Act.put, List.getElem_toArray, List.getElem_cons_zero, List.getElem_cons_succ, List.setIfInBounds_toArray, List.set_cons_zero, List.set_cons_succ]
               refine tkY 14 (v := ?v270) rfl (.inl ⟨by rfl, ?hy270⟩) ?hr270
               case hy270 => (intro w hSw; (try dsimp only at hSw); go_simp; try with_reducible rfl)
               simp only [Act.put, List.getElem_toArray, List.getElem_cons_zero, List.getElem_cons_succ, List.setIfInBounds_toArray, List.set_cons_zero, List.set_cons_succ]
               refine wpAnyH_ready (rs := [15]) (by kernel_rfl) (by simp) ?_
               refine AllReadyH.cons rfl (fun K hK => ?_) ?_
               ·
                have x3 := (hO5.kept hb).c 0 4
                have xf := (hO5.kept hb).fr 0
                have hOs := (hO5.kept hb).store 0 rfl 4 (.slice A6 (x.history.length + 1) c6)
                go_simp
                clear x3 xf
                refine hK.out _ _ ?_ (fun hHeld => ?_)
                ·
                 (try dsimp only)
                 exact ⟨hOs.c 2 0, hOs.c 2 1, hOs.c 1 0, hOs.c 1 1, hOs.c 1 2, hOs.c 1 3, hOs.c 1 4⟩
                clear hK K
                try simp only [Act.put, List.getElem_toArray, List.getElem_cons_zero, List.getElem_cons_succ, List.setIfInBounds_toArray, List.set_cons_zero, List.set_cons_succ]
                refine wpAnyH_done (by kernel_rfl) ?_ _
                clear hOs
                have hO6 : OwnB w w6_ [(r1.heap.size, [.string x.name, .string ⟨#[]⟩, .string ⟨#[]⟩, .slice A1 x.waiting.length c1, .slice A2 x.history.length c2]), ((w.heap.size + 1), [.string d.ref.run, .string d.ref.job, .int .u64 d.ver, .int .i64 d.at_, .int .i64 d.st]), (w.heap.size, [.string r.run, .string r.job])] := hO5.kept hb
                clear c0_0 c0_1 c0_2 c0_3 c0_4 cf0 c1_0 c1_1 c1_2 c1_3 c1_4 cf1 c2_0 c2_1 cf2 hO5
                have c0_0 := hO6.c 0 0
                have c0_1 := hO6.c 0 1
                have c0_2 := hO6.c 0 2
                have c0_3 := hO6.c 0 3
                have c0_4 := hO6.c 0 4
                have cf0 := hO6.fr 0
                have c1_0 := hO6.c 1 0
                have c1_1 := hO6.c 1 1
                have c1_2 := hO6.c 1 2
                have c1_3 := hO6.c 1 3
                have c1_4 := hO6.c 1 4
                have cf1 := hO6.fr 1
                have c2_0 := hO6.c 2 0
                have c2_1 := hO6.c 2 1
                have cf2 := hO6.fr 2
                have hR4 := hR
                have hbV := (HB0).trans (hVW.mono HB0.size)
                have hxl := Nat.lt_of_lt_of_le (HX_) hVW.size
                clear hR
                have hld : (x.history ++ [(⟨r, d.ver, d.at_, d.st⟩ : Dep)]).length = x.history.length + 1 := by simp
                (try rw [hld] at hR4)
                replace hld := Lib.hid hld
                have hne : Value.ownBlock (.slice A6 (x.history.length + 1) c6) ≠ some (r1.heap.size) := fun e => by
                 obtain ⟨cs, HH, _⟩ := hR4
                 have := (HH.1.lt _ e).1
                 omega
                have hR5 := (OwnR.up (w1 := vd) hbV hR4).farSet (xb := r1.heap.size) (o := 4) (u := .slice A6 (x.history.length + 1) c6) rDep_ok hne (by omega) (fun x c h => h)
                generalize hx_ : World.setCell _ _ _ = wo7
                rw [hx_] at hR5
                have hO7 : OwnB w wo7 [(r1.heap.size, [.string x.name, .string ⟨#[]⟩, .string ⟨#[]⟩, .slice A1 x.waiting.length c1, .slice A6 (x.history.length + 1) c6]), ((w.heap.size + 1), [.string d.ref.run, .string d.ref.job, .int .u64 d.ver, .int .i64 d.at_, .int .i64 d.st]), (w.heap.size, [.string r.run, .string r.job])] := by rw [← hx_]; exact hO6.store 0 rfl 4 _
                have zwo7 : w6_.heap.size ≤ wo7.heap.size := by rw [← hx_]; simp [World.setCell]
                clear hx_ c0_0 c0_1 c0_2 c0_3 c0_4 cf0 c1_0 c1_1 c1_2 c1_3 c1_4 cf1 c2_0 c2_1 cf2 hO6
                have c0_0 := hO7.c 0 0
                have c0_1 := hO7.c 0 1
                have c0_2 := hO7.c 0 2
                have c0_3 := hO7.c 0 3
                have c0_4 := hO7.c 0 4
                have cf0 := hO7.fr 0
                have c1_0 := hO7.c 1 0
                have c1_1 := hO7.c 1 1
                have c1_2 := hO7.c 1 2
                have c1_3 := hO7.c 1 3
                have c1_4 := hO7.c 1 4
                have cf1 := hO7.fr 1
                have c2_0 := hO7.c 2 0
                have c2_1 := hO7.c 2 1
                have cf2 := hO7.fr 2
                clear hR4
                (try repeat' ((fail_if_success at_builtin); (first | go_skip | go_guarded | go_step)))
                go_meet
                case rel => exact ⟨_, _, _, rfl, hO7, hR5, hne⟩
               exact AllReadyH.nil
              exact AllReadyH.nil
             exact AllReadyH.nil
            exact AllReadyH.nil
           refine AllReadyH.cons rfl (fun K hK => ?_) ?_
           ·
            go_simp
            have hba := (Below.refl vd.heap.size vd).alloc (Nat.le_refl _) (.cells #[.string r.run, .string r.job, .int .u64 d.ver, .int .i64 d.at_, .int .i64 d.st] depT)
            have b0 := (CellsAt.new vd #[.string r.run, .string r.job, .int .u64 d.ver, .int .i64 d.at_, .int .i64 d.st] depT).cell 0 _ rfl
            have b1 := (CellsAt.new vd #[.string r.run, .string r.job, .int .u64 d.ver, .int .i64 d.at_, .int .i64 d.st] depT).cell 1 _ rfl
            have b2 := (CellsAt.new vd #[.string r.run, .string r.job, .int .u64 d.ver, .int .i64 d.at_, .int .i64 d.st] depT).cell 2 _ rfl
            have b3 := (CellsAt.new vd #[.string r.run, .string r.job, .int .u64 d.ver, .int .i64 d.at_, .int .i64 d.st] depT).cell 3 _ rfl
            have b4 := (CellsAt.new vd #[.string r.run, .string r.job, .int .u64 d.ver, .int .i64 d.at_, .int .i64 d.st] depT).cell 4 _ rfl
            have gBlt : vd.heap.size < (World.alloc vd (.cells #[.string r.run, .string r.job, .int .u64 d.ver, .int .i64 d.at_, .int .i64 d.st] depT)).heap.size := by simp
            replace hb := hb.trans (hba.mono hb.size)
            clear hba
            generalize World.alloc vd _ = v2 at *
            refine hK.out _ _ ?_ (fun hHeld => ?_)
            ·
             (try dsimp only)
             exact ⟨(hO5.kept hb).c 2 0, (hO5.kept hb).c 2 1, (hO5.kept hb).c 1 0, (hO5.kept hb).c 1 1, (hO5.kept hb).c 1 2, (hO5.kept hb).c 1 3, (hO5.kept hb).c 1 4⟩
            clear hK K
            try simp only [Act.put, List.getElem_toArray, List.getElem_cons_zero, List.getElem_cons_succ, List.setIfInBounds_toArray, List.set_cons_zero, List.set_cons_succ]
            refine wpAnyH_ready (rs := [0]) (by kernel_rfl) (by simp) ?_
            refine AllReadyH.cons rfl (fun K hK => ?_) ?_
            ·
             go_simp
             have hba := (Below.refl v2.heap.size v2).alloc (Nat.le_refl _) (.cells #[] depT)
             have hR := OwnR.empty (r := rDep) (sz := 5) v2 depT
             have hVW := hb
             have gBne : some (vd.heap.size) ≠ Value.ownBlock (.slice (some ⟨v2.heap.size, 0, none⟩) 0 0) := fun e => by injection e with e; have e2 : vd.heap.size = v2.heap.size := e; omega
             replace b0 := (hba.cell (p := ⟨vd.heap.size, 0, none⟩) gBlt).trans b0
             replace b1 := (hba.cell (p := ⟨vd.heap.size, 1, none⟩) gBlt).trans b1
             replace b2 := (hba.cell (p := ⟨vd.heap.size, 2, none⟩) gBlt).trans b2
             replace b3 := (hba.cell (p := ⟨vd.heap.size, 3, none⟩) gBlt).trans b3
             replace b4 := (hba.cell (p := ⟨vd.heap.size, 4, none⟩) gBlt).trans b4
             replace gBlt := Nat.lt_of_lt_of_le gBlt hba.size
             replace hb := hb.trans (hba.mono hb.size)
             clear hba
             generalize World.alloc v2 _ = v3 at *
             refine hK.out _ _ ?_ (fun hHeld => ?_)
             ·
              (try dsimp only)
              exact ⟨(hO5.kept hb).c 2 0, (hO5.kept hb).c 2 1, (hO5.kept hb).c 1 0, (hO5.kept hb).c 1 1, (hO5.kept hb).c 1 2, (hO5.kept hb).c 1 3, (hO5.kept hb).c 1 4⟩
             clear hK K
             try simp only [Act.put, List.getElem_toArray, List.getElem_cons_zero, List.getElem_cons_succ, List.setIfInBounds_toArray, List.set_cons_zero, List.set_cons_succ]
             refine wpAnyH_ready (rs := [3]) (by kernel_rfl) (by simp) ?_
             refine AllReadyH.cons rfl (fun K hK => ?_) ?_
             ·
              have hVs : w.heap.size ≤ v2.heap.size := Nat.le_trans hO5.below.size hVW.size
              have hws := ((hS.hist.below rDep_ok (hO5.below.trans (hb.mono hO5.below.size))).more rDep_ok (S' := Beh v3 (.slice (some ⟨v2.heap.size, 0, none⟩) 0 0)) (fun b hb' => beh_old hR (Nat.lt_of_lt_of_le hb' hVs)))
              refine step_appRS rDep_ok rDep_one hR hws Tryd.underlying59 dep_info hby1 ?_
              intro v4 w4_ hR4 hg4
              rw [List.nil_append] at hR4
              obtain ⟨A4, c4, rfl⟩ := hR4.form
              replace b0 := (hg4.cell (p := ⟨vd.heap.size, 0, none⟩) gBlt gBne).trans b0
              replace b1 := (hg4.cell (p := ⟨vd.heap.size, 1, none⟩) gBlt gBne).trans b1
              replace b2 := (hg4.cell (p := ⟨vd.heap.size, 2, none⟩) gBlt gBne).trans b2
              replace b3 := (hg4.cell (p := ⟨vd.heap.size, 3, none⟩) gBlt gBne).trans b3
              replace b4 := (hg4.cell (p := ⟨vd.heap.size, 4, none⟩) gBlt gBne).trans b4
              replace gBne := hg4.ne gBlt gBne
              replace gBlt := Nat.lt_of_lt_of_le gBlt hg4.by_.size
              replace hb := hVW.trans (hR4.bel.mono hVW.size)
              replace hR := hR4
              clear hR4 hg4 hws hVs
              refine hK.out _ _ ?_ (fun hHeld => ?_)
              ·
               (try dsimp only)
               exact ⟨(hO5.kept hb).c 2 0, (hO5.kept hb).c 2 1, (hO5.kept hb).c 1 0, (hO5.kept hb).c 1 1, (hO5.kept hb).c 1 2, (hO5.kept hb).c 1 3, (hO5.kept hb).c 1 4⟩
              clear hK K
              try simp only [Act.put, List.getElem_toArray, List.getElem_cons_zero, List.getElem_cons_succ, List.setIfInBounds_toArray, List.set_cons_zero, List.set_cons_succ]
              refine wpAnyH_ready (rs := [13]) (by kernel_rfl) (by simp) ?_
              refine AllReadyH.cons rfl (fun K hK => ?_) ?_
              ·
               have hbx := box_dep (d := (⟨r, d.ver, d.at_, d.st⟩ : Dep)) (S := Beh w4_ (.slice A4 x.history.length c4)) ⟨gBlt, gBne⟩ b0 b1 b2 b3 b4
               refine step_appRS rDep_ok rDep_one hR hbx Tryd.underlying59 dep_info hby2 ?_
               intro v6 w6_ hR6 hg6
               obtain ⟨A6, c6, rfl⟩ := hR6.form
               have hl6 : (x.history ++ [(⟨r, d.ver, d.at_, d.st⟩ : Dep)]).length = x.history.length + 1 := by simp
               rw [hl6] at hR6 ⊢
               replace hb := hVW.trans (hR6.bel.mono hVW.size)
               replace hR := hR6
               clear hR6 hg6 hbx hl6 gBlt gBne b0 b1 b2 b3 b4
               refine hK.out _ _ ?_ (fun hHeld => ?_)
               ·
                (try dsimp only)
                exact ⟨(hO5.kept hb).c 2 0, (hO5.kept hb).c 2 1, (hO5.kept hb).c 1 0, (hO5.kept hb).c 1 1, (hO5.kept hb).c 1 2, (hO5.kept hb).c 1 3, (hO5.kept hb).c 1 4⟩
               clear hK K
               try simp only [Act.put, List.getElem_toArray, List.getElem_cons_zero, List.getElem_cons_succ, List.setIfInBounds_toArray, List.set_cons_zero, List.set_cons_succ]
               refine tkY 14 (v := ?v271) rfl (.inl ⟨by rfl, ?hy271⟩) ?hr271
               case hy271 => (intro w hSw; (try dsimp only at hSw); go_simp; try with_reducible rfl)
               simp only [Act.put, List.getElem_toArray, List.getElem_cons_zero, List.getElem_cons_succ, List.setIfInBounds_toArray, List.set_cons_zero, List.set_cons_succ]
               refine wpAnyH_ready (rs := [15]) (by kernel_rfl) (by simp) ?_
               refine AllReadyH.cons rfl (fun K hK => ?_) ?_
               ·
                have x3 := (hO5.kept hb).c 0 4
                have xf := (hO5.kept hb).fr 0
                have hOs := (hO5.kept hb).store 0 rfl 4 (.slice A6 (x.history.length + 1) c6)
                go_simp
                clear x3 xf
                refine hK.out _ _ ?_ (fun hHeld => ?_)
                ·
                 (try dsimp only)
                 exact ⟨hOs.c 2 0, hOs.c 2 1, hOs.c 1 0, hOs.c 1 1, hOs.c 1 2, hOs.c 1 3, hOs.c 1 4⟩
                clear hK K
                try simp only [Act.put, List.getElem_toArray, List.getElem_cons_zero, List.getElem_cons_succ, List.setIfInBounds_toArray, List.set_cons_zero, List.set_cons_succ]
                refine wpAnyH_done (by kernel_rfl) ?_ _
                clear hOs
                have hO6 : OwnB w w6_ [(r1.heap.size, [.string x.name, .string ⟨#[]⟩, .string ⟨#[]⟩, .slice A1 x.waiting.length c1, .slice A2 x.history.length c2]), ((w.heap.size + 1), [.string d.ref.run, .string d.ref.job, .int .u64 d.ver, .int .i64 d.at_, .int .i64 d.st]), (w.heap.size, [.string r.run, .string r.job])] := hO5.kept hb
                clear c0_0 c0_1 c0_2 c0_3 c0_4 cf0 c1_0 c1_1 c1_2 c1_3 c1_4 cf1 c2_0 c2_1 cf2 hO5
                have c0_0 := hO6.c 0 0
                have c0_1 := hO6.c 0 1
                have c0_2 := hO6.c 0 2
                have c0_3 := hO6.c 0 3
                have c0_4 := hO6.c 0 4
                have cf0 := hO6.fr 0
                have c1_0 := hO6.c 1 0
                have c1_1 := hO6.c 1 1
                have c1_2 := hO6.c 1 2
                have c1_3 := hO6.c 1 3
                have c1_4 := hO6.c 1 4
                have cf1 := hO6.fr 1
                have c2_0 := hO6.c 2 0
                have c2_1 := hO6.c 2 1
                have cf2 := hO6.fr 2
                have hR4 := hR
                have hbV := (HB0).trans (hVW.mono HB0.size)
                have hxl := Nat.lt_of_lt_of_le (HX_) hVW.size
                clear hR
                have hld : (x.history ++ [(⟨r, d.ver, d.at_, d.st⟩ : Dep)]).length = x.history.length + 1 := by simp
                (try rw [hld] at hR4)
                replace hld := Lib.hid hld
                have hne : Value.ownBlock (.slice A6 (x.history.length + 1) c6) ≠ some (r1.heap.size) := fun e => by
                 obtain ⟨cs, HH, _⟩ := hR4
                 have := (HH.1.lt _ e).1
                 omega
                have hR5 := (OwnR.up (w1 := v2) hbV hR4).farSet (xb := r1.heap.size) (o := 4) (u := .slice A6 (x.history.length + 1) c6) rDep_ok hne (by omega) (fun x c h => h)
                generalize hx_ : World.setCell _ _ _ = wo7
                rw [hx_] at hR5
                have hO7 : OwnB w wo7 [(r1.heap.size, [.string x.name, .string ⟨#[]⟩, .string ⟨#[]⟩, .slice A1 x.waiting.length c1, .slice A6 (x.history.length + 1) c6]), ((w.heap.size + 1), [.string d.ref.run, .string d.ref.job, .int .u64 d.ver, .int .i64 d.at_, .int .i64 d.st]), (w.heap.size, [.string r.run, .string r.job])] := by rw [← hx_]; exact hO6.store 0 rfl 4 _
                have zwo7 : w6_.heap.size ≤ wo7.heap.size := by rw [← hx_]; simp [World.setCell]
                clear hx_ c0_0 c0_1 c0_2 c0_3 c0_4 cf0 c1_0 c1_1 c1_2 c1_3 c1_4 cf1 c2_0 c2_1 cf2 hO6
                have c0_0 := hO7.c 0 0
                have c0_1 := hO7.c 0 1
                have c0_2 := hO7.c 0 2
                have c0_3 := hO7.c 0 3
                have c0_4 := hO7.c 0 4
                have cf0 := hO7.fr 0
                have c1_0 := hO7.c 1 0
                have c1_1 := hO7.c 1 1
                have c1_2 := hO7.c 1 2
                have c1_3 := hO7.c 1 3
                have c1_4 := hO7.c 1 4
                have cf1 := hO7.fr 1
                have c2_0 := hO7.c 2 0
                have c2_1 := hO7.c 2 1
                have cf2 := hO7.fr 2
                clear hR4
                (try repeat' ((fail_if_success at_builtin); (first | go_skip | go_guarded | go_step)))
                go_meet
                case rel => exact ⟨_, _, _, rfl, hO7, hR5, hne⟩
               exact AllReadyH.nil
              exact AllReadyH.nil
             exact AllReadyH.nil
            exact AllReadyH.nil
           exact AllReadyH.nil
          refine AllReadyH.cons rfl (fun K hK => ?_) ?_
          ·
           go_simp
           have hba := (Below.refl vd.heap.size vd).alloc (Nat.le_refl _) (.cells #[.string r.run, .string r.job, .int .u64 d.ver, .int .i64 d.at_, .int .i64 d.st] depT)
           have b0 := (CellsAt.new vd #[.string r.run, .string r.job, .int .u64 d.ver, .int .i64 d.at_, .int .i64 d.st] depT).cell 0 _ rfl
           have b1 := (CellsAt.new vd #[.string r.run, .string r.job, .int .u64 d.ver, .int .i64 d.at_, .int .i64 d.st] depT).cell 1 _ rfl
           have b2 := (CellsAt.new vd #[.string r.run, .string r.job, .int .u64 d.ver, .int .i64 d.at_, .int .i64 d.st] depT).cell 2 _ rfl
           have b3 := (CellsAt.new vd #[.string r.run, .string r.job, .int .u64 d.ver, .int .i64 d.at_, .int .i64 d.st] depT).cell 3 _ rfl
           have b4 := (CellsAt.new vd #[.string r.run, .string r.job, .int .u64 d.ver, .int .i64 d.at_, .int .i64 d.st] depT).cell 4 _ rfl
           have gBlt : vd.heap.size < (World.alloc vd (.cells #[.string r.run, .string r.job, .int .u64 d.ver, .int .i64 d.at_, .int .i64 d.st] depT)).heap.size := by simp
           replace hb := hb.trans (hba.mono hb.size)
           clear hba
           generalize World.alloc vd _ = v1 at *
           refine hK.out _ _ ?_ (fun hHeld => ?_)
           ·
            (try dsimp only)
            exact ⟨(hO5.kept hb).c 2 0, (hO5.kept hb).c 2 1, (hO5.kept hb).c 1 0, (hO5.kept hb).c 1 1, (hO5.kept hb).c 1 2, (hO5.kept hb).c 1 3, (hO5.kept hb).c 1 4⟩
           clear hK K
           try simp only [Act.put, List.getElem_toArray, List.getElem_cons_zero, List.getElem_cons_succ, List.setIfInBounds_toArray, List.set_cons_zero, List.set_cons_succ]
           refine wpAnyH_ready (rs := [0, 2]) (by kernel_rfl) (by simp) ?_
           refine AllReadyH.cons rfl (fun K hK => ?_) ?_
           ·
            go_simp
            have hba := (Below.refl v1.heap.size v1).alloc (Nat.le_refl _) (.cells #[] depT)
            have hR := OwnR.empty (r := rDep) (sz := 5) v1 depT
            have hVW := hb
            have gBne : some (vd.heap.size) ≠ Value.ownBlock (.slice (some ⟨v1.heap.size, 0, none⟩) 0 0) := fun e => by injection e with e; have e2 : vd.heap.size = v1.heap.size := e; omega
            replace b0 := (hba.cell (p := ⟨vd.heap.size, 0, none⟩) gBlt).trans b0
            replace b1 := (hba.cell (p := ⟨vd.heap.size, 1, none⟩) gBlt).trans b1
            replace b2 := (hba.cell (p := ⟨vd.heap.size, 2, none⟩) gBlt).trans b2
            replace b3 := (hba.cell (p := ⟨vd.heap.size, 3, none⟩) gBlt).trans b3
            replace b4 := (hba.cell (p := ⟨vd.heap.size, 4, none⟩) gBlt).trans b4
            replace gBlt := Nat.lt_of_lt_of_le gBlt hba.size
            replace hb := hb.trans (hba.mono hb.size)
            clear hba
            generalize World.alloc v1 _ = v2 at *
            refine hK.out _ _ ?_ (fun hHeld => ?_)
            ·
             (try dsimp only)
             exact ⟨(hO5.kept hb).c 2 0, (hO5.kept hb).c 2 1, (hO5.kept hb).c 1 0, (hO5.kept hb).c 1 1, (hO5.kept hb).c 1 2, (hO5.kept hb).c 1 3, (hO5.kept hb).c 1 4⟩
            clear hK K
            try simp only [Act.put, List.getElem_toArray, List.getElem_cons_zero, List.getElem_cons_succ, List.setIfInBounds_toArray, List.set_cons_zero, List.set_cons_succ]
            refine wpAnyH_ready (rs := [2]) (by kernel_rfl) (by simp) ?_
            refine AllReadyH.cons rfl (fun K hK => ?_) ?_
            ·
             have x3 := (hO5.kept hb).c 0 4
             go_simp
             clear x3
             refine hK.out _ _ ?_ (fun hHeld => ?_)
             ·
              (try dsimp only)
              exact ⟨(hO5.kept hb).c 2 0, (hO5.kept hb).c 2 1, (hO5.kept hb).c 1 0, (hO5.kept hb).c 1 1, (hO5.kept hb).c 1 2, (hO5.kept hb).c 1 3, (hO5.kept hb).c 1 4⟩
             clear hK K
             try simp only [Act.put, List.getElem_toArray, List.getElem_cons_zero, List.getElem_cons_succ, List.setIfInBounds_toArray, List.set_cons_zero, List.set_cons_succ]
             refine wpAnyH_ready (rs := [3]) (by kernel_rfl) (by simp) ?_
             refine AllReadyH.cons rfl (fun K hK => ?_) ?_
             ·
              have hVs : w.heap.size ≤ v1.heap.size := Nat.le_trans hO5.below.size hVW.size
              have hws := ((hS.hist.below rDep_ok (hO5.below.trans (hb.mono hO5.below.size))).more rDep_ok (S' := Beh v2 (.slice (some ⟨v1.heap.size, 0, none⟩) 0 0)) (fun b hb' => beh_old hR (Nat.lt_of_lt_of_le hb' hVs)))
              refine step_appRS rDep_ok rDep_one hR hws Tryd.underlying59 dep_info hby1 ?_
              intro v4 w4_ hR4 hg4
              rw [List.nil_append] at hR4
              obtain ⟨A4, c4, rfl⟩ := hR4.form
              replace b0 := (hg4.cell (p := ⟨vd.heap.size, 0, none⟩) gBlt gBne).trans b0
              replace b1 := (hg4.cell (p := ⟨vd.heap.size, 1, none⟩) gBlt gBne).trans b1
              replace b2 := (hg4.cell (p := ⟨vd.heap.size, 2, none⟩) gBlt gBne).trans b2
              replace b3 := (hg4.cell (p := ⟨vd.heap.size, 3, none⟩) gBlt gBne).trans b3
              replace b4 := (hg4.cell (p := ⟨vd.heap.size, 4, none⟩) gBlt gBne).trans b4
              replace gBne := hg4.ne gBlt gBne
              replace gBlt := Nat.lt_of_lt_of_le gBlt hg4.by_.size
              replace hb := hVW.trans (hR4.bel.mono hVW.size)
              replace hR := hR4
              clear hR4 hg4 hws hVs
              refine hK.out _ _ ?_ (fun hHeld => ?_)
              ·
               (try dsimp only)
               exact ⟨(hO5.kept hb).c 2 0, (hO5.kept hb).c 2 1, (hO5.kept hb).c 1 0, (hO5.kept hb).c 1 1, (hO5.kept hb).c 1 2, (hO5.kept hb).c 1 3, (hO5.kept hb).c 1 4⟩
              clear hK K
              try simp only [Act.put, List.getElem_toArray, List.getElem_cons_zero, List.getElem_cons_succ, List.setIfInBounds_toArray, List.set_cons_zero, List.set_cons_succ]
              refine wpAnyH_ready (rs := [13]) (by kernel_rfl) (by simp) ?_
              refine AllReadyH.cons rfl (fun K hK => ?_) ?_
              ·
               have hbx := box_dep (d := (⟨r, d.ver, d.at_, d.st⟩ : Dep)) (S := Beh w4_ (.slice A4 x.history.length c4)) ⟨gBlt, gBne⟩ b0 b1 b2 b3 b4
               refine step_appRS rDep_ok rDep_one hR hbx Tryd.underlying59 dep_info hby2 ?_
               intro v6 w6_ hR6 hg6
               obtain ⟨A6, c6, rfl⟩ := hR6.form
               have hl6 : (x.history ++ [(⟨r, d.ver, d.at_, d.st⟩ : Dep)]).length = x.history.length + 1 := by simp
               rw [hl6] at hR6 ⊢
               replace hb := hVW.trans (hR6.bel.mono hVW.size)
               replace hR := hR6
               clear hR6 hg6 hbx hl6 gBlt gBne b0 b1 b2 b3 b4
               refine hK.out _ _ ?_ (fun hHeld => ?_)
               ·
                (try dsimp only)
                exact ⟨(hO5.kept hb).c 2 0, (hO5.kept hb).c 2 1, (hO5.kept hb).c 1 0, (hO5.kept hb).c 1 1, (hO5.kept hb).c 1 2, (hO5.kept hb).c 1 3, (hO5.kept hb).c 1 4⟩
               clear hK K
               try simp only [Act.put, List.getElem_toArray, List.getElem_cons_zero, List.getElem_cons_succ, List.setIfInBounds_toArray, List.set_cons_zero, List.set_cons_succ]
               refine tkY 14 (v := ?v272) rfl (.inl ⟨by rfl, ?hy272⟩) ?hr272
               case hy272 => (intro w hSw; (try dsimp only at hSw); go_simp; try with_reducible rfl)
               simp only [Act.put, List.getElem_toArray, List.getElem_cons_zero, List.getElem_cons_succ, List.setIfInBounds_toArray, List.set_cons_zero, List.set_cons_succ]
               refine wpAnyH_ready (rs := [15]) (by kernel_rfl) (by simp) ?_
               refine AllReadyH.cons rfl (fun K hK => ?_) ?_
               ·
                have x3 := (hO5.kept hb).c 0 4
                have xf := (hO5.kept hb).fr 0
                have hOs := (hO5.kept hb).store 0 rfl 4 (.slice A6 (x.history.length + 1) c6)
                go_simp
                clear x3 xf
                refine hK.out _ _ ?_ (fun hHeld => ?_)
                ·
                 (try dsimp only)
                 exact ⟨hOs.c 2 0, hOs.c 2 1, hOs.c 1 0, hOs.c 1 1, hOs.c 1 2, hOs.c 1 3, hOs.c 1 4⟩
                clear hK K
                try simp only [Act.put, List.getElem_toArray, List.getElem_cons_zero, List.getElem_cons_succ, List.setIfInBounds_toArray, List.set_cons_zero, List.set_cons_succ]
                refine wpAnyH_done (by kernel_rfl) ?_ _
                clear hOs
                have hO6 : OwnB w w6_ [(r1.heap.size, [.string x.name, .string ⟨#[]⟩, .string ⟨#[]⟩, .slice A1 x.waiting.length c1, .slice A2 x.history.length c2]), ((w.heap.size + 1), [.string d.ref.run, .string d.ref.job, .int .u64 d.ver, .int .i64 d.at_, .int .i64 d.st]), (w.heap.size, [.string r.run, .string r.job])] := hO5.kept hb
                clear c0_0 c0_1 c0_2 c0_3 c0_4 cf0 c1_0 c1_1 c1_2 c1_3 c1_4 cf1 c2_0 c2_1 cf2 hO5
                have c0_0 := hO6.c 0 0
                have c0_1 := hO6.c 0 1
                have c0_2 := hO6.c 0 2
                have c0_3 := hO6.c 0 3
                have c0_4 := hO6.c 0 4
                have cf0 := hO6.fr 0
                have c1_0 := hO6.c 1 0
                have c1_1 := hO6.c 1 1
                have c1_2 := hO6.c 1 2
                have c1_3 := hO6.c 1 3
                have c1_4 := hO6.c 1 4
                have cf1 := hO6.fr 1
                have c2_0 := hO6.c 2 0
                have c2_1 := hO6.c 2 1
                have cf2 := hO6.fr 2
                have hR4 := hR
                have hbV := (HB0).trans (hVW.mono HB0.size)
                have hxl := Nat.lt_of_lt_of_le (HX_) hVW.size
                clear hR
                have hld : (x.history ++ [(⟨r, d.ver, d.at_, d.st⟩ : Dep)]).length = x.history.length + 1 := by simp
                (try rw [hld] at hR4)
                replace hld := Lib.hid hld
                have hne : Value.ownBlock (.slice A6 (x.history.length + 1) c6) ≠ some (r1.heap.size) := fun e => by
                 obtain ⟨cs, HH, _⟩ := hR4
                 have := (HH.1.lt _ e).1
                 omega
                have hR5 := (OwnR.up (w1 := v1) hbV hR4).farSet (xb := r1.heap.size) (o := 4) (u := .slice A6 (x.history.length + 1) c6) rDep_ok hne (by omega) (fun x c h => h)
                generalize hx_ : World.setCell _ _ _ = wo7
                rw [hx_] at hR5
                have hO7 : OwnB w wo7 [(r1.heap.size, [.string x.name, .string ⟨#[]⟩, .string ⟨#[]⟩, .slice A1 x.waiting.length c1, .slice A6 (x.history.length + 1) c6]), ((w.heap.size + 1), [.string d.ref.run, .string d.ref.job, .int .u64 d.ver, .int .i64 d.at_, .int .i64 d.st]), (w.heap.size, [.string r.run, .string r.job])] := by rw [← hx_]; exact hO6.store 0 rfl 4 _
                have zwo7 : w6_.heap.size ≤ wo7.heap.size := by rw [← hx_]; simp [World.setCell]
                clear hx_ c0_0 c0_1 c0_2 c0_3 c0_4 cf0 c1_0 c1_1 c1_2 c1_3 c1_4 cf1 c2_0 c2_1 cf2 hO6
                have c0_0 := hO7.c 0 0
                have c0_1 := hO7.c 0 1
                have c0_2 := hO7.c 0 2
                have c0_3 := hO7.c 0 3
                have c0_4 := hO7.c 0 4
                have cf0 := hO7.fr 0
                have c1_0 := hO7.c 1 0
                have c1_1 := hO7.c 1 1
                have c1_2 := hO7.c 1 2
                have c1_3 := hO7.c 1 3
                have c1_4 := hO7.c 1 4
                have cf1 := hO7.fr 1
                have c2_0 := hO7.c 2 0
                have c2_1 := hO7.c 2 1
                have cf2 := hO7.fr 2
                clear hR4
                (try repeat' ((fail_if_success at_builtin); (first | go_skip | go_guarded | go_step)))
                go_meet
                case rel => exact ⟨_, _, _, rfl, hO7, hR5, hne⟩
               exact AllReadyH.nil
              exact AllReadyH.nil
             exact AllReadyH.nil
            exact AllReadyH.nil
           refine AllReadyH.cons rfl (fun K hK => ?_) ?_
           ·
            have x3 := (hO5.kept hb).c 0 4
            go_simp
            clear x3
            refine hK.out _ _ ?_ (fun hHeld => ?_)
            ·
             (try dsimp only)
             exact ⟨(hO5.kept hb).c 2 0, (hO5.kept hb).c 2 1, (hO5.kept hb).c 1 0, (hO5.kept hb).c 1 1, (hO5.kept hb).c 1 2, (hO5.kept hb).c 1 3, (hO5.kept hb).c 1 4⟩
            clear hK K
            try simp only [Act.put, List.getElem_toArray, List.getElem_cons_zero, List.getElem_cons_succ, List.setIfInBounds_toArray, List.set_cons_zero, List.set_cons_succ]
            refine wpAnyH_ready (rs := [0]) (by kernel_rfl) (by simp) ?_
            refine AllReadyH.cons rfl (fun K hK => ?_) ?_
            ·
             go_simp
             have hba := (Below.refl v1.heap.size v1).alloc (Nat.le_refl _) (.cells #[] depT)
             have hR := OwnR.empty (r := rDep) (sz := 5) v1 depT
             have hVW := hb
             have gBne : some (vd.heap.size) ≠ Value.ownBlock (.slice (some ⟨v1.heap.size, 0, none⟩) 0 0) := fun e => by injection e with e; have e2 : vd.heap.size = v1.heap.size := e; omega
             replace b0 := (hba.cell (p := ⟨vd.heap.size, 0, none⟩) gBlt).trans b0
             replace b1 := (hba.cell (p := ⟨vd.heap.size, 1, none⟩) gBlt).trans b1
             replace b2 := (hba.cell (p := ⟨vd.heap.size, 2, none⟩) gBlt).trans b2
             replace b3 := (hba.cell (p := ⟨vd.heap.size, 3, none⟩) gBlt).trans b3
             replace b4 := (hba.cell (p := ⟨vd.heap.size, 4, none⟩) gBlt).trans b4
             replace gBlt := Nat.lt_of_lt_of_le gBlt hba.size
             replace hb := hb.trans (hba.mono hb.size)
             clear hba
             generalize World.alloc v1 _ = v3 at *
             refine hK.out _ _ ?_ (fun hHeld => ?_)
             ·
              (try dsimp only)
              exact ⟨(hO5.kept hb).c 2 0, (hO5.kept hb).c 2 1, (hO5.kept hb).c 1 0, (hO5.kept hb).c 1 1, (hO5.kept hb).c 1 2, (hO5.kept hb).c 1 3, (hO5.kept hb).c 1 4⟩
             clear hK K
             try simp only [Act.put, List.getElem_toArray, List.getElem_cons_zero, List.getElem_cons_succ, List.setIfInBounds_toArray, List.set_cons_zero, List.set_cons_succ]
             refine wpAnyH_ready (rs := [3]) (by kernel_rfl) (by simp) ?_
             refine AllReadyH.cons rfl (fun K hK => ?_) ?_
             ·
              have hVs : w.heap.size ≤ v1.heap.size := Nat.le_trans hO5.below.size hVW.size
              have hws := ((hS.hist.below rDep_ok (hO5.below.trans (hb.mono hO5.below.size))).more rDep_ok (S' := Beh v3 (.slice (some ⟨v1.heap.size, 0, none⟩) 0 0)) (fun b hb' => beh_old hR (Nat.lt_of_lt_of_le hb' hVs)))
              refine step_appRS rDep_ok rDep_one hR hws Tryd.underlying59 dep_info hby1 ?_
              intro v4 w4_ hR4 hg4
              rw [List.nil_append] at hR4
              obtain ⟨A4, c4, rfl⟩ := hR4.form
              replace b0 := (hg4.cell (p := ⟨vd.heap.size, 0, none⟩) gBlt gBne).trans b0
              replace b1 := (hg4.cell (p := ⟨vd.heap.size, 1, none⟩) gBlt gBne).trans b1
              replace b2 := (hg4.cell (p := ⟨vd.heap.size, 2, none⟩) gBlt gBne).trans b2
              replace b3 := (hg4.cell (p := ⟨vd.heap.size, 3, none⟩) gBlt gBne).trans b3
              replace b4 := (hg4.cell (p := ⟨vd.heap.size, 4, none⟩) gBlt gBne).trans b4
              replace gBne := hg4.ne gBlt gBne
              replace gBlt := Nat.lt_of_lt_of_le gBlt hg4.by_.size
              replace hb := hVW.trans (hR4.bel.mono hVW.size)
              replace hR := hR4
              clear hR4 hg4 hws hVs
              refine hK.out _ _ ?_ (fun hHeld => ?_)
              ·
               (try dsimp only)
               exact ⟨(hO5.kept hb).c 2 0, (hO5.kept hb).c 2 1, (hO5.kept hb).c 1 0, (hO5.kept hb).c 1 1, (hO5.kept hb).c 1 2, (hO5.kept hb).c 1 3, (hO5.kept hb).c 1 4⟩
              clear hK K
              try simp only [Act.put, List.getElem_toArray, List.getElem_cons_zero, List.getElem_cons_succ, List.setIfInBounds_toArray, List.set_cons_zero, List.set_cons_succ]
              refine wpAnyH_ready (rs := [13]) (by kernel_rfl) (by simp) ?_
              refine AllReadyH.cons rfl (fun K hK => ?_) ?_
              ·
               have hbx := box_dep (d := (⟨r, d.ver, d.at_, d.st⟩ : Dep)) (S := Beh w4_ (.slice A4 x.history.length c4)) ⟨gBlt, gBne⟩ b0 b1 b2 b3 b4
               refine step_appRS rDep_ok rDep_one hR hbx Tryd.underlying59 dep_info hby2 ?_
               intro v6 w6_ hR6 hg6
               obtain ⟨A6, c6, rfl⟩ := hR6.form
               have hl6 : (x.history ++ [(⟨r, d.ver, d.at_, d.st⟩ : Dep)]).length = x.history.length + 1 := by simp
               rw [hl6] at hR6 ⊢
               replace hb := hVW.trans (hR6.bel.mono hVW.size)
               replace hR := hR6
               clear hR6 hg6 hbx hl6 gBlt gBne b0 b1 b2 b3 b4
               refine hK.out _ _ ?_ (fun hHeld => ?_)
               ·
                (try dsimp only)
                exact ⟨(hO5.kept hb).c 2 0, (hO5.kept hb).c 2 1, (hO5.kept hb).c 1 0, (hO5.kept hb).c 1 1, (hO5.kept hb).c 1 2, (hO5.kept hb).c 1 3, (hO5.kept hb).c 1 4⟩
               clear hK K
               try simp only [Act.put, List.getElem_toArray, List.getElem_cons_zero, List.getElem_cons_succ, List.setIfInBounds_toArray, List.set_cons_zero, List.set_cons_succ]
               refine tkY 14 (v := ?v273) rfl (.inl ⟨by rfl, ?hy273⟩) ?hr273
               case hy273 => (intro w hSw; (try dsimp only at hSw); go_simp; try with_reducible rfl)
               simp only [Act.put, List.getElem_toArray, List.getElem_cons_zero, List.getElem_cons_succ, List.setIfInBounds_toArray, List.set_cons_zero, List.set_cons_succ]
               refine wpAnyH_ready (rs := [15]) (by kernel_rfl) (by simp) ?_
               refine AllReadyH.cons rfl (fun K hK => ?_) ?_
               ·
                have x3 := (hO5.kept hb).c 0 4
                have xf := (hO5.kept hb).fr 0
                have hOs := (hO5.kept hb).store 0 rfl 4 (.slice A6 (x.history.length + 1) c6)
                go_simp
                clear x3 xf
                refine hK.out _ _ ?_ (fun hHeld => ?_)
                ·
                 (try dsimp only)
                 exact ⟨hOs.c 2 0, hOs.c 2 1, hOs.c 1 0, hOs.c 1 1, hOs.c 1 2, hOs.c 1 3, hOs.c 1 4⟩
                clear hK K
                try simp only [Act.put, List.getElem_toArray, List.getElem_cons_zero, List.getElem_cons_succ, List.setIfInBounds_toArray, List.set_cons_zero, List.set_cons_succ]
                refine wpAnyH_done (by kernel_rfl) ?_ _
                clear hOs
                have hO6 : OwnB w w6_ [(r1.heap.size, [.string x.name, .string ⟨#[]⟩, .string ⟨#[]⟩, .slice A1 x.waiting.length c1, .slice A2 x.history.length c2]), ((w.heap.size + 1), [.string d.ref.run, .string d.ref.job, .int .u64 d.ver, .int .i64 d.at_, .int .i64 d.st]), (w.heap.size, [.string r.run, .string r.job])] := hO5.kept hb
                clear c0_0 c0_1 c0_2 c0_3 c0_4 cf0 c1_0 c1_1 c1_2 c1_3 c1_4 cf1 c2_0 c2_1 cf2 hO5
                have c0_0 := hO6.c 0 0
                have c0_1 := hO6.c 0 1
                have c0_2 := hO6.c 0 2
                have c0_3 := hO6.c 0 3
                have c0_4 := hO6.c 0 4
                have cf0 := hO6.fr 0
                have c1_0 := hO6.c 1 0
                have c1_1 := hO6.c 1 1
                have c1_2 := hO6.c 1 2
                have c1_3 := hO6.c 1 3
                have c1_4 := hO6.c 1 4
                have cf1 := hO6.fr 1
                have c2_0 := hO6.c 2 0
                have c2_1 := hO6.c 2 1
                have cf2 := hO6.fr 2
                have hR4 := hR
                have hbV := (HB0).trans (hVW.mono HB0.size)
                have hxl := Nat.lt_of_lt_of_le (HX_) hVW.size
                clear hR
                have hld : (x.history ++ [(⟨r, d.ver, d.at_, d.st⟩ : Dep)]).length = x.history.length + 1 := by simp
                (try rw [hld] at hR4)
                replace hld := Lib.hid hld
                have hne : Value.ownBlock (.slice A6 (x.history.length + 1) c6) ≠ some (r1.heap.size) := fun e => by
                 obtain ⟨cs, HH, _⟩ := hR4
                 have := (HH.1.lt _ e).1
                 omega
                have hR5 := (OwnR.up (w1 := v1) hbV hR4).farSet (xb := r1.heap.size) (o := 4) (u := .slice A6 (x.history.length + 1) c6) rDep_ok hne (by omega) (fun x c h => h)
                generalize hx_ : World.setCell _ _ _ = wo7
                rw [hx_] at hR5
                have hO7 : OwnB w wo7 [(r1.heap.size, [.string x.name, .string ⟨#[]⟩, .string ⟨#[]⟩, .slice A1 x.waiting.length c1, .slice A6 (x.history.length + 1) c6]), ((w.heap.size + 1), [.string d.ref.run, .string d.ref.job, .int .u64 d.ver, .int .i64 d.at_, .int .i64 d.st]), (w.heap.size, [.string r.run, .string r.job])] := by rw [← hx_]; exact hO6.store 0 rfl 4 _
                have zwo7 : w6_.heap.size ≤ wo7.heap.size := by rw [← hx_]; simp [World.setCell]
                clear hx_ c0_0 c0_1 c0_2 c0_3 c0_4 cf0 c1_0 c1_1 c1_2 c1_3 c1_4 cf1 c2_0 c2_1 cf2 hO6
                have c0_0 := hO7.c 0 0
                have c0_1 := hO7.c 0 1
                have c0_2 := hO7.c 0 2
                have c0_3 := hO7.c 0 3
                have c0_4 := hO7.c 0 4
                have cf0 := hO7.fr 0
                have c1_0 := hO7.c 1 0
                have c1_1 := hO7.c 1 1
                have c1_2 := hO7.c 1 2
                have c1_3 := hO7.c 1 3
                have c1_4 := hO7.c 1 4
                have cf1 := hO7.fr 1
                have c2_0 := hO7.c 2 0
                have c2_1 := hO7.c 2 1
                have cf2 := hO7.fr 2
                clear hR4
                (try repeat' ((fail_if_success at_builtin); (first | go_skip | go_guarded | go_step)))
                go_meet
                case rel => exact ⟨_, _, _, rfl, hO7, hR5, hne⟩
               exact AllReadyH.nil
              exact AllReadyH.nil
             exact AllReadyH.nil
            exact AllReadyH.nil
           exact AllReadyH.nil
          exact AllReadyH.nil
         case rest =>
          obtain ⟨wf, A6, c6, rfl, hOf, hR5, hne⟩ := hcut
          have hld : (x.history ++ [(⟨r, d.ver, d.at_, d.st⟩ : Dep)]).length = x.history.length + 1 := by simp
          replace hld := Lib.hid hld
          have hxb := hOf.lo 0
          have hO6 : OwnB w wf [(r1.heap.size, [.string x.name, .string ⟨#[]⟩, .string ⟨#[]⟩, .slice A1 x.waiting.length c1, .slice A6 (x.history.length + 1) c6]), ((w.heap.size + 1), [.string d.ref.run, .string d.ref.job, .int .u64 d.ver, .int .i64 d.at_, .int .i64 d.st]), (w.heap.size, [.string r.run, .string r.job])] := hOf
          clear c0_0 c0_1 c0_2 c0_3 c0_4 cf0 c1_0 c1_1 c1_2 c1_3 c1_4 cf1 c2_0 c2_1 cf2 hO5
          have c0_0 := hO6.c 0 0
          have c0_1 := hO6.c 0 1
          have c0_2 := hO6.c 0 2
          have c0_3 := hO6.c 0 3
          have c0_4 := hO6.c 0 4
          have cf0 := hO6.fr 0
          have c1_0 := hO6.c 1 0
          have c1_1 := hO6.c 1 1
          have c1_2 := hO6.c 1 2
          have c1_3 := hO6.c 1 3
          have c1_4 := hO6.c 1 4
          have cf1 := hO6.fr 1
          have c2_0 := hO6.c 2 0
          have c2_1 := hO6.c 2 1
          have cf2 := hO6.fr 2
          clear hOf
          by_cases hc : 64 < x.history.length + 1
          ·
           have hc1 : (64 : Int) < (x.history.length : Int) + 1 := by omega
           have hcap : (finE (⟨r, d.ver, d.at_, d.st⟩ : Dep) x).history = (x.history ++ [(⟨r, d.ver, d.at_, d.st⟩ : Dep)]).drop 1 := capH_big (by rw [hld.out]; exact hc)
           have hcl : x.history.length + 1 ≤ c6 := by obtain ⟨cs, HH, _⟩ := hR5; rw [hld.out] at HH; exact HH.cap_le
           have j1 : (1 : Int) ≤ (x.history.length : Int) + 1 := by omega
           have j3 : (x.history.length : Int) + 1 ≤ (c6 : Int) := by omega
           have j4 : ¬ c6 = 1 := by omega
           obtain ⟨gb, hA6, hgb1, hgb2, _⟩ := hR5.head hld.out.symm (by omega)
           subst hA6
           have hcN := Lib.hid hc
           clear hc
           replace hcap := Lib.hid hcap
           go_upto_region 14 with (fail)
           have hR6 := hR5.farSet (xb := r1.heap.size) (o := 4) (u := .slice (some ⟨gb, 5, none⟩) x.history.length (c6 - 1)) rDep_ok hne (by omega) (fun x c h => h)
           generalize hx_ : World.setCell _ _ _ = wo7
           rw [hx_] at hR6
           have hO7 : OwnB w wo7 [(r1.heap.size, [.string x.name, .string ⟨#[]⟩, .string ⟨#[]⟩, .slice A1 x.waiting.length c1, .slice (some ⟨gb, 5, none⟩) x.history.length (c6 - 1)]), ((w.heap.size + 1), [.string d.ref.run, .string d.ref.job, .int .u64 d.ver, .int .i64 d.at_, .int .i64 d.st]), (w.heap.size, [.string r.run, .string r.job])] := by rw [← hx_]; exact hO6.store 0 rfl 4 _
           have zwo7 : wf.heap.size ≤ wo7.heap.size := by rw [← hx_]; simp [World.setCell]
           clear hx_ c0_0 c0_1 c0_2 c0_3 c0_4 cf0 c1_0 c1_1 c1_2 c1_3 c1_4 cf1 c2_0 c2_1 cf2 hO6
           have c0_0 := hO7.c 0 0
           have c0_1 := hO7.c 0 1
           have c0_2 := hO7.c 0 2
           have c0_3 := hO7.c 0 3
           have c0_4 := hO7.c 0 4
           have cf0 := hO7.fr 0
           have c1_0 := hO7.c 1 0
           have c1_1 := hO7.c 1 1
           have c1_2 := hO7.c 1 2
           have c1_3 := hO7.c 1 3
           have c1_4 := hO7.c 1 4
           have cf1 := hO7.fr 1
           have c2_0 := hO7.c 2 0
           have c2_1 := hO7.c 2 1
           have cf2 := hO7.fr 2
           have hbS := hO7.below
           have hs5 : RSlice rDep 5 wo7 (fun b => b < wo7.heap.size) (some ⟨gb, 5, none⟩) (finE (⟨r, d.ver, d.at_, d.st⟩ : Dep) x).history.length (c6 - 1) (finE (⟨r, d.ver, d.at_, d.st⟩ : Dep) x).history := by
            rw [hcap.out]
            have h9 := hR6
            rw [← hld.out] at h9
            have h8 := (h9.slice rDep_ok).drop (i := 1) (by rw [hld.out]; omega)
            rw [if_neg j4] at h8
            rw [List.length_drop]
            exact h8
           have C := with_any l (finE (⟨r, d.ver, d.at_, d.st⟩ : Dep) x) A1 c1 (some ⟨gb, 5, none⟩) (c6 - 1) i (some ⟨g, o, none⟩) n c wo7 (h.below hbS) hk ((hS.wait.below rRef_ok hbS).more rRef_ok (fun _ hp => Nat.lt_of_lt_of_le hp hbS.size)) hs5
           rw [show (finE (⟨r, d.ver, d.at_, d.st⟩ : Dep) x).history.length = x.history.length from by rw [hcap.out, List.length_drop, hld.out]; rfl] at C
           replace C := Lib.hid C
           replace hbS := Lib.hid hbS
           clear hs5
           repeat' ((fail_if_success at_builtin); (first | go_skip | go_guarded | go_step))
           refine C.out.mono ?_
           clear C
           rintro e w9 ⟨A', n', c', rfl, hb9, hs9⟩
           dsimp only
           have hbz := hbS.out.trans (hb9.mono hbS.out.size)
           replace hs9 := Lib.hid hs9
           replace hbz := Lib.hid hbz
           repeat' ((fail_if_success at_builtin); (first | go_skip | go_guarded | go_step))
           go_ret2
           rw [hm1.out]
           exact ⟨_, _, _, rfl, hbz.out, hs9.out⟩
          ·
           have hc1 : ¬ (64 : Int) < (x.history.length : Int) + 1 := by omega
           have hcap : (finE (⟨r, d.ver, d.at_, d.st⟩ : Dep) x).history = x.history ++ [(⟨r, d.ver, d.at_, d.st⟩ : Dep)] := capH_few (by rw [hld.out]; exact hc)
           clear hc
           replace hcap := Lib.hid hcap
           have hbS := hO6.below
           have hs5 : RSlice rDep 5 wf (fun b => b < wf.heap.size) A6 (finE (⟨r, d.ver, d.at_, d.st⟩ : Dep) x).history.length c6 (finE (⟨r, d.ver, d.at_, d.st⟩ : Dep) x).history := by
            rw [hcap.out]
            have h9 := hR5
            rw [← hld.out] at h9
            exact h9.slice rDep_ok
           have C := with_any l (finE (⟨r, d.ver, d.at_, d.st⟩ : Dep) x) A1 c1 A6 c6 i (some ⟨g, o, none⟩) n c wf (h.below hbS) hk ((hS.wait.below rRef_ok hbS).more rRef_ok (fun _ hp => Nat.lt_of_lt_of_le hp hbS.size)) hs5
           rw [show (finE (⟨r, d.ver, d.at_, d.st⟩ : Dep) x).history.length = x.history.length + 1 from by rw [hcap.out]; exact hld.out] at C
           replace C := Lib.hid C
           replace hbS := Lib.hid hbS
           clear hs5
           repeat' ((fail_if_success at_builtin); (first | go_skip | go_guarded | go_step))
           refine C.out.mono ?_
           clear C
           rintro e w9 ⟨A', n', c', rfl, hb9, hs9⟩
           dsimp only
           have hbz := hbS.out.trans (hb9.mono hbS.out.size)
           replace hs9 := Lib.hid hs9
           replace hbz := Lib.hid hbz
           repeat' ((fail_if_success at_builtin); (first | go_skip | go_guarded | go_step))
           go_ret2
           rw [hm1.out]
           exact ⟨_, _, _, rfl, hbz.out, hs9.out⟩
       ·
        have i1 : ¬ (i : Int) < (n : Int) := by omega
        have hm1 := hm0.out
        rw [List.getElem?_eq_none (by
         rw [List.drop_of_length_le (by omega)] at hp
         have : posA (holdE r) [] = 0 := rfl
         omega)] at hm1
        dsimp only at hm1
        replace hm1 := Lib.hid hm1
        clear hp
        repeat' ((fail_if_success at_builtin); (first | go_skip | go_guarded | go_step))
        go_ret2
        rw [hm1.out]
        exact RetL.same h hbS 8
  ·
   have f2 : (d.st != 2) = true := by simpa using hs2
   have hm : finL l ⟨r, d.ver, d.at_, d.st⟩ = (l, 1) := by
    have a1 : (d.st == 1) = false := by simpa using hs1
    have a2 : (d.st == 2) = false := by simpa using hs2
    unfold finL
    rw [if_pos (by show (d.st == 1 || d.st == 2) = false; rw [a1, a2]; rfl)]
   clear hs1 hs2
   have hbz := hO1.below
   replace hm := Lib.hid hm
   repeat' ((fail_if_success at_builtin); (first | go_skip | go_guarded | go_step))
   go_ret2
   rw [hm.out]
   exact RetL.same h hbz 1
end Go.Proofs.YtennhjkhjplmoaaDoor
