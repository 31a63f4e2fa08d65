/- Deploy: Valid. -/
import Derived.Test.YtennhjkhjplmoaaDoorDpDe
import Derived.Test.YtennhjkhjplmoaaDoorDpSm
namespace Go.Proofs.YtennhjkhjplmoaaDoor
open Go.RowKit
theorem Below.own {B : Nat} {w w' w2 : World} {r : Nat} (h : Below B w w') (hg : w'.grownBy w2 (some r)) (hr : B ≤ r) (hB : B ≤ w'.heap.size) : Below B w w2 := h.trans ⟨hg.os, hg.tape, hg.output, hg.size, fun k hk => hg.block k (by omega) (fun e => by injection e with e; omega)⟩
theorem dup_true' {l : List Ref} (h : ¬ l.Nodup) : dupR l = true := by
  cases hd : dupR l with
  | true => rfl
  | false => exact absurd (dupR_nodup.1 hd) h
theorem envF_at' {l : List Env} {i : Nat} {x : Env} (hx : l[i]? = some x) : envF (l.take i) x = if nameS x.name.data.toList = false then 1 else if ordF (l.take i) x = true then 22 else if holdOk x = false then 1 else if dupR (refsL (l.take (i + 1))) = true then 7 else histF x.history := by
  unfold envF
  rw [show l.take i ++ [x] = l.take (i + 1) from by rw [List.take_add_one, hx]; rfl]
theorem ord_succ' {l : List Env} {j : Nat} {x y : Env} (hy : l[j]? = some y) : ordF (l.take (j + 1)) x = decide (0 ≤ cmpN y.name.data.toList x.name.data.toList) := by
  unfold ordF
  rw [List.take_add_one, hy]
  simp
theorem OwnR.sliceN {w0 w : World} {e : TypeId} {l : List Ref} {A : Option Addr} {c m : Nat} (h : OwnR rRef 2 w0 w e (.slice A l.length c) l) (hm : m < w0.heap.size) : RSlice rRef 2 w (fun b => b < w.heap.size ∧ b ≠ m) A l.length c l := by
  obtain ⟨h1, h2, h3, cs, hseq, hlist⟩ := h.slice rRef_ok
  refine ⟨h1, h2, h3, cs, ⟨hseq.1, fun hp => ?_⟩, RList.map (r := rRef) (w := w) (S := fun b => b < w.heap.size) (fun x cs (hc : cs = refC x) => (hc : cs = refC x)) hlist⟩
  obtain ⟨b, o, hA, hb, hc⟩ := hseq.2 hp
  obtain ⟨ds, HH, _⟩ := h
  refine ⟨b, o, hA, ⟨hb, fun e => ?_⟩, hc⟩
  have := (HH.1.lt b (by rw [hA]; rfl)).1
  omega
/-- the requests and then the holder of an environment -/
def goE (x : Env) : List Ref := x.waiting ++ (if eqR x.holder zR = true then [] else [x.holder])
def goL (l : List Env) : List Ref := l.flatMap goE
theorem goE_perm (x : Env) : (goE x).Perm (refsE x) := List.perm_append_comm
theorem goL_perm : ∀ l : List Env, (goL l).Perm (refsL l)
  | [] => List.Perm.refl _
  | x :: l => (goE_perm x).append (goL_perm l)
theorem goL_take {l : List Env} {i : Nat} {x : Env} (hx : l[i]? = some x) : goL (l.take (i + 1)) = goL (l.take i) ++ goE x := by
  rw [List.take_add_one, hx]
  show (l.take i ++ [x]).flatMap goE = _
  rw [List.flatMap_append]
  show _ ++ (goE x ++ []) = _
  rw [List.append_nil]
  rfl
theorem goE_bad (x : Env) : (goE x).any (fun r => !properR r) = !holdOk x := by
  have h : holdOk x = ((eqR x.holder zR || properR x.holder) && x.waiting.all properR) := rfl
  rw [h]
  unfold goE
  rw [List.any_append, Bool.not_and, ← List.not_all_eq_any_not, Bool.or_comm]
  congr 1
  cases hz : eqR x.holder zR with
  | true => rfl
  | false => simp
theorem goE_len (x : Env) : (goE x).length ≤ x.waiting.length + 1 := by
  unfold goE
  rw [List.length_append]
  split <;> simp
/-- the strings of the references are no longer than strings can be -/
def EnvOk (x : Env) : Prop := RefOk x.holder ∧ ∀ y ∈ x.waiting, RefOk y
theorem goE_ok {x : Env} (h : EnvOk x) : ∀ y ∈ goE x, RefOk y := by
  intro y hy
  unfold goE at hy
  rcases List.mem_append.1 hy with hy | hy
  · exact h.2 y hy
  · split at hy
    · cases hy
    · rw [List.mem_singleton] at hy
      rw [hy]; exact h.1
theorem goL_ok {l : List Env} (h : ∀ x ∈ l, EnvOk x) : ∀ y ∈ goL l, RefOk y := by
  intro y hy
  obtain ⟨x, hx, hm⟩ := List.mem_flatMap.1 hy
  exact goE_ok (h x hx) y hm
theorem go_dup {l : List Env} {i k : Nat} {x : Env} {y : Ref} (hx : l[i]? = some x) (hy : (goE x)[k]? = some y) (h : hasR (goL (l.take i) ++ (goE x).take k) y = true) : dupR (refsL (l.take (i + 1))) = true := by
  refine dup_true' (fun hn => ?_)
  rw [← List.Perm.nodup_iff (goL_perm (l.take (i + 1))), goL_take hx] at hn
  have hk := (List.getElem?_eq_some_iff.1 hy).1
  have e : goE x = (goE x).take k ++ y :: (goE x).drop (k + 1) := by
    have h1 := List.take_append_drop k (goE x)
    rw [List.drop_eq_getElem_cons hk, (List.getElem?_eq_some_iff.1 hy).2] at h1
    exact h1.symm
  rw [e, ← List.append_assoc, List.nodup_append] at hn
  exact hn.2.2 y (hasR_iff.1 h) y (by simp) rfl
theorem go_step' {S R : List Ref} {k : Nat} {y : Ref} (hy : R[k]? = some y) (hn : (S ++ R.take k).Nodup) (h : hasR (S ++ R.take k) y = false) : (S ++ R.take (k + 1)).Nodup := by
  rw [List.take_add_one, hy, ← List.append_assoc, List.nodup_append]
  refine ⟨hn, by simp, fun a ha b hb e => ?_⟩
  simp at hb
  rw [e, hb] at ha
  exact hasR_not.1 h ha
theorem go_nodup {l : List Env} {i : Nat} {x : Env} (hx : l[i]? = some x) (hn : (goL (l.take i) ++ goE x).Nodup) : dupR (refsL (l.take (i + 1))) = false := by
  rw [dupR_nodup, ← List.Perm.nodup_iff (goL_perm (l.take (i + 1))), goL_take hx]
  exact hn
set_option maxRecDepth 100000 in
set_option maxHeartbeats 6000000 in
theorem valid_any (l : List Env) (A : Option Addr) (n c : Nat) (w : World) (h : Envs w A n c l) (hOk : ∀ x ∈ l, EnvOk x) (hw9 : ∀ x ∈ l, x.waiting.length ≤ 999999) (hgl : (goL l).length ≤ 1000000) :
    Calls Tryd.prog 11 #[.slice A n c] w fun e w' => e = .returned (.int .i64 (validL l)) ∧ Below w.heap.size w w' := by
  have hmm := @run_makeMap Tryd.prog
  have hmp := SetR.made w
  have hb0 : Below w.heap.size w (w.alloc (.map #[] 0)) := (Below.refl _ _).alloc (Nat.le_refl _) _
  have hn := h.n
  have hl := h.len
  replace hn := Lib.hid hn
  go_enter Tryd.func11, Tryd.ntmps11
  repeat' ((fail_if_success at_builtin); (first | go_skip | go_guarded | go_step))
  clear hmm
  generalize hw1 : World.alloc w _ = w1
  replace hmp : SetR w1 w.heap.size [] := by rw [← hw1]; exact hmp
  replace hb0 : Below w.heap.size w w1 := by rw [← hw1]; exact hb0
  clear hw1
  go_loopw [13] (fun u13 wr => ∃ i : Nat, i ≤ n ∧ u13 = .int .i64 (i : Int) ∧ Below w.heap.size w wr ∧ SetR wr w.heap.size (goL (l.take i)) ∧ (goL (l.take i)).Nodup ∧ validL l = validF (l.take i) (l.drop i)) (fun u13 _ => n - (intOf u13).toNat)
  case atStart => exact ⟨0, by omega, rfl, hb0, hmp, by simp [goL], rfl⟩
  case round =>
    clear hmp hb0
    obtain ⟨wq, hwq⟩ : ∃ wq, wq = wr := ⟨wr, rfl⟩
    subst hwq
    obtain ⟨i, hi, rfl, hb, hset, hnd, hp⟩ := hrel
    have i0 : (0 : Int) ≤ (i : Int) := by omega
    have i2 : IntKind.i64.wrap ((i : Int) + 1) = (i : Int) + 1 := IntWalk.i64_in _ (by have := hn.out; omega)
    by_cases hlt : i < n
    · have i1 : (i : Int) < (n : Int) := by omega
      obtain ⟨x, hx⟩ : ∃ x, l[i]? = some x := ⟨_, List.getElem?_eq_getElem (by have := hn.out; omega)⟩
      rw [valid_at hx, envF_at' hx] at hp
      have hxm := List.mem_of_getElem? hx
      have hxW := h.each x hxm
      have hxn := hxW.name
      have hx9 := hw9 x hxm
      have hxO := goE_ok (hOk x hxm)
      have hpO : ∀ y ∈ goL (l.take i), RefOk y := goL_ok (fun z hz => hOk z (List.mem_of_mem_take hz))
      have hgl2 : (goL (l.take i)).length ≤ (goL l).length := by
        have e : goL l = goL (l.take i) ++ goL (l.drop i) := by
          unfold goL
          rw [← List.flatMap_append, List.take_append_drop]
        rw [e, List.length_append]; omega
      obtain ⟨g, o, A1, c1, A2, c2, rfl, hg, hS⟩ := env_at h.rd hx
      have hT := hS.below hg hb
      have e0 := hT.e0
      have e1 := hT.e1
      have e2 := hT.e2
      have e3 := hT.e3
      have e4 := hT.e4
      have hMl := hset.lt
      clear hT
      go_upto_region 5 with (fail)
      generalize hx_ : World.alloc wq _ = wo1
      have hP1 : OwnB wq wo1 [(wq.heap.size, [.string x.name, .string x.holder.run, .string x.holder.job, .slice A1 x.waiting.length c1, .slice A2 x.history.length c2])] := by rw [← hx_]; exact (OwnB.refl wq).new #[.string x.name, .string x.holder.run, .string x.holder.job, .slice A1 x.waiting.length c1, .slice A2 x.history.length c2] _ (g := wq.heap.size)
      have hbn : Below wq.heap.size wq wo1 := by rw [← hx_]; exact (Below.refl _ _).alloc (Nat.le_refl _) _
      have zwo1 : wq.heap.size + 0 < wo1.heap.size := by rw [← hx_]; simp <;> omega
      clear hx_
      have d0_0 : wo1.cell? ⟨wq.heap.size, 0, none⟩ = some (.string x.name) := hP1.c 0 0
      have d0_1 : wo1.cell? ⟨wq.heap.size, 1, none⟩ = some (.string x.holder.run) := hP1.c 0 1
      have d0_2 : wo1.cell? ⟨wq.heap.size, 2, none⟩ = some (.string x.holder.job) := hP1.c 0 2
      have d0_3 : wo1.cell? ⟨wq.heap.size, 3, none⟩ = some (.slice A1 x.waiting.length c1) := hP1.c 0 3
      have d0_4 : wo1.cell? ⟨wq.heap.size, 4, none⟩ = some (.slice A2 x.history.length c2) := hP1.c 0 4
      have df0 := hP1.fr 0
      clear hbn
      clear e0 e1 e2 e3 e4
      have hbw := hb.trans (hP1.below.mono hb.size)
      have hsw := hset.kept hP1.below
      have C := idName_any x.name wo1 (by omega)
      cases hnm : nameS x.name.data.toList with
      | false =>
        rw [hnm] at C hp
        have hr : validL l = 1 := by
          rw [if_pos rfl, if_neg (by decide)] at hp
          exact hp
        replace hr := Lib.hid hr
        replace C := Lib.hid C
        clear hp
        repeat' ((fail_if_success at_builtin); (first | go_skip | go_guarded | go_step))
        refine C.out.mono ?_
        clear C
        rintro e w2 ⟨rfl, hb2⟩
        dsimp only
        have hbz := hbw.trans (hb2.mono hbw.size)
        repeat' ((fail_if_success at_builtin); (first | go_skip | go_guarded | go_step))
        go_ret
        exact ⟨by rw [hr.out]; rfl, hbz⟩
      | true =>
        rw [hnm] at C hp
        rw [if_neg (show ¬ (true = false) by decide)] at hp
        replace hp := Lib.hid hp
        replace C := Lib.hid C
        repeat' ((fail_if_success at_builtin); (first | go_skip | go_guarded | go_step))
        refine C.out.mono ?_
        clear C
        rintro e w2 ⟨rfl, hb2⟩
        dsimp only
        replace hbw := hbw.trans (hb2.mono hbw.size)
        replace hsw := hsw.kept hb2
        have zw2 := hb2.size
        have hP2 : OwnB wq w2 [(wq.heap.size, [.string x.name, .string x.holder.run, .string x.holder.job, .slice A1 x.waiting.length c1, .slice A2 x.history.length c2])] := hP1.kept hb2
        clear d0_0 d0_1 d0_2 d0_3 d0_4 df0 hP1
        have d0_0 : w2.cell? ⟨wq.heap.size, 0, none⟩ = some (.string x.name) := hP2.c 0 0
        have d0_1 : w2.cell? ⟨wq.heap.size, 1, none⟩ = some (.string x.holder.run) := hP2.c 0 1
        have d0_2 : w2.cell? ⟨wq.heap.size, 2, none⟩ = some (.string x.holder.job) := hP2.c 0 2
        have d0_3 : w2.cell? ⟨wq.heap.size, 3, none⟩ = some (.slice A1 x.waiting.length c1) := hP2.c 0 3
        have d0_4 : w2.cell? ⟨wq.heap.size, 4, none⟩ = some (.slice A2 x.history.length c2) := hP2.c 0 4
        have df0 := hP2.fr 0
        go_upto_region 7 with (fail)
        go_cut [35] (fun u35 wx => ∃ wq' : World, wq' = wx ∧ u35 = .bool (ordF (l.take i) x) ∧ Below w2.heap.size w2 wx)
        case first =>
          clear hp
          cases i with
          | zero =>
            have hd : decide ((0 : Int) < ((0 : Nat) : Int)) = false := rfl
            have hS0 : (Below w2.heap.size w2 w2 ∧ True) := ⟨Below.refl _ _, trivial⟩
            have keepS : ∀ v1 v2 : World, (Below w2.heap.size w2 v1 ∧ True) → Below v1.heap.size v1 v2 → (Below w2.heap.size w2 v2 ∧ True) := fun v1 v2 h hb => ⟨h.1.trans (hb.mono h.1.size), trivial⟩
            have hS1 : (Below w2.heap.size w2 w2.drew ∧ True) := keepS _ _ hS0 ((Below.refl _ _).drew)
            replace keepS := Lib.hid keepS
            clear hS0
            refine wp_region_held_drew (S := fun w' => Below w2.heap.size w2 w' ∧ True) (by kernel_rfl) ?_ (fun hHeld => ?_)
            · (try dsimp only)
              exact hS1
            refine tkY 0 (v := ?v54) rfl (.inl ⟨by rfl, ?hy54⟩) ?hr54
            case hy54 => (intro w hSw; (try dsimp only at hSw); go_simp; try with_reducible rfl)
            simp only [Act.put, List.getElem_toArray, List.getElem_cons_zero, List.setIfInBounds_toArray, List.set_cons_zero, List.set_cons_succ]
            refine tkY 1 (v := ?v55) rfl (.inl ⟨by rfl, ?hy55⟩) ?hr55
            case hy55 => (intro w hSw; (try dsimp only at hSw); go_simp; try with_reducible rfl)
            simp only [Act.put, List.getElem_toArray, List.getElem_cons_zero, List.getElem_cons_succ, List.setIfInBounds_toArray, List.set_cons_zero, List.set_cons_succ]
            refine tkY 2 (v := ?v56) rfl (.inl ⟨by rfl, ?hy56⟩) ?hr56
            case hy56 => (intro w hSw; (try dsimp only at hSw); go_simp; try with_reducible rfl)
            simp only [Act.put, List.getElem_toArray, List.getElem_cons_zero, List.getElem_cons_succ, List.setIfInBounds_toArray, List.set_cons_zero, List.set_cons_succ]
            refine tkN 3 rfl ?_
            simp only [Act.put, List.getElem_toArray, List.getElem_cons_zero, List.getElem_cons_succ, List.setIfInBounds_toArray, List.set_cons_zero, List.set_cons_succ]
            refine tkN 4 rfl ?_
            simp only [Act.put, List.getElem_toArray, List.getElem_cons_zero, List.getElem_cons_succ, List.setIfInBounds_toArray, List.set_cons_zero, List.set_cons_succ]
            refine tkN 5 rfl ?_
            simp only [Act.put, List.getElem_toArray, List.getElem_cons_zero, List.getElem_cons_succ, List.setIfInBounds_toArray, List.set_cons_zero, List.set_cons_succ]
            refine tkN 6 rfl ?_
            simp only [Act.put, List.getElem_toArray, List.getElem_cons_zero, List.getElem_cons_succ, List.setIfInBounds_toArray, List.set_cons_zero, List.set_cons_succ]
            refine tkN 7 rfl ?_
            simp only [Act.put, List.getElem_toArray, List.getElem_cons_zero, List.getElem_cons_succ, List.setIfInBounds_toArray, List.set_cons_zero, List.set_cons_succ]
            refine tkN 8 rfl ?_
            simp only [Act.put, List.getElem_toArray, List.getElem_cons_zero, List.getElem_cons_succ, List.setIfInBounds_toArray, List.set_cons_zero, List.set_cons_succ]
            refine tkN 9 rfl ?_
            simp only [Act.put, List.getElem_toArray, List.getElem_cons_zero, List.getElem_cons_succ, List.setIfInBounds_toArray, List.set_cons_zero, List.set_cons_succ]
            refine tkN 10 rfl ?_
            simp only [Act.put, List.getElem_toArray, List.getElem_cons_zero, List.getElem_cons_succ, List.setIfInBounds_toArray, List.set_cons_zero, List.set_cons_succ]
            refine tkN 11 rfl ?_
            simp only [Act.put, List.getElem_toArray, List.getElem_cons_zero, List.getElem_cons_succ, List.setIfInBounds_toArray, List.set_cons_zero, List.set_cons_succ]
            refine tkN 12 rfl ?_
            simp only [Act.put, List.getElem_toArray, List.getElem_cons_zero, List.getElem_cons_succ, List.setIfInBounds_toArray, List.set_cons_zero, List.set_cons_succ]
            refine tkY 13 (v := ?v57) rfl (.inl ⟨by rfl, ?hy57⟩) ?hr57
            case hy57 => (intro w hSw; (try dsimp only at hSw); go_simp; try with_reducible rfl)
            simp only [Act.put, List.getElem_toArray, List.getElem_cons_zero, List.getElem_cons_succ, List.setIfInBounds_toArray, List.set_cons_zero, List.set_cons_succ]
            refine wpAnyH_done (by kernel_rfl) ?_ _
            have hbW := hHeld.1
            clear hHeld hS1 keepS
            (try repeat' ((fail_if_success at_builtin); (first | go_skip | go_guarded | go_step)))
            go_meet
            case rel => exact ⟨_, rfl, rfl, hbW⟩
          | succ j =>
            have hd : decide ((0 : Int) < ((j + 1 : Nat) : Int)) = true := decide_eq_true (by omega)
            have hd2 : (0 : Int) < (j : Int) + 1 := by omega
            have j1 : IntKind.i64.wrap (((j + 1 : Nat) : Int) - 1) = (j : Int) := by rw [show ((j + 1 : Nat) : Int) - 1 = (j : Int) from by omega]; exact IntWalk.i64_in _ (by have := hn.out; omega)
            have j4 : IntKind.i64.wrap ((j : Int) + 1 - 1) = (j : Int) := by rw [show (j : Int) + 1 - 1 = (j : Int) from by omega]; exact IntWalk.i64_in _ (by have := hn.out; omega)
            have j5 : IntKind.i64.wrap (j : Int) = (j : Int) := IntWalk.i64_in _ (by have := hn.out; omega)
            have j2 : (0 : Int) ≤ (j : Int) := by omega
            have j3 : (j : Int) < (n : Int) := by omega
            obtain ⟨y, hy⟩ : ∃ y, l[j]? = some y := ⟨_, List.getElem?_eq_getElem (by have := hn.out; omega)⟩
            have hyn := (h.each y (List.mem_of_getElem? hy)).name
            have hor := ord_succ' (x := x) hy
            obtain ⟨g2, o2, a1, k1, a2, k2, hA2, hg2, hS2⟩ := env_at h.rd hy
            injection hA2 with hA2
            injection hA2 with b1 b2
            subst b1 b2
            have y0 := (hS2.below hg2 hbw).e0
            have hgq := Nat.lt_of_lt_of_le hg hbw.size
            have hpl := hP2.lt 0
            clear hS2 hy
            replace hor := Lib.hid hor
            have hS0 : (Below w2.heap.size w2 w2 ∧ w2.cell? ⟨g, o + j * 5, none⟩ = some (.string y.name) ∧ w2.cell? ⟨wq.heap.size, 0, none⟩ = some (.string x.name)) := ⟨Below.refl _ _, y0, d0_0⟩
            have keepS : ∀ v1 v2 : World, (Below w2.heap.size w2 v1 ∧ v1.cell? ⟨g, o + j * 5, none⟩ = some (.string y.name) ∧ v1.cell? ⟨wq.heap.size, 0, none⟩ = some (.string x.name)) → Below v1.heap.size v1 v2 → (Below w2.heap.size w2 v2 ∧ v2.cell? ⟨g, o + j * 5, none⟩ = some (.string y.name) ∧ v2.cell? ⟨wq.heap.size, 0, none⟩ = some (.string x.name)) := fun v1 v2 h hb => ⟨h.1.trans (hb.mono h.1.size), (hb.cell (p := ⟨g, _, none⟩) (Nat.lt_of_lt_of_le hgq h.1.size)).trans h.2.1, (hb.cell (p := ⟨wq.heap.size, _, none⟩) (Nat.lt_of_lt_of_le hpl h.1.size)).trans h.2.2⟩
            have hS1 : (Below w2.heap.size w2 w2.drew ∧ w2.drew.cell? ⟨g, o + j * 5, none⟩ = some (.string y.name) ∧ w2.drew.cell? ⟨wq.heap.size, 0, none⟩ = some (.string x.name)) := keepS _ _ hS0 ((Below.refl _ _).drew)
            replace keepS := Lib.hid keepS
            clear hS0
            refine wp_region_held_drew (S := fun w' => Below w2.heap.size w2 w' ∧ w'.cell? ⟨g, o + j * 5, none⟩ = some (.string y.name) ∧ w'.cell? ⟨wq.heap.size, 0, none⟩ = some (.string x.name)) (by kernel_rfl) ?_ (fun hHeld => ?_)
            · (try dsimp only)
              exact hS1
            refine tkY 0 (v := ?v58) rfl (.inl ⟨by rfl, ?hy58⟩) ?hr58
            case hy58 => (intro w hSw; (try dsimp only at hSw); go_simp; try with_reducible rfl)
            simp only [Act.put, List.getElem_toArray, List.getElem_cons_zero, List.setIfInBounds_toArray, List.set_cons_zero, List.set_cons_succ]
            refine tkY 1 (v := ?v59) rfl (.inl ⟨by rfl, ?hy59⟩) ?hr59
            case hy59 => (intro w hSw; (try dsimp only at hSw); go_simp; try with_reducible rfl)
            simp only [Act.put, List.getElem_toArray, List.getElem_cons_zero, List.getElem_cons_succ, List.setIfInBounds_toArray, List.set_cons_zero, List.set_cons_succ]
            refine tkY 2 (v := ?v60) rfl (.inl ⟨by rfl, ?hy60⟩) ?hr60
            case hy60 => (intro w hSw; (try dsimp only at hSw); go_simp; try with_reducible rfl)
            simp only [Act.put, List.getElem_toArray, List.getElem_cons_zero, List.getElem_cons_succ, List.setIfInBounds_toArray, List.set_cons_zero, List.set_cons_succ]
            refine tkY 3 (v := ?v61) rfl (.inl ⟨by rfl, ?hy61⟩) ?hr61
            case hy61 => (intro w hSw; (try dsimp only at hSw); go_simp; try with_reducible rfl)
            simp only [Act.put, List.getElem_toArray, List.getElem_cons_zero, List.getElem_cons_succ, List.setIfInBounds_toArray, List.set_cons_zero, List.set_cons_succ]
            refine tkY 4 (v := ?v62) rfl (.inl ⟨by rfl, ?hy62⟩) ?hr62
            case hy62 => (intro w hSw; (try dsimp only at hSw); go_simp; try with_reducible rfl)
            simp only [Act.put, List.getElem_toArray, List.getElem_cons_zero, List.getElem_cons_succ, List.setIfInBounds_toArray, List.set_cons_zero, List.set_cons_succ]
            refine tkY 5 (v := ?v63) rfl (.inl ⟨by rfl, ?hy63⟩) ?hr63
            case hy63 => (intro w hSw; (try dsimp only at hSw); go_simp; try with_reducible rfl)
            simp only [Act.put, List.getElem_toArray, List.getElem_cons_zero, List.getElem_cons_succ, List.setIfInBounds_toArray, List.set_cons_zero, List.set_cons_succ]
            refine tkY 6 (v := ?v64) rfl (.inl ⟨by rfl, ?hy64⟩) ?hr64
            case hy64 => (intro w hSw; (try dsimp only at hSw); go_simp; try with_reducible rfl)
            simp only [Act.put, List.getElem_toArray, List.getElem_cons_zero, List.getElem_cons_succ, List.setIfInBounds_toArray, List.set_cons_zero, List.set_cons_succ]
            refine tkY 7 (v := ?v65) rfl (.inl ⟨by rfl, ?hy65⟩) ?hr65
            case hy65 => (intro w hSw; (try dsimp only at hSw); go_simp; try with_reducible rfl)
            simp only [Act.put, List.getElem_toArray, List.getElem_cons_zero, List.getElem_cons_succ, List.setIfInBounds_toArray, List.set_cons_zero, List.set_cons_succ]
            refine tkY 8 (v := ?v66) rfl (.inl ⟨by rfl, ?hy66⟩) ?hr66
            case hy66 => (intro w hSw; (try dsimp only at hSw); go_simp; try with_reducible rfl)
            simp only [Act.put, List.getElem_toArray, List.getElem_cons_zero, List.getElem_cons_succ, List.setIfInBounds_toArray, List.set_cons_zero, List.set_cons_succ]
            refine tkY 9 (v := ?v67) rfl (.inl ⟨by rfl, ?hy67⟩) ?hr67
            case hy67 => (intro w hSw; (try dsimp only at hSw); go_simp; try with_reducible rfl)
            simp only [Act.put, List.getElem_toArray, List.getElem_cons_zero, List.getElem_cons_succ, List.setIfInBounds_toArray, List.set_cons_zero, List.set_cons_succ]
            refine tkY 10 (v := ?v68) rfl (.inl ⟨by rfl, ?hy68⟩) ?hr68
            case hy68 => (intro w hSw; (try dsimp only at hSw); go_simp; try with_reducible rfl)
            simp only [Act.put, List.getElem_toArray, List.getElem_cons_zero, List.getElem_cons_succ, List.setIfInBounds_toArray, List.set_cons_zero, List.set_cons_succ]
            refine wpAnyH_ready (rs := [11]) (by kernel_rfl) (by simp) ?_
            refine AllReadyH.cons rfl (fun K hK => ?_) AllReadyH.nil
            go_simp
            go_at_call 31
            refine (compare_any y.name x.name _ (by omega) (by omega)).mono ?_
            rintro e r1 ⟨rfl, hbq⟩
            dsimp only
            refine hK.out _ _ ?_ (fun hHeld => ?_)
            · (try dsimp only)
              exact keepS.out _ _ hHeld hbq
            clear hK K
            try simp only [Act.put, List.getElem_toArray, List.getElem_cons_zero, List.getElem_cons_succ, List.setIfInBounds_toArray, List.set_cons_zero, List.set_cons_succ]
            refine tkY 12 (v := ?v69) rfl (.inl ⟨by rfl, ?hy69⟩) ?hr69
            case hy69 => (intro w hSw; (try dsimp only at hSw); go_simp; try with_reducible rfl)
            simp only [Act.put, List.getElem_toArray, List.getElem_cons_zero, List.getElem_cons_succ, List.setIfInBounds_toArray, List.set_cons_zero, List.set_cons_succ]
            refine tkY 13 (v := ?v70) rfl (.inl ⟨by rfl, ?hy70⟩) ?hr70
            case hy70 => (intro w hSw; (try dsimp only at hSw); go_simp; try with_reducible rfl)
            simp only [Act.put, List.getElem_toArray, List.getElem_cons_zero, List.getElem_cons_succ, List.setIfInBounds_toArray, List.set_cons_zero, List.set_cons_succ]
            refine wpAnyH_done (by kernel_rfl) ?_ _
            have hbW := hHeld.1
            clear hHeld hS1 keepS
            (try repeat' ((fail_if_success at_builtin); (first | go_skip | go_guarded | go_step)))
            go_meet
            case rel => exact ⟨_, rfl, by rw [hor.out] <;> rfl, hbW⟩
        case rest =>
          obtain ⟨r1, rfl, rfl, hb3⟩ := hcut
          replace hbw := hbw.trans (hb3.mono hbw.size)
          replace hsw := hsw.kept hb3
          have zr1 := hb3.size
          have hP3 : OwnB wq r1 [(wq.heap.size, [.string x.name, .string x.holder.run, .string x.holder.job, .slice A1 x.waiting.length c1, .slice A2 x.history.length c2])] := hP2.kept hb3
          clear d0_0 d0_1 d0_2 d0_3 d0_4 df0 hP2
          have d0_0 : r1.cell? ⟨wq.heap.size, 0, none⟩ = some (.string x.name) := hP3.c 0 0
          have d0_1 : r1.cell? ⟨wq.heap.size, 1, none⟩ = some (.string x.holder.run) := hP3.c 0 1
          have d0_2 : r1.cell? ⟨wq.heap.size, 2, none⟩ = some (.string x.holder.job) := hP3.c 0 2
          have d0_3 : r1.cell? ⟨wq.heap.size, 3, none⟩ = some (.slice A1 x.waiting.length c1) := hP3.c 0 3
          have d0_4 : r1.cell? ⟨wq.heap.size, 4, none⟩ = some (.slice A2 x.history.length c2) := hP3.c 0 4
          have df0 := hP3.fr 0
          cases ho : ordF (l.take i) x with
          | true =>
            have hr : validL l = 22 := by
              have := hp.out
              rw [ho, if_pos rfl, if_neg (by decide)] at this
              exact this
            replace hr := Lib.hid hr
            clear hp
            repeat' ((fail_if_success at_builtin); (first | go_skip | go_guarded | go_step))
            go_ret
            exact ⟨by rw [hr.out]; rfl, hbw⟩
          | false =>
            have hp2 := hp.out
            rw [ho, if_neg (show ¬ (false = true) by decide)] at hp2
            replace hp2 := Lib.hid hp2
            clear hp ho
            have C := cloneR_any x.waiting A1 c1 r1 ((hS.wait.below rRef_ok hbw).more rRef_ok (fun _ hb => Nat.lt_of_lt_of_le hb hbw.size)) (by omega)
            replace C := Lib.hid C
            repeat' ((fail_if_success at_builtin); (first | go_skip | go_guarded | go_step))
            refine C.out.mono ?_
            clear C
            rintro e w4 ⟨B1, k1, rfl, hO⟩
            dsimp only
            have hbw0 := hbw
            have hsw0 := hsw
            have hP0 := hP3
            have hb4 := hO.bel
            replace hbw := hbw.trans (hb4.mono hbw.size)
            replace hsw := hsw.kept hb4
            have zw4 := hb4.size
            have hP4 : OwnB wq w4 [(wq.heap.size, [.string x.name, .string x.holder.run, .string x.holder.job, .slice A1 x.waiting.length c1, .slice A2 x.history.length c2])] := hP3.kept hb4
            clear d0_0 d0_1 d0_2 d0_3 d0_4 df0 hP3
            have d0_0 : w4.cell? ⟨wq.heap.size, 0, none⟩ = some (.string x.name) := hP4.c 0 0
            have d0_1 : w4.cell? ⟨wq.heap.size, 1, none⟩ = some (.string x.holder.run) := hP4.c 0 1
            have d0_2 : w4.cell? ⟨wq.heap.size, 2, none⟩ = some (.string x.holder.job) := hP4.c 0 2
            have d0_3 : w4.cell? ⟨wq.heap.size, 3, none⟩ = some (.slice A1 x.waiting.length c1) := hP4.c 0 3
            have d0_4 : w4.cell? ⟨wq.heap.size, 4, none⟩ = some (.slice A2 x.history.length c2) := hP4.c 0 4
            have df0 := hP4.fr 0
            have qE1 := qE_R x.holder zR
            have hgo : goE x = x.waiting ++ (if eqR x.holder zR = true then [] else [x.holder]) := rfl
            have hgE := goE_len x
            cases hz : eqR x.holder zR with
            | true =>
              simp only [hz] at qE1
              rw [hz, if_pos rfl, List.append_nil] at hgo
              replace hO : OwnR rRef 2 r1 w4 refT (.slice B1 x.waiting.length k1) (goE x) := by rw [hgo]; exact hO
              have hgn : (goE x).length = x.waiting.length := by rw [hgo]
              replace hgo := Lib.hid hgo
              replace hgn := Lib.hid hgn
              clear hz
              have hbad := goE_bad x
              have hRf : Refs w4 B1 (x.waiting.length) k1 (goE x) := ⟨(by have h9 := hO; rw [← hgn.out] at h9 ⊢; exact h9.slice rRef_ok), by omega⟩
              have C := cfR_any 34 (enters_of Tryd.func34 (by kernel_rfl) rfl) (fun r => !properR r) (goE x) B1 (x.waiting.length) k1 w4 hRf (fun y _ w' _ => valid1_any y w')
              rw [hbad] at C
              clear hbad
              cases hho : holdOk x with
              | false =>
                rw [hho] at C
                have hr : validL l = 1 := by
                  have := hp2.out
                  rw [hho, if_pos rfl, if_neg (by decide)] at this
                  exact this
                replace hr := Lib.hid hr
                replace C := Lib.hid C
                clear hp2 hRf
                repeat' ((fail_if_success at_builtin); (first | ((with_reducible show wpList _ _ _ _ _ _); first | refine wpList_eqS rfl rfl rfl rfl (by first | exact qE1 _ | exact qE2 _ | exact qE3 _ | exact qE4 _) (by kernel_rfl) ?_ | refine wpList_neS rfl rfl rfl rfl (by first | exact qE1 _ | exact qE2 _ | exact qE3 _ | exact qE4 _) (by kernel_rfl) ?_) | go_skip | go_guarded | go_step))
                refine C.out.mono ?_
                clear C
                rintro e w5 ⟨rfl, hb5⟩
                dsimp only
                have hbz := hbw.trans (hb5.mono hbw.size)
                repeat' ((fail_if_success at_builtin); (first | go_skip | go_guarded | go_step))
                go_ret
                exact ⟨by rw [hr.out]; rfl, hbz⟩
              | true =>
                rw [hho] at C
                have hp3 := hp2.out
                rw [hho, if_neg (show ¬ (true = false) by decide)] at hp3
                replace hp3 := Lib.hid hp3
                replace C := Lib.hid C
                clear hp2 hho
                repeat' ((fail_if_success at_builtin); (first | ((with_reducible show wpList _ _ _ _ _ _); first | refine wpList_eqS rfl rfl rfl rfl (by first | exact qE1 _ | exact qE2 _ | exact qE3 _ | exact qE4 _) (by kernel_rfl) ?_ | refine wpList_neS rfl rfl rfl rfl (by first | exact qE1 _ | exact qE2 _ | exact qE3 _ | exact qE4 _) (by kernel_rfl) ?_) | go_skip | go_guarded | go_step))
                refine C.out.mono ?_
                clear C
                rintro e w5 ⟨rfl, hb5⟩
                dsimp only
                replace hbw := hbw.trans (hb5.mono hbw.size)
                replace hsw := hsw.kept hb5
                have hO5 := hO.below rRef_ok hb5
                have zw5 := hb5.size
                have hP5 : OwnB wq w5 [(wq.heap.size, [.string x.name, .string x.holder.run, .string x.holder.job, .slice A1 x.waiting.length c1, .slice A2 x.history.length c2])] := hP4.kept hb5
                clear d0_0 d0_1 d0_2 d0_3 d0_4 df0 hP4
                have d0_0 : w5.cell? ⟨wq.heap.size, 0, none⟩ = some (.string x.name) := hP5.c 0 0
                have d0_1 : w5.cell? ⟨wq.heap.size, 1, none⟩ = some (.string x.holder.run) := hP5.c 0 1
                have d0_2 : w5.cell? ⟨wq.heap.size, 2, none⟩ = some (.string x.holder.job) := hP5.c 0 2
                have d0_3 : w5.cell? ⟨wq.heap.size, 3, none⟩ = some (.slice A1 x.waiting.length c1) := hP5.c 0 3
                have d0_4 : w5.cell? ⟨wq.heap.size, 4, none⟩ = some (.slice A2 x.history.length c2) := hP5.c 0 4
                have df0 := hP5.fr 0
                have hrs0 : RSlice rRef 2 w5 (fun b => b < w5.heap.size ∧ b ≠ w.heap.size) B1 (x.waiting.length) k1 (goE x) := by
                  have h9 := hO5
                  rw [← hgn.out] at h9 ⊢;
                  exact h9.sliceN (by have := hset.lt; have := hO5.bel.size; omega)
                have hdl := hP5.lt 0
                repeat' ((fail_if_success at_builtin); (first | go_skip | go_guarded | go_step))
                go_loopw [52] (fun u52 wr => ∃ k : Nat, k ≤ x.waiting.length ∧ u52 = .int .i64 (k : Int) ∧ w5.grownBy wr (some w.heap.size) ∧ SetR wr w.heap.size (goL (l.take i) ++ (goE x).take k) ∧ (goL (l.take i) ++ (goE x).take k).Nodup) (fun u52 _ => (x.waiting.length) - (intOf u52).toNat)
                case atStart => exact ⟨0, by omega, rfl, World.grownBy.refl _ _, by rw [List.take_zero, List.append_nil]; exact hsw, by rw [List.take_zero, List.append_nil]; exact hnd⟩
                case round =>
                  obtain ⟨k, hk, rfl, hgb, hset3, hnd3⟩ := hrel
                  have k0 : (0 : Int) ≤ (k : Int) := by omega
                  have k2 : IntKind.i64.wrap ((k : Int) + 1) = (k : Int) + 1 := IntWalk.i64_in _ (by omega)
                  have hbG := Below.own hbw hgb (Nat.le_refl _) hbw.size
                  have hMl2 := hset3.lt
                  have hglen : (goE x).length = x.waiting.length := hgn.out
                  by_cases hlt2 : k < x.waiting.length
                  · have k1 : (k : Int) < ((x.waiting.length : Nat) : Int) := by omega
                    have k1' : (k : Int) < (x.waiting.length : Int) := by omega
                    obtain ⟨y, hy⟩ : ∃ y, (goE x)[k]? = some y := ⟨_, List.getElem?_eq_getElem (by omega)⟩
                    have hyO := hxO y (List.mem_of_getElem? hy)
                    obtain ⟨g2, o2, hA2, hg2, hSy⟩ := ref_at hrs0 hy
                    have y0 := (World.cell?_of_block (a := ⟨g2, _, none⟩) (hgb.block g2 hg2.1 (fun e => hg2.2 (by injection e with e <;> exact e.symm)))).trans hSy.1
                    have y1 := (World.cell?_of_block (a := ⟨g2, _, none⟩) (hgb.block g2 hg2.1 (fun e => hg2.2 (by injection e with e <;> exact e.symm)))).trans hSy.2
                    subst hA2
                    have hsO : ∀ z ∈ goL (l.take i) ++ (goE x).take k, RefOk z := fun z hz => by
                      rcases List.mem_append.1 hz with hz | hz
                      · exact hpO z hz
                      · exact hxO z (List.mem_of_mem_take hz)
                    have hll : (goL (l.take i) ++ (goE x).take k).length < maxLen := by
                      rw [List.length_append, List.length_take]
                      unfold maxLen
                      omega
                    replace hglen := Lib.hid hglen
                    clear hSy
                    go_upto_region 17 with (fail)
                    have hba := (Below.refl wr.heap.size wr).alloc (Nat.le_refl _) (.cells #[.string y.run, .string y.job] refT)
                    have hC := CellsAt.new wr #[.string y.run, .string y.job] refT
                    generalize World.alloc wr _ = wa at *
                    have v0 := hC.cell 0 _ rfl
                    have v1 := hC.cell 1 _ rfl
                    have hsa := hset3.kept hba
                    have hga : w5.grownBy wa (some w.heap.size) := grown_trans hgb (growBelow hba)
                    have hbA := hbG.trans (hba.mono hbG.size)
                    have hlk := hsa.look hsO hyO
                    cases hhas : hasR (goL (l.take i) ++ (goE x).take k) y with
                    | true =>
                      rw [hhas] at hlk
                      have hr : validL l = 7 := by
                        have := hp3.out
                        rw [go_dup hx hy hhas, if_pos rfl, if_neg (by decide)] at this
                        exact this
                      replace hr := Lib.hid hr
                      clear hp3 hhas
                      repeat' ((fail_if_success at_builtin); (first | go_skip | go_guarded | go_step))
                      go_ret
                      exact ⟨by rw [hr.out]; rfl, hbA⟩
                    | false =>
                      rw [hhas] at hlk
                      have hnd4 := go_step' hy hnd3 hhas
                      have htk : goL (l.take i) ++ (goE x).take (k + 1) = goL (l.take i) ++ (goE x).take k ++ [y] := by rw [List.take_add_one, hy, ← List.append_assoc]; rfl
                      have hkey := kR_key hyO
                      replace hnd4 := Lib.hid hnd4
                      replace htk := Lib.hid htk
                      clear hhas y0 y1
                      repeat' ((fail_if_success at_mapUpdate); (fail_if_success at_builtin); (first | go_skip | go_guarded | go_step))
                      refine wpList_mapUpdate_own _ rfl _ _ _ 62 rfl refT 4 refKeyed Tryd.underlying62 trueR w.heap.size _ _ rfl hsa hll _ _ (kR y) rfl rfl hkey (.lit (.bool true)) [] rfl ?_
                      intro w6 hown6 hg6
                      have hset6 := SetR.snoc hown6
                      rw [← htk.out] at hset6
                      have hg7 := grown_trans hga hg6
                      repeat' ((fail_if_success at_builtin); (first | go_skip | go_guarded | go_step))
                      refine ⟨?_, ?measure⟩
                      (repeat apply Exists.intro)
                      refine ⟨?rel, rfl⟩
                      case rel => exact ⟨k + 1, by omega, by first | rfl | go_num, hg7, hset6, hnd4.out⟩
                      case measure => (try go_num); (try simp [intOf]); (try omega)
                  · have k1 : ¬ (k : Int) < ((x.waiting.length : Nat) : Int) := by omega
                    have k1' : ¬ (k : Int) < (x.waiting.length : Int) := by omega
                    rw [show (goE x).take k = goE x from List.take_of_length_le (by omega)] at hset3 hnd3
                    have hdf := go_nodup hx hnd3
                    rw [← goL_take hx] at hset3 hnd3
                    have hp4 := hp3.out
                    rw [hdf, if_neg (show ¬ (false = true) by decide)] at hp4
                    clear hp3 hdf hsw hO5
                    have d0_4 := (World.cell?_of_block (a := ⟨wq.heap.size, 4, none⟩) (hgb.block wq.heap.size hdl (fun e => by injection e with e; omega))).trans d0_4
                    have hDp : Deps wr A2 x.history.length c2 x.history := ⟨(hS.hist.below rDep_ok hbG).more rDep_ok (fun _ hp => Nat.lt_of_lt_of_le hp hbG.size), hxW.hist⟩
                    have C := deployments_any x.history A2 x.history.length c2 wr hDp
                    generalize histF x.history = er at *
                    replace C := Lib.hid C
                    obtain ⟨wz, hwz⟩ : ∃ wz, wz = wr := ⟨wr, rfl⟩
                    subst hwz
                    by_cases hez : er = 0
                    · subst hez
                      rw [if_pos rfl] at hp4
                      replace hp4 := Lib.hid hp4
                      replace hset3 := Lib.hid hset3
                      repeat' ((fail_if_success at_builtin); (first | go_skip | go_guarded | go_step))
                      refine C.out.mono ?_
                      clear C
                      rintro e s1 ⟨rfl, hs1⟩
                      dsimp only
                      have hbF := hbG.trans (hs1.mono hbG.size)
                      have hsF := hset3.out.kept hs1
                      repeat' ((fail_if_success at_builtin); (first | go_skip | go_guarded | go_step))
                      go_roundw
                      case rel => exact ⟨i + 1, by omega, by first | rfl | go_num, hbF, hsF, hnd3, hp4.out⟩
                      case measure => (try go_num); (try simp [intOf]); (try omega)
                    · rw [if_neg hez] at hp4
                      have hez2 : (er == 0) = false := beq_false_of_ne hez
                      have hez3 : (er != 0) = true := by simpa using hez
                      have hr := Lib.hid hp4
                      clear hp4
                      repeat' ((fail_if_success at_builtin); (first | go_skip | go_guarded | go_step))
                      refine C.out.mono ?_
                      clear C
                      rintro e s1 ⟨rfl, hs1⟩
                      dsimp only
                      have hbF := hbG.trans (hs1.mono hbG.size)
                      repeat' ((fail_if_success at_builtin); (first | go_skip | go_guarded | go_step))
                      go_ret
                      exact ⟨by rw [hr.out]; rfl, hbF⟩
            | false =>
              simp only [hz] at qE1
              rw [hz, if_neg (show ¬ (false = true) by decide)] at hgo
              have hby : (x.waiting.length + 1) * 32 ≤ 140737488355328 := by omega
              repeat' ((fail_if_success at_builtin); (first | ((with_reducible show wpList _ _ _ _ _ _); first | refine wpList_eqS rfl rfl rfl rfl (by first | exact qE1 _ | exact qE2 _ | exact qE3 _ | exact qE4 _) (by kernel_rfl) ?_ | refine wpList_neS rfl rfl rfl rfl (by first | exact qE1 _ | exact qE2 _ | exact qE3 _ | exact qE4 _) (by kernel_rfl) ?_) | go_skip | go_guarded | go_step))
              refine wp_appR1 rRef_ok (cs := #[.string x.holder.run, .string x.holder.job]) hO (Below.refl _ _) (x := x.holder) rfl Tryd.underlying58 ref_info hby ?_
              intro v7 w7 hO7
              obtain ⟨A7, c7, rfl⟩ := hO7.form
              have hl7 : (x.waiting ++ [x.holder]).length = x.waiting.length + 1 := by rw [List.length_append]; rfl
              rw [hl7] at hO7 ⊢
              have hgn : (goE x).length = x.waiting.length + 1 := by rw [hgo]; exact hl7
              rw [← hgo] at hO7
              have hb7 := hO7.bel
              replace hbw := hbw0.trans (hb7.mono hbw0.size)
              replace hsw := hsw0.kept hb7
              replace hO := hO7
              clear hz hl7 hO7
              replace hgo := Lib.hid hgo
              replace hgn := Lib.hid hgn
              have hP5 : OwnB wq w7 [(wq.heap.size, [.string x.name, .string x.holder.run, .string x.holder.job, .slice A1 x.waiting.length c1, .slice A2 x.history.length c2])] := hP0.kept hb7
              clear d0_0 d0_1 d0_2 d0_3 d0_4 df0 hP4
              have d0_0 : w7.cell? ⟨wq.heap.size, 0, none⟩ = some (.string x.name) := hP5.c 0 0
              have d0_1 : w7.cell? ⟨wq.heap.size, 1, none⟩ = some (.string x.holder.run) := hP5.c 0 1
              have d0_2 : w7.cell? ⟨wq.heap.size, 2, none⟩ = some (.string x.holder.job) := hP5.c 0 2
              have d0_3 : w7.cell? ⟨wq.heap.size, 3, none⟩ = some (.slice A1 x.waiting.length c1) := hP5.c 0 3
              have d0_4 : w7.cell? ⟨wq.heap.size, 4, none⟩ = some (.slice A2 x.history.length c2) := hP5.c 0 4
              have df0 := hP5.fr 0
              have hbad := goE_bad x
              have hRf : Refs w7 A7 (x.waiting.length + 1) c7 (goE x) := ⟨(by have h9 := hO; rw [← hgn.out] at h9 ⊢; exact h9.slice rRef_ok), by omega⟩
              have C := cfR_any 34 (enters_of Tryd.func34 (by kernel_rfl) rfl) (fun r => !properR r) (goE x) A7 (x.waiting.length + 1) c7 w7 hRf (fun y _ w' _ => valid1_any y w')
              rw [hbad] at C
              clear hbad
              cases hho : holdOk x with
              | false =>
                rw [hho] at C
                have hr : validL l = 1 := by
                  have := hp2.out
                  rw [hho, if_pos rfl, if_neg (by decide)] at this
                  exact this
                replace hr := Lib.hid hr
                replace C := Lib.hid C
                clear hp2 hRf
                repeat' ((fail_if_success at_builtin); (first | ((with_reducible show wpList _ _ _ _ _ _); first | refine wpList_eqS rfl rfl rfl rfl (by first | exact qE1 _ | exact qE2 _ | exact qE3 _ | exact qE4 _) (by kernel_rfl) ?_ | refine wpList_neS rfl rfl rfl rfl (by first | exact qE1 _ | exact qE2 _ | exact qE3 _ | exact qE4 _) (by kernel_rfl) ?_) | go_skip | go_guarded | go_step))
                refine C.out.mono ?_
                clear C
                rintro e w5 ⟨rfl, hb5⟩
                dsimp only
                have hbz := hbw.trans (hb5.mono hbw.size)
                repeat' ((fail_if_success at_builtin); (first | go_skip | go_guarded | go_step))
                go_ret
                exact ⟨by rw [hr.out]; rfl, hbz⟩
              | true =>
                rw [hho] at C
                have hp3 := hp2.out
                rw [hho, if_neg (show ¬ (true = false) by decide)] at hp3
                replace hp3 := Lib.hid hp3
                replace C := Lib.hid C
                clear hp2 hho
                repeat' ((fail_if_success at_builtin); (first | ((with_reducible show wpList _ _ _ _ _ _); first | refine wpList_eqS rfl rfl rfl rfl (by first | exact qE1 _ | exact qE2 _ | exact qE3 _ | exact qE4 _) (by kernel_rfl) ?_ | refine wpList_neS rfl rfl rfl rfl (by first | exact qE1 _ | exact qE2 _ | exact qE3 _ | exact qE4 _) (by kernel_rfl) ?_) | go_skip | go_guarded | go_step))
                refine C.out.mono ?_
                clear C
                rintro e w5 ⟨rfl, hb5⟩
                dsimp only
                replace hbw := hbw.trans (hb5.mono hbw.size)
                replace hsw := hsw.kept hb5
                have hO5 := hO.below rRef_ok hb5
                have zw5 := hb5.size
                have hP6 : OwnB wq w5 [(wq.heap.size, [.string x.name, .string x.holder.run, .string x.holder.job, .slice A1 x.waiting.length c1, .slice A2 x.history.length c2])] := hP5.kept hb5
                clear d0_0 d0_1 d0_2 d0_3 d0_4 df0 hP5
                have d0_0 : w5.cell? ⟨wq.heap.size, 0, none⟩ = some (.string x.name) := hP6.c 0 0
                have d0_1 : w5.cell? ⟨wq.heap.size, 1, none⟩ = some (.string x.holder.run) := hP6.c 0 1
                have d0_2 : w5.cell? ⟨wq.heap.size, 2, none⟩ = some (.string x.holder.job) := hP6.c 0 2
                have d0_3 : w5.cell? ⟨wq.heap.size, 3, none⟩ = some (.slice A1 x.waiting.length c1) := hP6.c 0 3
                have d0_4 : w5.cell? ⟨wq.heap.size, 4, none⟩ = some (.slice A2 x.history.length c2) := hP6.c 0 4
                have df0 := hP6.fr 0
                have hrs0 : RSlice rRef 2 w5 (fun b => b < w5.heap.size ∧ b ≠ w.heap.size) A7 (x.waiting.length + 1) c7 (goE x) := by
                  have h9 := hO5
                  rw [← hgn.out] at h9 ⊢;
                  exact h9.sliceN (by have := hset.lt; have := hO5.bel.size; omega)
                have hdl := hP6.lt 0
                repeat' ((fail_if_success at_builtin); (first | go_skip | go_guarded | go_step))
                go_loopw [52] (fun u52 wr => ∃ k : Nat, k ≤ x.waiting.length + 1 ∧ u52 = .int .i64 (k : Int) ∧ w5.grownBy wr (some w.heap.size) ∧ SetR wr w.heap.size (goL (l.take i) ++ (goE x).take k) ∧ (goL (l.take i) ++ (goE x).take k).Nodup) (fun u52 _ => (x.waiting.length + 1) - (intOf u52).toNat)
                case atStart => exact ⟨0, by omega, rfl, World.grownBy.refl _ _, by rw [List.take_zero, List.append_nil]; exact hsw, by rw [List.take_zero, List.append_nil]; exact hnd⟩
                case round =>
                  obtain ⟨k, hk, rfl, hgb, hset3, hnd3⟩ := hrel
                  have k0 : (0 : Int) ≤ (k : Int) := by omega
                  have k2 : IntKind.i64.wrap ((k : Int) + 1) = (k : Int) + 1 := IntWalk.i64_in _ (by omega)
                  have hbG := Below.own hbw hgb (Nat.le_refl _) hbw.size
                  have hMl2 := hset3.lt
                  have hglen : (goE x).length = x.waiting.length + 1 := hgn.out
                  by_cases hlt2 : k < x.waiting.length + 1
                  · have k1 : (k : Int) < ((x.waiting.length + 1 : Nat) : Int) := by omega
                    have k1' : (k : Int) < (x.waiting.length : Int) + 1 := by omega
                    obtain ⟨y, hy⟩ : ∃ y, (goE x)[k]? = some y := ⟨_, List.getElem?_eq_getElem (by omega)⟩
                    have hyO := hxO y (List.mem_of_getElem? hy)
                    obtain ⟨g2, o2, hA2, hg2, hSy⟩ := ref_at hrs0 hy
                    have y0 := (World.cell?_of_block (a := ⟨g2, _, none⟩) (hgb.block g2 hg2.1 (fun e => hg2.2 (by injection e with e <;> exact e.symm)))).trans hSy.1
                    have y1 := (World.cell?_of_block (a := ⟨g2, _, none⟩) (hgb.block g2 hg2.1 (fun e => hg2.2 (by injection e with e <;> exact e.symm)))).trans hSy.2
                    subst hA2
                    have hsO : ∀ z ∈ goL (l.take i) ++ (goE x).take k, RefOk z := fun z hz => by
                      rcases List.mem_append.1 hz with hz | hz
                      · exact hpO z hz
                      · exact hxO z (List.mem_of_mem_take hz)
                    have hll : (goL (l.take i) ++ (goE x).take k).length < maxLen := by
                      rw [List.length_append, List.length_take]
                      unfold maxLen
                      omega
                    replace hglen := Lib.hid hglen
                    clear hSy
                    go_upto_region 17 with (fail)
                    have hba := (Below.refl wr.heap.size wr).alloc (Nat.le_refl _) (.cells #[.string y.run, .string y.job] refT)
                    have hC := CellsAt.new wr #[.string y.run, .string y.job] refT
                    generalize World.alloc wr _ = wa at *
                    have v0 := hC.cell 0 _ rfl
                    have v1 := hC.cell 1 _ rfl
                    have hsa := hset3.kept hba
                    have hga : w5.grownBy wa (some w.heap.size) := grown_trans hgb (growBelow hba)
                    have hbA := hbG.trans (hba.mono hbG.size)
                    have hlk := hsa.look hsO hyO
                    cases hhas : hasR (goL (l.take i) ++ (goE x).take k) y with
                    | true =>
                      rw [hhas] at hlk
                      have hr : validL l = 7 := by
                        have := hp3.out
                        rw [go_dup hx hy hhas, if_pos rfl, if_neg (by decide)] at this
                        exact this
                      replace hr := Lib.hid hr
                      clear hp3 hhas
                      repeat' ((fail_if_success at_builtin); (first | go_skip | go_guarded | go_step))
                      go_ret
                      exact ⟨by rw [hr.out]; rfl, hbA⟩
                    | false =>
                      rw [hhas] at hlk
                      have hnd4 := go_step' hy hnd3 hhas
                      have htk : goL (l.take i) ++ (goE x).take (k + 1) = goL (l.take i) ++ (goE x).take k ++ [y] := by rw [List.take_add_one, hy, ← List.append_assoc]; rfl
                      have hkey := kR_key hyO
                      replace hnd4 := Lib.hid hnd4
                      replace htk := Lib.hid htk
                      clear hhas y0 y1
                      repeat' ((fail_if_success at_mapUpdate); (fail_if_success at_builtin); (first | go_skip | go_guarded | go_step))
                      refine wpList_mapUpdate_own _ rfl _ _ _ 62 rfl refT 4 refKeyed Tryd.underlying62 trueR w.heap.size _ _ rfl hsa hll _ _ (kR y) rfl rfl hkey (.lit (.bool true)) [] rfl ?_
                      intro w6 hown6 hg6
                      have hset6 := SetR.snoc hown6
                      rw [← htk.out] at hset6
                      have hg7 := grown_trans hga hg6
                      repeat' ((fail_if_success at_builtin); (first | go_skip | go_guarded | go_step))
                      refine ⟨?_, ?measure⟩
                      (repeat apply Exists.intro)
                      refine ⟨?rel, rfl⟩
                      case rel => exact ⟨k + 1, by omega, by first | rfl | go_num, hg7, hset6, hnd4.out⟩
                      case measure => (try go_num); (try simp [intOf]); (try omega)
                  · have k1 : ¬ (k : Int) < ((x.waiting.length + 1 : Nat) : Int) := by omega
                    have k1' : ¬ (k : Int) < (x.waiting.length : Int) + 1 := by omega
                    rw [show (goE x).take k = goE x from List.take_of_length_le (by omega)] at hset3 hnd3
                    have hdf := go_nodup hx hnd3
                    rw [← goL_take hx] at hset3 hnd3
                    have hp4 := hp3.out
                    rw [hdf, if_neg (show ¬ (false = true) by decide)] at hp4
                    clear hp3 hdf hsw hO5
                    have d0_4 := (World.cell?_of_block (a := ⟨wq.heap.size, 4, none⟩) (hgb.block wq.heap.size hdl (fun e => by injection e with e; omega))).trans d0_4
                    have hDp : Deps wr A2 x.history.length c2 x.history := ⟨(hS.hist.below rDep_ok hbG).more rDep_ok (fun _ hp => Nat.lt_of_lt_of_le hp hbG.size), hxW.hist⟩
                    have C := deployments_any x.history A2 x.history.length c2 wr hDp
                    generalize histF x.history = er at *
                    replace C := Lib.hid C
                    obtain ⟨wz, hwz⟩ : ∃ wz, wz = wr := ⟨wr, rfl⟩
                    subst hwz
                    by_cases hez : er = 0
                    · subst hez
                      rw [if_pos rfl] at hp4
                      replace hp4 := Lib.hid hp4
                      replace hset3 := Lib.hid hset3
                      repeat' ((fail_if_success at_builtin); (first | go_skip | go_guarded | go_step))
                      refine C.out.mono ?_
                      clear C
                      rintro e s1 ⟨rfl, hs1⟩
                      dsimp only
                      have hbF := hbG.trans (hs1.mono hbG.size)
                      have hsF := hset3.out.kept hs1
                      repeat' ((fail_if_success at_builtin); (first | go_skip | go_guarded | go_step))
                      go_roundw
                      case rel => exact ⟨i + 1, by omega, by first | rfl | go_num, hbF, hsF, hnd3, hp4.out⟩
                      case measure => (try go_num); (try simp [intOf]); (try omega)
                    · rw [if_neg hez] at hp4
                      have hez2 : (er == 0) = false := beq_false_of_ne hez
                      have hez3 : (er != 0) = true := by simpa using hez
                      have hr := Lib.hid hp4
                      clear hp4
                      repeat' ((fail_if_success at_builtin); (first | go_skip | go_guarded | go_step))
                      refine C.out.mono ?_
                      clear C
                      rintro e s1 ⟨rfl, hs1⟩
                      dsimp only
                      have hbF := hbG.trans (hs1.mono hbG.size)
                      repeat' ((fail_if_success at_builtin); (first | go_skip | go_guarded | go_step))
                      go_ret
                      exact ⟨by rw [hr.out]; rfl, hbF⟩
    · have i1 : ¬ (i : Int) < (n : Int) := by omega
      have hr : validL l = 0 := by
        rw [valid_end (by have := hn.out; omega)] at hp
        exact hp
      replace hr := Lib.hid hr
      clear hp
      repeat' ((fail_if_success at_builtin); (first | go_skip | go_guarded | go_step))
      go_ret
      exact ⟨by rw [hr.out]; rfl, hb⟩
end Go.Proofs.YtennhjkhjplmoaaDoor
