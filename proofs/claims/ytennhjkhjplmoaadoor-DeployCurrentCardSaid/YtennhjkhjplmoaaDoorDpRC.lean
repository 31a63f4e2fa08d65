/- Deploy: the document's Current and Rollback. -/
import Derived.Test.YtennhjkhjplmoaaDoorDpRo
namespace Go.Proofs.YtennhjkhjplmoaaDoor
open Go.RowKit
set_option maxRecDepth 100000 in
set_option maxHeartbeats 2000000 in
theorem rcur0_any (l : List Dep) (A : Option Addr) (n c m : Nat) (w : World) (h : Deps w A n c l) (hm : m ≤ l.length) :
    Calls Tryd.prog 60 #[.slice A n c, .int .i64 (m : Int), .bool false, .int .u64 0] w fun e w' => e = .returned (.int .i64 (lastI (fun _ => true) l m)) ∧ w' = w := by
  go_enter Tryd.func60, Tryd.ntmps60
  have hn := h.rd.1
  have hl := h.len
  have w0 : IntKind.i64.wrap ((m : Int) - 1) = (m : Int) - 1 := IntWalk.i64_in _ (by omega)
  replace hn := Lib.hid hn
  repeat' ((fail_if_success at_builtin); (first | go_skip | go_guarded | go_step))
  go_loopw [9] (fun u7 wr => ∃ j : Nat, j ≤ m ∧ u7 = .int .i64 ((j : Int) - 1) ∧ wr = w ∧ lastI (fun _ => true) l m = lastI (fun _ => true) l j) (fun u7 _ => (intOf u7 + 1).toNat)
  case atStart => exact ⟨m, Nat.le_refl _, rfl, rfl, rfl⟩
  case round =>
    clear w0
    obtain ⟨j, hj, rfl, rfl, hp⟩ := hrel
    replace hp := Lib.hid hp
    cases j with
    | zero =>
      have i1 : ¬ (0 : Int) ≤ ((0 : Nat) : Int) - 1 := by omega
      have hr : lastI (fun _ => true) l m = -1 := hp.out
      replace hr := Lib.hid hr
      repeat' ((fail_if_success at_builtin); (first | go_skip | go_guarded | go_step))
      go_ret
      exact ⟨by rw [hr.out]; rfl, rfl⟩
    | succ j =>
      rw [show ((j + 1 : Nat) : Int) - 1 = (j : Int) from by omega]
      have i0 : (0 : Int) ≤ (j : Int) := by omega
      have i1 : (j : Int) < (n : Int) := by have := hn.out; omega
      have i2 : IntKind.i64.wrap ((j : Int) - 1) = (j : Int) - 1 := IntWalk.i64_in _ (by omega)
      obtain ⟨x, hx⟩ : ∃ x, l[j]? = some x := ⟨_, List.getElem?_eq_getElem (by omega)⟩
      obtain ⟨g, o, rfl, hg, hS2⟩ := dep_at h.rd hx
      have e0 := hS2.e0
      have e1 := hS2.e1
      have e2 := hS2.e2
      have e3 := hS2.e3
      have e4 := hS2.e4
      clear hS2
      replace hx := Lib.hid hx
      cases hs : (x.st == 1) with
      | false =>
        have hr := lastI_miss (f := (fun _ => true)) hx.out (by rw [hs, Bool.false_and])
        replace hr := Lib.hid hr
        repeat' ((fail_if_success at_builtin); (first | go_skip | go_guarded | go_step))
        go_roundw
        case rel => exact ⟨j, by omega, by first | rfl | go_num, by first | rfl | trivial, by rw [hp.out, hr.out]⟩
        case measure => (try go_num); (try simp [intOf]); (try omega)
      | true =>
        have hr := lastI_hit (f := (fun _ => true)) hx.out hs rfl
        rw [← hp.out] at hr
        replace hr := Lib.hid hr
        repeat' ((fail_if_success at_builtin); (first | go_skip | go_guarded | go_step))
        go_ret
        exact ⟨by rw [hr.out]; rfl, rfl⟩
set_option maxRecDepth 100000 in
set_option maxHeartbeats 2000000 in
theorem rcur1_any (v : Int) (l : List Dep) (A : Option Addr) (n c m : Nat) (w : World) (h : Deps w A n c l) (hm : m ≤ l.length) :
    Calls Tryd.prog 60 #[.slice A n c, .int .i64 (m : Int), .bool true, .int .u64 v] w fun e w' => e = .returned (.int .i64 (lastI (fun d => !(d.ver == v)) l m)) ∧ w' = w := by
  go_enter Tryd.func60, Tryd.ntmps60
  have hn := h.rd.1
  have hl := h.len
  have w0 : IntKind.i64.wrap ((m : Int) - 1) = (m : Int) - 1 := IntWalk.i64_in _ (by omega)
  replace hn := Lib.hid hn
  repeat' ((fail_if_success at_builtin); (first | go_skip | go_guarded | go_step))
  go_loopw [9] (fun u7 wr => ∃ j : Nat, j ≤ m ∧ u7 = .int .i64 ((j : Int) - 1) ∧ wr = w ∧ lastI (fun d => !(d.ver == v)) l m = lastI (fun d => !(d.ver == v)) l j) (fun u7 _ => (intOf u7 + 1).toNat)
  case atStart => exact ⟨m, Nat.le_refl _, rfl, rfl, rfl⟩
  case round =>
    clear w0
    obtain ⟨j, hj, rfl, rfl, hp⟩ := hrel
    replace hp := Lib.hid hp
    cases j with
    | zero =>
      have i1 : ¬ (0 : Int) ≤ ((0 : Nat) : Int) - 1 := by omega
      have hr : lastI (fun d => !(d.ver == v)) l m = -1 := hp.out
      replace hr := Lib.hid hr
      repeat' ((fail_if_success at_builtin); (first | go_skip | go_guarded | go_step))
      go_ret
      exact ⟨by rw [hr.out]; rfl, rfl⟩
    | succ j =>
      rw [show ((j + 1 : Nat) : Int) - 1 = (j : Int) from by omega]
      have i0 : (0 : Int) ≤ (j : Int) := by omega
      have i1 : (j : Int) < (n : Int) := by have := hn.out; omega
      have i2 : IntKind.i64.wrap ((j : Int) - 1) = (j : Int) - 1 := IntWalk.i64_in _ (by omega)
      obtain ⟨x, hx⟩ : ∃ x, l[j]? = some x := ⟨_, List.getElem?_eq_getElem (by omega)⟩
      obtain ⟨g, o, rfl, hg, hS2⟩ := dep_at h.rd hx
      have e0 := hS2.e0
      have e1 := hS2.e1
      have e2 := hS2.e2
      have e3 := hS2.e3
      have e4 := hS2.e4
      clear hS2
      replace hx := Lib.hid hx
      cases hs : (x.st == 1) with
      | false =>
        have hr := lastI_miss (f := (fun d => !(d.ver == v))) hx.out (by rw [hs, Bool.false_and])
        replace hr := Lib.hid hr
        repeat' ((fail_if_success at_builtin); (first | go_skip | go_guarded | go_step))
        go_roundw
        case rel => exact ⟨j, by omega, by first | rfl | go_num, by first | rfl | trivial, by rw [hp.out, hr.out]⟩
        case measure => (try go_num); (try simp [intOf]); (try omega)
      | true =>
        cases hv : (x.ver == v) with
        | false =>
          have hr := lastI_hit (f := (fun d => !(d.ver == v))) hx.out hs (by rw [hv]; rfl)
          rw [← hp.out] at hr
          replace hr := Lib.hid hr
          have hv2 : (x.ver != v) = true := by unfold bne; rw [hv]; rfl
          clear hv
          repeat' ((fail_if_success at_builtin); (first | go_skip | go_guarded | go_step))
          go_ret
          exact ⟨by rw [hr.out]; rfl, rfl⟩
        | true =>
          have hr := lastI_miss (f := (fun d => !(d.ver == v))) hx.out (by rw [hv]; exact Bool.and_false _)
          replace hr := Lib.hid hr
          have hv2 : (x.ver != v) = false := by unfold bne; rw [hv]; rfl
          clear hv
          repeat' ((fail_if_success at_builtin); (first | go_skip | go_guarded | go_step))
          go_roundw
          case rel => exact ⟨j, by omega, by first | rfl | go_num, by first | rfl | trivial, by rw [hp.out, hr.out]⟩
          case measure => (try go_num); (try simp [intOf]); (try omega)
set_option maxRecDepth 100000 in
set_option maxHeartbeats 4000000 in
theorem rcurrent_any (l : List Env) (s : ByteArray) (A : Option Addr) (n c : Nat) (w : World) (h : Envs w A n c l) :
    Calls Tryd.prog 27 #[.slice A n c, .string s] w fun e w' => e = .returned (.tuple #[.agg #[.string (curL l s).1.ref.run, .string (curL l s).1.ref.job, .int .u64 (curL l s).1.ver, .int .i64 (curL l s).1.at_, .int .i64 (curL l s).1.st], .bool (curL l s).2]) ∧ Below w.heap.size w w' := by
  go_enter Tryd.func27, Tryd.ntmps27
  have hE0 := h
  go_upto_region 1 with (fail)
  generalize hx_ : World.alloc w _ = wo1
  have hO1 : OwnB w wo1 [(w.heap.size, [.string ⟨#[]⟩, .string ⟨#[]⟩, .int .u64 0, .int .i64 0, .int .i64 0])] := by rw [← hx_]; exact (OwnB.refl w).new #[.string ⟨#[]⟩, .string ⟨#[]⟩, .int .u64 0, .int .i64 0, .int .i64 0] _ (g := w.heap.size)
  have hbn : Below w.heap.size w wo1 := by rw [← hx_]; exact (Below.refl _ _).alloc (Nat.le_refl _) _
  have zwo1 : w.heap.size + 0 < wo1.heap.size := by rw [← hx_]; simp <;> omega
  clear hx_
  have c0_0 : wo1.cell? ⟨w.heap.size, 0, none⟩ = some (.string ⟨#[]⟩) := hO1.c 0 0
  have c0_1 : wo1.cell? ⟨w.heap.size, 1, none⟩ = some (.string ⟨#[]⟩) := hO1.c 0 1
  have c0_2 : wo1.cell? ⟨w.heap.size, 2, none⟩ = some (.int .u64 0) := hO1.c 0 2
  have c0_3 : wo1.cell? ⟨w.heap.size, 3, none⟩ = some (.int .i64 0) := hO1.c 0 3
  have c0_4 : wo1.cell? ⟨w.heap.size, 4, none⟩ = some (.int .i64 0) := hO1.c 0 4
  have cf0 := hO1.fr 0
  replace hE0 : Envs wo1 A n c l := hE0.below hbn
  clear hbn
  have hm : curL l s = depAt (histOf l s) (curI (histOf l s)) := rfl
  have hh : histOf l s = match l[posA (nameE s) l]? with
    | none => []
    | some x => x.history := rfl
  have C := rindex_any l s A n c wo1 hE0
  by_cases hk : posA (nameE s) l < l.length
  · rw [posI_in hk] at C
    obtain ⟨x, hx⟩ : ∃ x, l[posA (nameE s) l]? = some x := ⟨_, List.getElem?_eq_getElem hk⟩
    rw [hx] at hh
    dsimp only at hh
    rw [hh] at hm
    have hxW := hE0.each x (List.mem_of_getElem? hx)
    have hk2 : posA (nameE s) l < n := by rw [← hE0.n]; exact hk
    obtain ⟨g, o, A1, c1, A2, c2, rfl, hg, hS⟩ := env_at hE0.rd hx
    have hD : Deps wo1 A2 x.history.length c2 x.history := ⟨hS.hist, hxW.hist⟩
    have f4 := hS.e4
    clear hx hh hS hk
    generalize posA (nameE s) l = k at *
    have i0 : (0 : Int) ≤ (k : Int) := by omega
    have i1 : (k : Int) < (n : Int) := by omega
    have i3 : ¬ (k : Int) < 0 := by omega
    replace C := Lib.hid C
    repeat' ((fail_if_success at_builtin); (first | go_skip | go_guarded | go_step))
    refine C.out.mono ?_
    clear C
    rintro e w2 ⟨rfl, hw2⟩
    subst w2
    dsimp only
    have hlo := lastI_lo (fun _ => true) x.history x.history.length
    have hhi := lastI_hi (fun _ => true) x.history x.history.length
    obtain ⟨q, hq⟩ : ∃ q, q = lastI (fun _ => true) x.history x.history.length := ⟨_, rfl⟩
    have hqc : curI x.history = q := hq.symm
    rw [← hq] at hlo hhi
    have CQ : ∀ w', Deps w' A2 x.history.length c2 x.history → Calls Tryd.prog 60 #[.slice A2 x.history.length c2, .int .i64 (x.history.length : Int), .bool false, .int .u64 0] w' fun e w2 => e = .returned (.int .i64 q) ∧ w2 = w' := fun w' hd => by
      have := rcur0_any x.history A2 x.history.length c2 x.history.length w' hd (Nat.le_refl _)
      rw [← hq] at this
      exact this
    rw [hqc] at hm
    clear hq hqc
    replace CQ := Lib.hid CQ
    repeat' ((fail_if_success at_builtin); (first | go_skip | go_guarded | go_step))
    have hdr : ∀ q, Deps (wo1.drewN q) A2 x.history.length c2 x.history := fun q => hD.below (Below.drewN wo1 q)
    replace hdr := Lib.hid hdr
    go_quiet (first | (go_at_call 60; exact Calls.quiet_of_same (CQ.out _ (hdr.out _))))
    have hbq := Below.drewN wo1 nq
    generalize hw3 : wo1.drewN nq = w3 at hbq
    clear hw3
    have hD3 := hD.below hbq
    have hE3 := hE0.below hbq
    have zw3 := hbq.size
    have hO2 : OwnB w w3 [(w.heap.size, [.string ⟨#[]⟩, .string ⟨#[]⟩, .int .u64 0, .int .i64 0, .int .i64 0])] := hO1.kept hbq
    clear c0_0 c0_1 c0_2 c0_3 c0_4 cf0 hO1
    have c0_0 : w3.cell? ⟨w.heap.size, 0, none⟩ = some (.string ⟨#[]⟩) := hO2.c 0 0
    have c0_1 : w3.cell? ⟨w.heap.size, 1, none⟩ = some (.string ⟨#[]⟩) := hO2.c 0 1
    have c0_2 : w3.cell? ⟨w.heap.size, 2, none⟩ = some (.int .u64 0) := hO2.c 0 2
    have c0_3 : w3.cell? ⟨w.heap.size, 3, none⟩ = some (.int .i64 0) := hO2.c 0 3
    have c0_4 : w3.cell? ⟨w.heap.size, 4, none⟩ = some (.int .i64 0) := hO2.c 0 4
    have cf0 := hO2.fr 0
    replace f4 := (hbq.cell (p := ⟨g, _, none⟩) hg).trans f4
    by_cases hq0 : q < 0
    · have hm2 : curL l s = (zD, false) := by rw [hm]; exact depAt_out hq0
      replace hm2 := Lib.hid hm2
      clear hm hD
      repeat' ((fail_if_success at_builtin); (first | go_skip | go_guarded | go_step))
      generalize hx_ : World.setCell (World.setCell (World.setCell (World.setCell (World.setCell _ _ _) _ _) _ _) _ _) _ _ = wo3
      have hO3 : OwnB w wo3 [(w.heap.size, [.string ⟨#[]⟩, .string ⟨#[]⟩, .int .u64 0, .int .i64 0, .int .i64 0])] := by rw [← hx_]; exact ((((hO2.store 0 rfl 0 _).store 0 rfl 1 _).store 0 rfl 2 _).store 0 rfl 3 _).store 0 rfl 4 _
      have zwo3 : wo3.heap.size = w3.heap.size := by rw [← hx_]; simp [World.setCell]
      clear hx_ c0_0 c0_1 c0_2 c0_3 c0_4 cf0 hO2
      have c0_0 : wo3.cell? ⟨w.heap.size, 0, none⟩ = some (.string ⟨#[]⟩) := hO3.c 0 0
      have c0_1 : wo3.cell? ⟨w.heap.size, 1, none⟩ = some (.string ⟨#[]⟩) := hO3.c 0 1
      have c0_2 : wo3.cell? ⟨w.heap.size, 2, none⟩ = some (.int .u64 0) := hO3.c 0 2
      have c0_3 : wo3.cell? ⟨w.heap.size, 3, none⟩ = some (.int .i64 0) := hO3.c 0 3
      have c0_4 : wo3.cell? ⟨w.heap.size, 4, none⟩ = some (.int .i64 0) := hO3.c 0 4
      have cf0 := hO3.fr 0
      refine bodyPost_ret (v := .tuple #[.agg #[.string ⟨#[]⟩, .string ⟨#[]⟩, .int .u64 0, .int .i64 0, .int .i64 0], .bool false]) (by simp only [results, Tryd.results27]; go_simp; first | done | exact ⟨rfl, rfl, rfl⟩ | rfl) rfl ?_
      exact ⟨by rw [hm2.out] <;> rfl, hO3.below⟩
    · obtain ⟨k2, rfl⟩ : ∃ k : Nat, q = (k : Int) := ⟨q.toNat, by omega⟩
      obtain ⟨y, hy⟩ : ∃ y, x.history[k2]? = some y := ⟨_, List.getElem?_eq_getElem (by omega)⟩
      have hm2 : curL l s = (y, true) := by rw [hm]; exact depAt_in hy
      replace hm2 := Lib.hid hm2
      obtain ⟨g2, o2, hA2, hg2, hS2⟩ := dep_at hD3.rd hy
      subst hA2
      have e0 := hS2.e0
      have e1 := hS2.e1
      have e2 := hS2.e2
      have e3 := hS2.e3
      have e4 := hS2.e4
      have j0 : (0 : Int) ≤ (k2 : Int) := by omega
      have j1 : (k2 : Int) < (x.history.length : Int) := by omega
      clear hm hD hD3 hS2 hy hlo hhi
      repeat' ((fail_if_success at_builtin); (first | go_skip | go_guarded | go_step))
      generalize hx_ : World.setCell (World.setCell (World.setCell (World.setCell (World.setCell _ _ _) _ _) _ _) _ _) _ _ = wo3
      have hO3 : OwnB w wo3 [(w.heap.size, [.string y.ref.run, .string y.ref.job, .int .u64 y.ver, .int .i64 y.at_, .int .i64 y.st])] := by rw [← hx_]; exact ((((hO2.store 0 rfl 0 _).store 0 rfl 1 _).store 0 rfl 2 _).store 0 rfl 3 _).store 0 rfl 4 _
      have zwo3 : wo3.heap.size = w3.heap.size := by rw [← hx_]; simp [World.setCell]
      clear hx_ c0_0 c0_1 c0_2 c0_3 c0_4 cf0 hO2
      have c0_0 : wo3.cell? ⟨w.heap.size, 0, none⟩ = some (.string y.ref.run) := hO3.c 0 0
      have c0_1 : wo3.cell? ⟨w.heap.size, 1, none⟩ = some (.string y.ref.job) := hO3.c 0 1
      have c0_2 : wo3.cell? ⟨w.heap.size, 2, none⟩ = some (.int .u64 y.ver) := hO3.c 0 2
      have c0_3 : wo3.cell? ⟨w.heap.size, 3, none⟩ = some (.int .i64 y.at_) := hO3.c 0 3
      have c0_4 : wo3.cell? ⟨w.heap.size, 4, none⟩ = some (.int .i64 y.st) := hO3.c 0 4
      have cf0 := hO3.fr 0
      refine bodyPost_ret (v := .tuple #[.agg #[.string y.ref.run, .string y.ref.job, .int .u64 y.ver, .int .i64 y.at_, .int .i64 y.st], .bool true]) (by simp only [results, Tryd.results27]; go_simp; first | done | exact ⟨rfl, rfl, rfl⟩ | rfl) rfl ?_
      exact ⟨by rw [hm2.out] <;> rfl, hO3.below⟩
  · rw [posI_out hk] at C
    rw [List.getElem?_eq_none (by omega)] at hh
    dsimp only at hh
    rw [hh] at hm
    have hm2 : curL l s = (zD, false) := hm
    replace hm2 := Lib.hid hm2
    clear hm hh hk
    replace C := Lib.hid C
    repeat' ((fail_if_success at_builtin); (first | go_skip | go_guarded | go_step))
    refine C.out.mono ?_
    clear C
    rintro e w2 ⟨rfl, hw2⟩
    subst w2
    dsimp only
    repeat' ((fail_if_success at_builtin); (first | go_skip | go_guarded | go_step))
    generalize hx_ : World.setCell (World.setCell (World.setCell (World.setCell (World.setCell _ _ _) _ _) _ _) _ _) _ _ = wo2
    have hO2 : OwnB w wo2 [(w.heap.size, [.string ⟨#[]⟩, .string ⟨#[]⟩, .int .u64 0, .int .i64 0, .int .i64 0])] := by rw [← hx_]; exact ((((hO1.store 0 rfl 0 _).store 0 rfl 1 _).store 0 rfl 2 _).store 0 rfl 3 _).store 0 rfl 4 _
    have zwo2 : wo2.heap.size = wo1.heap.size := by rw [← hx_]; simp [World.setCell]
    clear hx_ c0_0 c0_1 c0_2 c0_3 c0_4 cf0 hO1
    have c0_0 : wo2.cell? ⟨w.heap.size, 0, none⟩ = some (.string ⟨#[]⟩) := hO2.c 0 0
    have c0_1 : wo2.cell? ⟨w.heap.size, 1, none⟩ = some (.string ⟨#[]⟩) := hO2.c 0 1
    have c0_2 : wo2.cell? ⟨w.heap.size, 2, none⟩ = some (.int .u64 0) := hO2.c 0 2
    have c0_3 : wo2.cell? ⟨w.heap.size, 3, none⟩ = some (.int .i64 0) := hO2.c 0 3
    have c0_4 : wo2.cell? ⟨w.heap.size, 4, none⟩ = some (.int .i64 0) := hO2.c 0 4
    have cf0 := hO2.fr 0
    refine bodyPost_ret (v := .tuple #[.agg #[.string ⟨#[]⟩, .string ⟨#[]⟩, .int .u64 0, .int .i64 0, .int .i64 0], .bool false]) (by simp only [results, Tryd.results27]; go_simp; first | done | exact ⟨rfl, rfl, rfl⟩ | rfl) rfl ?_
    exact ⟨by rw [hm2.out] <;> rfl, hO2.below⟩
set_option maxRecDepth 100000 in
set_option maxHeartbeats 4000000 in
theorem rrollback_any (l : List Env) (s : ByteArray) (A : Option Addr) (n c : Nat) (w : World) (h : Envs w A n c l) :
    Calls Tryd.prog 29 #[.slice A n c, .string s] w fun e w' => e = .returned (.tuple #[.agg #[.string (backL l s).1.ref.run, .string (backL l s).1.ref.job, .int .u64 (backL l s).1.ver, .int .i64 (backL l s).1.at_, .int .i64 (backL l s).1.st], .bool (backL l s).2]) ∧ Below w.heap.size w w' := by
  go_enter Tryd.func29, Tryd.ntmps29
  have hE0 := h
  go_upto_region 1 with (fail)
  generalize hx_ : World.alloc w _ = wo1
  have hO1 : OwnB w wo1 [(w.heap.size, [.string ⟨#[]⟩, .string ⟨#[]⟩, .int .u64 0, .int .i64 0, .int .i64 0])] := by rw [← hx_]; exact (OwnB.refl w).new #[.string ⟨#[]⟩, .string ⟨#[]⟩, .int .u64 0, .int .i64 0, .int .i64 0] _ (g := w.heap.size)
  have hbn : Below w.heap.size w wo1 := by rw [← hx_]; exact (Below.refl _ _).alloc (Nat.le_refl _) _
  have zwo1 : w.heap.size + 0 < wo1.heap.size := by rw [← hx_]; simp <;> omega
  clear hx_
  have c0_0 : wo1.cell? ⟨w.heap.size, 0, none⟩ = some (.string ⟨#[]⟩) := hO1.c 0 0
  have c0_1 : wo1.cell? ⟨w.heap.size, 1, none⟩ = some (.string ⟨#[]⟩) := hO1.c 0 1
  have c0_2 : wo1.cell? ⟨w.heap.size, 2, none⟩ = some (.int .u64 0) := hO1.c 0 2
  have c0_3 : wo1.cell? ⟨w.heap.size, 3, none⟩ = some (.int .i64 0) := hO1.c 0 3
  have c0_4 : wo1.cell? ⟨w.heap.size, 4, none⟩ = some (.int .i64 0) := hO1.c 0 4
  have cf0 := hO1.fr 0
  replace hE0 : Envs wo1 A n c l := hE0.below hbn
  clear hbn
  have hm : backL l s = depAt (histOf l s) (backI (histOf l s)) := rfl
  have hh : histOf l s = match l[posA (nameE s) l]? with
    | none => []
    | some x => x.history := rfl
  have C := rindex_any l s A n c wo1 hE0
  by_cases hk : posA (nameE s) l < l.length
  · rw [posI_in hk] at C
    obtain ⟨x, hx⟩ : ∃ x, l[posA (nameE s) l]? = some x := ⟨_, List.getElem?_eq_getElem hk⟩
    rw [hx] at hh
    dsimp only at hh
    rw [hh] at hm
    have hxW := hE0.each x (List.mem_of_getElem? hx)
    have hk2 : posA (nameE s) l < n := by rw [← hE0.n]; exact hk
    obtain ⟨g, o, A1, c1, A2, c2, rfl, hg, hS⟩ := env_at hE0.rd hx
    have hD : Deps wo1 A2 x.history.length c2 x.history := ⟨hS.hist, hxW.hist⟩
    have f4 := hS.e4
    clear hx hh hS hk
    generalize posA (nameE s) l = k at *
    have i0 : (0 : Int) ≤ (k : Int) := by omega
    have i1 : (k : Int) < (n : Int) := by omega
    have i3 : ¬ (k : Int) < 0 := by omega
    replace C := Lib.hid C
    repeat' ((fail_if_success at_builtin); (first | go_skip | go_guarded | go_step))
    refine C.out.mono ?_
    clear C
    rintro e w2 ⟨rfl, hw2⟩
    subst w2
    dsimp only
    have hlo := lastI_lo (fun _ => true) x.history x.history.length
    have hhi := lastI_hi (fun _ => true) x.history x.history.length
    have C := rcur0_any x.history A2 x.history.length c2 x.history.length wo1 hD (Nat.le_refl _)
    have hbk : backI x.history = if curI x.history < 0 then -1 else lastI (fun d => !(d.ver == (depAt x.history (curI x.history)).1.ver)) x.history (curI x.history).toNat := rfl
    rw [show lastI (fun _ => true) x.history x.history.length = curI x.history from rfl] at hlo hhi C
    generalize curI x.history = q at *
    replace C := Lib.hid C
    repeat' ((fail_if_success at_builtin); (first | go_skip | go_guarded | go_step))
    refine C.out.mono ?_
    clear C
    rintro e w2 ⟨rfl, hw2⟩
    subst w2
    dsimp only
    by_cases hq0 : q < 0
    · have hm2 : backL l s = (zD, false) := by rw [hm, hbk, if_pos hq0]; exact depAt_out (by omega)
      replace hm2 := Lib.hid hm2
      clear hm hD hbk
      repeat' ((fail_if_success at_builtin); (first | go_skip | go_guarded | go_step))
      generalize hx_ : World.setCell (World.setCell (World.setCell (World.setCell (World.setCell _ _ _) _ _) _ _) _ _) _ _ = wo2
      have hO2 : OwnB w wo2 [(w.heap.size, [.string ⟨#[]⟩, .string ⟨#[]⟩, .int .u64 0, .int .i64 0, .int .i64 0])] := by rw [← hx_]; exact ((((hO1.store 0 rfl 0 _).store 0 rfl 1 _).store 0 rfl 2 _).store 0 rfl 3 _).store 0 rfl 4 _
      have zwo2 : wo2.heap.size = wo1.heap.size := by rw [← hx_]; simp [World.setCell]
      clear hx_ c0_0 c0_1 c0_2 c0_3 c0_4 cf0 hO1
      have c0_0 : wo2.cell? ⟨w.heap.size, 0, none⟩ = some (.string ⟨#[]⟩) := hO2.c 0 0
      have c0_1 : wo2.cell? ⟨w.heap.size, 1, none⟩ = some (.string ⟨#[]⟩) := hO2.c 0 1
      have c0_2 : wo2.cell? ⟨w.heap.size, 2, none⟩ = some (.int .u64 0) := hO2.c 0 2
      have c0_3 : wo2.cell? ⟨w.heap.size, 3, none⟩ = some (.int .i64 0) := hO2.c 0 3
      have c0_4 : wo2.cell? ⟨w.heap.size, 4, none⟩ = some (.int .i64 0) := hO2.c 0 4
      have cf0 := hO2.fr 0
      refine bodyPost_ret (v := .tuple #[.agg #[.string ⟨#[]⟩, .string ⟨#[]⟩, .int .u64 0, .int .i64 0, .int .i64 0], .bool false]) (by simp only [results, Tryd.results29]; go_simp; first | done | exact ⟨rfl, rfl, rfl⟩ | rfl) rfl ?_
      exact ⟨by rw [hm2.out] <;> rfl, hO2.below⟩
    · obtain ⟨k2, rfl⟩ : ∃ k : Nat, q = (k : Int) := ⟨q.toNat, by omega⟩
      obtain ⟨y, hy⟩ : ∃ y, x.history[k2]? = some y := ⟨_, List.getElem?_eq_getElem (by omega)⟩
      rw [if_neg hq0, depAt_in hy, Int.toNat_natCast] at hbk
      dsimp only at hbk
      rw [hbk] at hm
      clear hbk
      obtain ⟨g2, o2, hA2, hg2, hS2⟩ := dep_at hD.rd hy
      subst hA2
      have e2 := hS2.e2
      have j0 : (0 : Int) ≤ (k2 : Int) := by omega
      have j1 : (k2 : Int) < (x.history.length : Int) := by omega
      have C := rcur1_any y.ver x.history (some ⟨g2, o2, none⟩) x.history.length c2 k2 wo1 hD (by omega)
      have hlo2 := lastI_lo (fun d => !(d.ver == y.ver)) x.history k2
      have hhi2 := lastI_hi (fun d => !(d.ver == y.ver)) x.history k2
      generalize lastI (fun d => !(d.ver == y.ver)) x.history k2 = q2 at *
      clear hS2 hy
      replace C := Lib.hid C
      repeat' ((fail_if_success at_builtin); (first | go_skip | go_guarded | go_step))
      refine C.out.mono ?_
      clear C
      rintro e w2 ⟨rfl, hw2⟩
      subst w2
      dsimp only
      clear e2 hq0 hlo hhi
      by_cases hq3 : q2 < 0
      · have hm2 : backL l s = (zD, false) := by rw [hm]; exact depAt_out hq3
        replace hm2 := Lib.hid hm2
        clear hm hD
        repeat' ((fail_if_success at_builtin); (first | go_skip | go_guarded | go_step))
        generalize hx_ : World.setCell (World.setCell (World.setCell (World.setCell (World.setCell _ _ _) _ _) _ _) _ _) _ _ = wo2
        have hO2 : OwnB w wo2 [(w.heap.size, [.string ⟨#[]⟩, .string ⟨#[]⟩, .int .u64 0, .int .i64 0, .int .i64 0])] := by rw [← hx_]; exact ((((hO1.store 0 rfl 0 _).store 0 rfl 1 _).store 0 rfl 2 _).store 0 rfl 3 _).store 0 rfl 4 _
        have zwo2 : wo2.heap.size = wo1.heap.size := by rw [← hx_]; simp [World.setCell]
        clear hx_ c0_0 c0_1 c0_2 c0_3 c0_4 cf0 hO1
        have c0_0 : wo2.cell? ⟨w.heap.size, 0, none⟩ = some (.string ⟨#[]⟩) := hO2.c 0 0
        have c0_1 : wo2.cell? ⟨w.heap.size, 1, none⟩ = some (.string ⟨#[]⟩) := hO2.c 0 1
        have c0_2 : wo2.cell? ⟨w.heap.size, 2, none⟩ = some (.int .u64 0) := hO2.c 0 2
        have c0_3 : wo2.cell? ⟨w.heap.size, 3, none⟩ = some (.int .i64 0) := hO2.c 0 3
        have c0_4 : wo2.cell? ⟨w.heap.size, 4, none⟩ = some (.int .i64 0) := hO2.c 0 4
        have cf0 := hO2.fr 0
        refine bodyPost_ret (v := .tuple #[.agg #[.string ⟨#[]⟩, .string ⟨#[]⟩, .int .u64 0, .int .i64 0, .int .i64 0], .bool false]) (by simp only [results, Tryd.results29]; go_simp; first | done | exact ⟨rfl, rfl, rfl⟩ | rfl) rfl ?_
        exact ⟨by rw [hm2.out] <;> rfl, hO2.below⟩
      · obtain ⟨k3, rfl⟩ : ∃ k : Nat, q2 = (k : Int) := ⟨q2.toNat, by omega⟩
        obtain ⟨z, hz⟩ : ∃ y, x.history[k3]? = some y := ⟨_, List.getElem?_eq_getElem (by omega)⟩
        have hm2 : backL l s = (z, true) := by rw [hm]; exact depAt_in hz
        replace hm2 := Lib.hid hm2
        obtain ⟨g3, o3, hA3, hg3, hS3⟩ := dep_at hD.rd hz
        injection hA3 with hA3
        injection hA3 with a1 a2
        subst a1 a2
        have e0 := hS3.e0
        have e1 := hS3.e1
        have e2 := hS3.e2
        have e3 := hS3.e3
        have e4 := hS3.e4
        have m0 : (0 : Int) ≤ (k3 : Int) := by omega
        have m1 : (k3 : Int) < (x.history.length : Int) := by omega
        clear hm hD hS3 hz hlo2 hhi2
        repeat' ((fail_if_success at_builtin); (first | go_skip | go_guarded | go_step))
        generalize hx_ : World.setCell (World.setCell (World.setCell (World.setCell (World.setCell _ _ _) _ _) _ _) _ _) _ _ = wo2
        have hO2 : OwnB w wo2 [(w.heap.size, [.string z.ref.run, .string z.ref.job, .int .u64 z.ver, .int .i64 z.at_, .int .i64 z.st])] := by rw [← hx_]; exact ((((hO1.store 0 rfl 0 _).store 0 rfl 1 _).store 0 rfl 2 _).store 0 rfl 3 _).store 0 rfl 4 _
        have zwo2 : wo2.heap.size = wo1.heap.size := by rw [← hx_]; simp [World.setCell]
        clear hx_ c0_0 c0_1 c0_2 c0_3 c0_4 cf0 hO1
        have c0_0 : wo2.cell? ⟨w.heap.size, 0, none⟩ = some (.string z.ref.run) := hO2.c 0 0
        have c0_1 : wo2.cell? ⟨w.heap.size, 1, none⟩ = some (.string z.ref.job) := hO2.c 0 1
        have c0_2 : wo2.cell? ⟨w.heap.size, 2, none⟩ = some (.int .u64 z.ver) := hO2.c 0 2
        have c0_3 : wo2.cell? ⟨w.heap.size, 3, none⟩ = some (.int .i64 z.at_) := hO2.c 0 3
        have c0_4 : wo2.cell? ⟨w.heap.size, 4, none⟩ = some (.int .i64 z.st) := hO2.c 0 4
        have cf0 := hO2.fr 0
        refine bodyPost_ret (v := .tuple #[.agg #[.string z.ref.run, .string z.ref.job, .int .u64 z.ver, .int .i64 z.at_, .int .i64 z.st], .bool true]) (by simp only [results, Tryd.results29]; go_simp; first | done | exact ⟨rfl, rfl, rfl⟩ | rfl) rfl ?_
        exact ⟨by rw [hm2.out] <;> rfl, hO2.below⟩
  · rw [posI_out hk] at C
    rw [List.getElem?_eq_none (by omega)] at hh
    dsimp only at hh
    rw [hh] at hm
    have hm2 : backL l s = (zD, false) := hm
    replace hm2 := Lib.hid hm2
    clear hm hh hk
    replace C := Lib.hid C
    repeat' ((fail_if_success at_builtin); (first | go_skip | go_guarded | go_step))
    refine C.out.mono ?_
    clear C
    rintro e w2 ⟨rfl, hw2⟩
    subst w2
    dsimp only
    repeat' ((fail_if_success at_builtin); (first | go_skip | go_guarded | go_step))
    generalize hx_ : World.setCell (World.setCell (World.setCell (World.setCell (World.setCell _ _ _) _ _) _ _) _ _) _ _ = wo2
    have hO2 : OwnB w wo2 [(w.heap.size, [.string ⟨#[]⟩, .string ⟨#[]⟩, .int .u64 0, .int .i64 0, .int .i64 0])] := by rw [← hx_]; exact ((((hO1.store 0 rfl 0 _).store 0 rfl 1 _).store 0 rfl 2 _).store 0 rfl 3 _).store 0 rfl 4 _
    have zwo2 : wo2.heap.size = wo1.heap.size := by rw [← hx_]; simp [World.setCell]
    clear hx_ c0_0 c0_1 c0_2 c0_3 c0_4 cf0 hO1
    have c0_0 : wo2.cell? ⟨w.heap.size, 0, none⟩ = some (.string ⟨#[]⟩) := hO2.c 0 0
    have c0_1 : wo2.cell? ⟨w.heap.size, 1, none⟩ = some (.string ⟨#[]⟩) := hO2.c 0 1
    have c0_2 : wo2.cell? ⟨w.heap.size, 2, none⟩ = some (.int .u64 0) := hO2.c 0 2
    have c0_3 : wo2.cell? ⟨w.heap.size, 3, none⟩ = some (.int .i64 0) := hO2.c 0 3
    have c0_4 : wo2.cell? ⟨w.heap.size, 4, none⟩ = some (.int .i64 0) := hO2.c 0 4
    have cf0 := hO2.fr 0
    refine bodyPost_ret (v := .tuple #[.agg #[.string ⟨#[]⟩, .string ⟨#[]⟩, .int .u64 0, .int .i64 0, .int .i64 0], .bool false]) (by simp only [results, Tryd.results29]; go_simp; first | done | exact ⟨rfl, rfl, rfl⟩ | rfl) rfl ?_
    exact ⟨by rw [hm2.out] <;> rfl, hO2.below⟩
end Go.Proofs.YtennhjkhjplmoaaDoor
