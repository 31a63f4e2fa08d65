/- Deploy: last, history, Current, Rollback. Deploy: history. Deploy: Current, Rollback. -/
import Derived.Test.YtennhjkhjplmoaaDoorDpMy
namespace Go.Proofs.YtennhjkhjplmoaaDoor
open Go.RowKit
/-- a list of deployments that an argument is -/
structure Deps (w : World) (A : Option Addr) (n c : Nat) (l : List Dep) : Prop where
  rd : RSlice rDep 5 w (fun b => b < w.heap.size) A n c l
  len : l.length ≤ 1000000
theorem Deps.below {w w' : World} {A : Option Addr} {n c : Nat} {l : List Dep} (h : Deps w A n c l) (hb : Below w.heap.size w w') : Deps w' A n c l :=
  ⟨(h.rd.below rDep_ok hb).more rDep_ok (fun _ hp => Nat.lt_of_lt_of_le hp hb.size), h.len⟩
theorem lastI_hit {f : Dep → Bool} {h : List Dep} {j : Nat} {d : Dep} (hd : h[j]? = some d) (hs : (d.st == 1) = true) (hf : f d = true) : lastI f h (j + 1) = (j : Int) := by
  show (match h[j]? with | some d => if (d.st == 1 && f d) = true then (j : Int) else lastI f h j | none => lastI f h j) = _
  rw [hd]
  dsimp only
  rw [hs, hf]
  rfl
theorem lastI_miss {f : Dep → Bool} {h : List Dep} {j : Nat} {d : Dep} (hd : h[j]? = some d) (hs : (d.st == 1 && f d) = false) : lastI f h (j + 1) = lastI f h j := by
  show (match h[j]? with | some d => if (d.st == 1 && f d) = true then (j : Int) else lastI f h j | none => lastI f h j) = _
  rw [hd]
  dsimp only
  rw [hs]
  rfl
set_option maxRecDepth 100000 in
set_option maxHeartbeats 2000000 in
theorem last_any (fn p : Nat) (eg : ∀ args w, (callFunc fn args).run Tryd.prog w = .ok (.enter fn args) w) (f : Dep → Bool) (l : List Dep) (A : Option Addr) (n c m : Nat) (w : World) (h : Deps w A n c l) (hm : m ≤ l.length)
    (hf : ∀ x ∈ l, ∀ w', Below w.heap.size w w' → Calls Tryd.prog fn #[.agg #[.string x.ref.run, .string x.ref.job, .int .u64 x.ver, .int .i64 x.at_, .int .i64 x.st], .pointer (some ⟨p, 0, none⟩)] w' fun e w2 => e = .returned (.bool (f x)) ∧ Below w'.heap.size w' w2) :
    Calls Tryd.prog 61 #[.slice A n c, .int .i64 (m : Int), .func (.func fn) #[] #[.pointer (some ⟨p, 0, none⟩)]] w fun e w' => e = .returned (.int .i64 (lastI f l m)) ∧ Below w.heap.size w w' := by
  go_enter Tryd.func61, Tryd.ntmps61
  have hn := h.rd.1
  have hl := h.len
  have w0 : IntKind.i64.wrap ((m : Int) - 1) = (m : Int) - 1 := IntWalk.i64_in _ (by omega)
  replace hn := Lib.hid hn
  replace hf := Lib.hid hf
  repeat' ((fail_if_success at_builtin); (first | go_skip | go_guarded | go_step))
  go_loopw [7] (fun u7 wr => ∃ j : Nat, j ≤ m ∧ u7 = .int .i64 ((j : Int) - 1) ∧ Below w.heap.size w wr ∧ lastI f l m = lastI f l j) (fun u7 _ => (intOf u7 + 1).toNat)
  case atStart => exact ⟨m, Nat.le_refl _, rfl, Below.refl _ _, rfl⟩
  case round =>
    clear w0
    obtain ⟨j, hj, rfl, hb, hp⟩ := hrel
    replace hp := Lib.hid hp
    cases j with
    | zero =>
      have i1 : ¬ (0 : Int) ≤ ((0 : Nat) : Int) - 1 := by omega
      have hr : lastI f l m = -1 := hp.out
      replace hr := Lib.hid hr
      repeat' ((fail_if_success at_builtin); (first | go_skip | go_guarded | go_step))
      go_ret
      exact ⟨by rw [hr.out]; rfl, hb⟩
    | succ j =>
      rw [show ((j + 1 : Nat) : Int) - 1 = (j : Int) from by omega]
      have i0 : (0 : Int) ≤ (j : Int) := by omega
      have i1 : (j : Int) < (n : Int) := by have := hn.out; omega
      have i2 : IntKind.i64.wrap ((j : Int) - 1) = (j : Int) - 1 := IntWalk.i64_in _ (by omega)
      obtain ⟨x, hx⟩ : ∃ x, l[j]? = some x := ⟨_, List.getElem?_eq_getElem (by omega)⟩
      obtain ⟨g, o, rfl, hg, hS⟩ := dep_at h.rd hx
      have hS2 := hS.below hg hb
      have C := hf.out x (List.mem_of_getElem? hx) wr hb
      have e0 := hS2.e0
      have e1 := hS2.e1
      have e2 := hS2.e2
      have e3 := hS2.e3
      have e4 := hS2.e4
      clear hS hS2 hf
      replace C := Lib.hid C
      replace hx := Lib.hid hx
      cases hs : (x.st == 1) with
      | false =>
        have hr := lastI_miss (f := f) hx.out (by rw [hs, Bool.false_and])
        replace hr := Lib.hid hr
        clear C
        repeat' ((fail_if_success at_builtin); (first | go_skip | go_guarded | go_step))
        go_roundw
        case rel => exact ⟨j, by omega, by first | rfl | go_num, hb, by rw [hp.out, hr.out]⟩
        case measure => (try go_num); (try simp [intOf]); (try omega)
      | true =>
        cases hv : f x with
        | true =>
          have hr := lastI_hit (f := f) hx.out hs hv
          rw [← hp.out] at hr
          replace hr := Lib.hid hr
          repeat' ((fail_if_success at_builtin); (first | go_skip | go_guarded | go_step))
          refine C.out.mono ?_
          clear C
          rintro e w2 ⟨rfl, hb2⟩
          dsimp only
          have hb3 := hb.trans (hb2.mono hb.size)
          rw [hv]
          repeat' ((fail_if_success at_builtin); (first | go_skip | go_guarded | go_step))
          go_ret
          exact ⟨by rw [hr.out]; rfl, hb3⟩
        | false =>
          have hr := lastI_miss (f := f) hx.out (by rw [hv, Bool.and_false])
          replace hr := Lib.hid hr
          repeat' ((fail_if_success at_builtin); (first | go_skip | go_guarded | go_step))
          refine C.out.mono ?_
          clear C
          rintro e w2 ⟨rfl, hb2⟩
          dsimp only
          have hb3 := hb.trans (hb2.mono hb.size)
          rw [hv]
          repeat' ((fail_if_success at_builtin); (first | go_skip | go_guarded | go_step))
          go_roundw
          case rel => exact ⟨j, by omega, by first | rfl | go_num, hb3, by rw [hp.out, hr.out]⟩
          case measure => (try go_num); (try simp [intOf]); (try omega)
set_option maxRecDepth 100000 in
set_option maxHeartbeats 2000000 in
theorem last0_any (fn : Nat) (eg : ∀ args w, (callFunc fn args).run Tryd.prog w = .ok (.enter fn args) w) (f : Dep → Bool) (l : List Dep) (A : Option Addr) (n c m : Nat) (w : World) (h : Deps w A n c l) (hm : m ≤ l.length)
    (hf : ∀ x ∈ l, ∀ w', Below w.heap.size w w' → Calls Tryd.prog fn #[.agg #[.string x.ref.run, .string x.ref.job, .int .u64 x.ver, .int .i64 x.at_, .int .i64 x.st]] w' fun e w2 => e = .returned (.bool (f x)) ∧ Below w'.heap.size w' w2) :
    Calls Tryd.prog 61 #[.slice A n c, .int .i64 (m : Int), .func (.func fn) #[] #[]] w fun e w' => e = .returned (.int .i64 (lastI f l m)) ∧ Below w.heap.size w w' := by
  go_enter Tryd.func61, Tryd.ntmps61
  have hn := h.rd.1
  have hl := h.len
  have w0 : IntKind.i64.wrap ((m : Int) - 1) = (m : Int) - 1 := IntWalk.i64_in _ (by omega)
  replace hn := Lib.hid hn
  replace hf := Lib.hid hf
  repeat' ((fail_if_success at_builtin); (first | go_skip | go_guarded | go_step))
  go_loopw [7] (fun u7 wr => ∃ j : Nat, j ≤ m ∧ u7 = .int .i64 ((j : Int) - 1) ∧ Below w.heap.size w wr ∧ lastI f l m = lastI f l j) (fun u7 _ => (intOf u7 + 1).toNat)
  case atStart => exact ⟨m, Nat.le_refl _, rfl, Below.refl _ _, rfl⟩
  case round =>
    clear w0
    obtain ⟨j, hj, rfl, hb, hp⟩ := hrel
    replace hp := Lib.hid hp
    cases j with
    | zero =>
      have i1 : ¬ (0 : Int) ≤ ((0 : Nat) : Int) - 1 := by omega
      have hr : lastI f l m = -1 := hp.out
      replace hr := Lib.hid hr
      repeat' ((fail_if_success at_builtin); (first | go_skip | go_guarded | go_step))
      go_ret
      exact ⟨by rw [hr.out]; rfl, hb⟩
    | succ j =>
      rw [show ((j + 1 : Nat) : Int) - 1 = (j : Int) from by omega]
      have i0 : (0 : Int) ≤ (j : Int) := by omega
      have i1 : (j : Int) < (n : Int) := by have := hn.out; omega
      have i2 : IntKind.i64.wrap ((j : Int) - 1) = (j : Int) - 1 := IntWalk.i64_in _ (by omega)
      obtain ⟨x, hx⟩ : ∃ x, l[j]? = some x := ⟨_, List.getElem?_eq_getElem (by omega)⟩
      obtain ⟨g, o, rfl, hg, hS⟩ := dep_at h.rd hx
      have hS2 := hS.below hg hb
      have C := hf.out x (List.mem_of_getElem? hx) wr hb
      have e0 := hS2.e0
      have e1 := hS2.e1
      have e2 := hS2.e2
      have e3 := hS2.e3
      have e4 := hS2.e4
      clear hS hS2 hf
      replace C := Lib.hid C
      replace hx := Lib.hid hx
      cases hs : (x.st == 1) with
      | false =>
        have hr := lastI_miss (f := f) hx.out (by rw [hs, Bool.false_and])
        replace hr := Lib.hid hr
        clear C
        repeat' ((fail_if_success at_builtin); (first | go_skip | go_guarded | go_step))
        go_roundw
        case rel => exact ⟨j, by omega, by first | rfl | go_num, hb, by rw [hp.out, hr.out]⟩
        case measure => (try go_num); (try simp [intOf]); (try omega)
      | true =>
        cases hv : f x with
        | true =>
          have hr := lastI_hit (f := f) hx.out hs hv
          rw [← hp.out] at hr
          replace hr := Lib.hid hr
          repeat' ((fail_if_success at_builtin); (first | go_skip | go_guarded | go_step))
          refine C.out.mono ?_
          clear C
          rintro e w2 ⟨rfl, hb2⟩
          dsimp only
          have hb3 := hb.trans (hb2.mono hb.size)
          rw [hv]
          repeat' ((fail_if_success at_builtin); (first | go_skip | go_guarded | go_step))
          go_ret
          exact ⟨by rw [hr.out]; rfl, hb3⟩
        | false =>
          have hr := lastI_miss (f := f) hx.out (by rw [hv, Bool.and_false])
          replace hr := Lib.hid hr
          repeat' ((fail_if_success at_builtin); (first | go_skip | go_guarded | go_step))
          refine C.out.mono ?_
          clear C
          rintro e w2 ⟨rfl, hb2⟩
          dsimp only
          have hb3 := hb.trans (hb2.mono hb.size)
          rw [hv]
          repeat' ((fail_if_success at_builtin); (first | go_skip | go_guarded | go_step))
          go_roundw
          case rel => exact ⟨j, by omega, by first | rfl | go_num, hb3, by rw [hp.out, hr.out]⟩
          case measure => (try go_num); (try simp [intOf]); (try omega)
end Go.Proofs.YtennhjkhjplmoaaDoor
namespace Go.Proofs.YtennhjkhjplmoaaDoor
open Go.RowKit
set_option maxRecDepth 100000 in
set_option maxHeartbeats 2000000 in
theorem hist1_any (x : Dep) (w : World) :
    Calls Tryd.prog 81 #[.agg #[.string x.ref.run, .string x.ref.job, .int .u64 x.ver, .int .i64 x.at_, .int .i64 x.st]] w fun e w' => e = .returned (.bool (true)) ∧ Below w.heap.size w w' := by
  have hb0 := (Below.refl w.heap.size w).alloc (Nat.le_refl _) (.cells #[.string x.ref.run, .string x.ref.job, .int .u64 x.ver, .int .i64 x.at_, .int .i64 x.st] depT)
  have e0 := (CellsAt.new w #[.string x.ref.run, .string x.ref.job, .int .u64 x.ver, .int .i64 x.at_, .int .i64 x.st] depT).cell 0 _ rfl
  have e1 := (CellsAt.new w #[.string x.ref.run, .string x.ref.job, .int .u64 x.ver, .int .i64 x.at_, .int .i64 x.st] depT).cell 1 _ rfl
  have e2 := (CellsAt.new w #[.string x.ref.run, .string x.ref.job, .int .u64 x.ver, .int .i64 x.at_, .int .i64 x.st] depT).cell 2 _ rfl
  have e3 := (CellsAt.new w #[.string x.ref.run, .string x.ref.job, .int .u64 x.ver, .int .i64 x.at_, .int .i64 x.st] depT).cell 3 _ rfl
  have e4 := (CellsAt.new w #[.string x.ref.run, .string x.ref.job, .int .u64 x.ver, .int .i64 x.at_, .int .i64 x.st] depT).cell 4 _ rfl
  go_enter Tryd.func81, Tryd.ntmps81
  go_upto_region 1 with (fail)
  generalize World.alloc w _ = w1 at *
  repeat' ((fail_if_success at_builtin); (first | go_skip | go_guarded | go_step))
  go_ret
  exact ⟨rfl, hb0⟩
set_option maxRecDepth 100000 in
set_option maxHeartbeats 2000000 in
theorem roll1_any (x : Dep) (v : Int) (p : Nat) (w : World) (hp0 : w.cell? ⟨p, 0, none⟩ = some (.int .u64 v)) :
    Calls Tryd.prog 62 #[.agg #[.string x.ref.run, .string x.ref.job, .int .u64 x.ver, .int .i64 x.at_, .int .i64 x.st], .pointer (some ⟨p, 0, none⟩)] w fun e w' => e = .returned (.bool (!(x.ver == v))) ∧ Below w.heap.size w w' := by
  have hlt := World.block_lt_of_cell? w _ hp0
  dsimp only at hlt
  have hb0 := (Below.refl w.heap.size w).alloc (Nat.le_refl _) (.cells #[.string x.ref.run, .string x.ref.job, .int .u64 x.ver, .int .i64 x.at_, .int .i64 x.st] depT)
  have q0 := (hb0.cell (p := ⟨p, 0, none⟩) hlt).trans hp0
  have e0 := (CellsAt.new w #[.string x.ref.run, .string x.ref.job, .int .u64 x.ver, .int .i64 x.at_, .int .i64 x.st] depT).cell 0 _ rfl
  have e1 := (CellsAt.new w #[.string x.ref.run, .string x.ref.job, .int .u64 x.ver, .int .i64 x.at_, .int .i64 x.st] depT).cell 1 _ rfl
  have e2 := (CellsAt.new w #[.string x.ref.run, .string x.ref.job, .int .u64 x.ver, .int .i64 x.at_, .int .i64 x.st] depT).cell 2 _ rfl
  have e3 := (CellsAt.new w #[.string x.ref.run, .string x.ref.job, .int .u64 x.ver, .int .i64 x.at_, .int .i64 x.st] depT).cell 3 _ rfl
  have e4 := (CellsAt.new w #[.string x.ref.run, .string x.ref.job, .int .u64 x.ver, .int .i64 x.at_, .int .i64 x.st] depT).cell 4 _ rfl
  go_enter Tryd.func62, Tryd.ntmps62
  go_upto_region 1 with (fail)
  generalize World.alloc w _ = w1 at *
  clear hp0
  repeat' ((fail_if_success at_builtin); (first | go_skip | go_guarded | go_step))
  go_ret
  exact ⟨by first | rfl | simp, hb0⟩
theorem Deps.nil_ (w : World) : Deps w none 0 0 [] := ⟨⟨rfl, Nat.le_refl _, fun _ => rfl, [], SeqP.nil_, rfl⟩, by simp⟩
set_option maxRecDepth 100000 in
set_option maxHeartbeats 2000000 in
theorem history_any (l : List Env) (s : ByteArray) (A : Option Addr) (n c : Nat) (w : World) (h : Envs w A n c l) :
    Calls Tryd.prog 59 #[.slice A n c, .string s] w fun e w' => ∃ A' n' c', e = .returned (.tuple #[.slice A' n' c', .int .i64 (curI (histOf l s))]) ∧ Below w.heap.size w w' ∧ Deps w' A' n' c' (histOf l s) := by
  go_enter Tryd.func59, Tryd.ntmps59
  have hn := h.n
  have hl := h.len
  have hW := h.each
  have C := find_any l s A n c w h
  replace hn := Lib.hid hn
  by_cases hk : posA (nameE s) l < l.length
  · rw [posI_in hk] at C
    obtain ⟨x, hx⟩ : ∃ x, l[posA (nameE s) l]? = some x := ⟨_, List.getElem?_eq_getElem hk⟩
    have hm : histOf l s = x.history := by unfold histOf; rw [hx]
    replace hk : posA (nameE s) l < n := by rw [← hn.out]; exact hk
    have hxW := hW x (List.mem_of_getElem? hx)
    obtain ⟨g, o, A1, c1, A2, c2, rfl, hg, hS⟩ := env_at h.rd hx
    clear hx
    generalize posA (nameE s) l = k at *
    have i0 : (0 : Int) ≤ (k : Int) := by omega
    have i1 : (k : Int) < (n : Int) := by omega
    have i3 : ¬ (k : Int) < 0 := by omega
    replace C := Lib.hid C
    repeat' ((fail_if_success at_builtin); (first | go_skip | go_guarded | go_step))
    refine C.out.mono ?_
    clear C
    rintro e w2 ⟨rfl, hb2⟩
    dsimp only
    have hS2 := hS.below hg hb2
    have e4 := hS2.e4
    have hD : Deps w2 A2 x.history.length c2 x.history := ⟨hS2.hist.more rDep_ok (fun _ hp => Nat.lt_of_lt_of_le hp hb2.size), hxW.hist⟩
    have C := last0_any 81 (enters_of Tryd.func81 (by kernel_rfl) rfl) (fun _ => true) x.history A2 x.history.length c2 x.history.length w2 hD (Nat.le_refl _) (fun x _ w' _ => hist1_any x w')
    rw [show lastI (fun _ => true) x.history x.history.length = curI (histOf l s) from by rw [hm]; rfl] at C
    obtain ⟨q, hq⟩ : ∃ q, q = curI (histOf l s) := ⟨_, rfl⟩
    rw [← hq] at C
    replace hq := Lib.hid hq
    replace hm := Lib.hid hm
    replace C := Lib.hid C
    clear hS hS2
    repeat' ((fail_if_success at_builtin); (first | go_skip | go_guarded | go_step))
    refine C.out.mono ?_
    clear C
    rintro e w3 ⟨rfl, hb3⟩
    dsimp only
    repeat' ((fail_if_success at_builtin); (first | go_skip | go_guarded | go_step))
    go_ret2
    exact ⟨A2, x.history.length, c2, by rw [← hq.out]; rfl, hb2.trans (hb3.mono hb2.size), by rw [hm.out]; exact hD.below hb3⟩
  · rw [posI_out hk] at C
    have hm : histOf l s = [] := by unfold histOf; rw [List.getElem?_eq_none (by omega)]
    have hq : curI (histOf l s) = -1 := by rw [hm]; rfl
    replace hm := Lib.hid hm
    replace hq := Lib.hid hq
    replace C := Lib.hid C
    repeat' ((fail_if_success at_builtin); (first | go_skip | go_guarded | go_step))
    refine C.out.mono ?_
    clear C
    rintro e w2 ⟨rfl, hb2⟩
    dsimp only
    repeat' ((fail_if_success at_builtin); (first | go_skip | go_guarded | go_step))
    go_ret2
    exact ⟨none, 0, 0, by rw [hq.out]; rfl, hb2, by rw [hm.out]; exact Deps.nil_ _⟩
end Go.Proofs.YtennhjkhjplmoaaDoor
namespace Go.Proofs.YtennhjkhjplmoaaDoor
open Go.RowKit
theorem depAt_out {h : List Dep} {k : Int} (hk : k < 0) : depAt h k = (zD, false) := by
  unfold depAt
  rw [if_pos hk]
theorem depAt_in {h : List Dep} {k : Nat} {d : Dep} (hd : h[k]? = some d) : depAt h (k : Int) = (d, true) := by
  unfold depAt
  rw [if_neg (by omega), Int.toNat_natCast, hd]
  rfl
set_option maxRecDepth 100000 in
set_option maxHeartbeats 4000000 in
theorem current_any (l : List Env) (s : ByteArray) (A : Option Addr) (n c : Nat) (w : World) (h : Envs w A n c l) :
    Calls Tryd.prog 26 #[.slice A n c, .string s] w fun e w' => e = .returned (.tuple #[.agg #[.string (curL l s).1.ref.run, .string (curL l s).1.ref.job, .int .u64 (curL l s).1.ver, .int .i64 (curL l s).1.at_, .int .i64 (curL l s).1.st], .bool (curL l s).2]) ∧ Below w.heap.size w w' := by
  go_enter Tryd.func26, Tryd.ntmps26
  have hE0 := h
  go_upto_region 1 with (fail)
  generalize hx_ : World.alloc w _ = wo1
  have hO1 : OwnB w wo1 [(w.heap.size, [.string ⟨#[]⟩, .string ⟨#[]⟩, .int .u64 0, .int .i64 0, .int .i64 0])] := by rw [← hx_]; exact (OwnB.refl w).new #[.string ⟨#[]⟩, .string ⟨#[]⟩, .int .u64 0, .int .i64 0, .int .i64 0] _ (g := w.heap.size)
  have hbn : Below w.heap.size w wo1 := by rw [← hx_]; exact (Below.refl _ _).alloc (Nat.le_refl _) _
  have zwo1 : w.heap.size + 0 < wo1.heap.size := by rw [← hx_]; simp <;> omega
  clear hx_
  have c0_0 : wo1.cell? ⟨w.heap.size, 0, none⟩ = some (.string ⟨#[]⟩) := hO1.c 0 0
  have c0_1 : wo1.cell? ⟨w.heap.size, 1, none⟩ = some (.string ⟨#[]⟩) := hO1.c 0 1
  have c0_2 : wo1.cell? ⟨w.heap.size, 2, none⟩ = some (.int .u64 0) := hO1.c 0 2
  have c0_3 : wo1.cell? ⟨w.heap.size, 3, none⟩ = some (.int .i64 0) := hO1.c 0 3
  have c0_4 : wo1.cell? ⟨w.heap.size, 4, none⟩ = some (.int .i64 0) := hO1.c 0 4
  have cf0 := hO1.fr 0
  replace hE0 : Envs wo1 A n c l := hE0.below hbn
  clear hbn
  have C := history_any l s A n c wo1 hE0
  have hm : curL l s = depAt (histOf l s) (curI (histOf l s)) := rfl
  have hlo := lastI_lo (fun _ => true) (histOf l s) (histOf l s).length
  have hhi := lastI_hi (fun _ => true) (histOf l s) (histOf l s).length
  rw [show lastI (fun _ => true) (histOf l s) (histOf l s).length = curI (histOf l s) from rfl] at hlo hhi
  generalize curI (histOf l s) = q at *
  generalize histOf l s = H at *
  replace C := Lib.hid C
  repeat' ((fail_if_success at_builtin); (first | go_skip | go_guarded | go_step))
  refine C.out.mono ?_
  clear C
  rintro e w2 ⟨A', n', c', rfl, hb2, hD⟩
  dsimp only
  have zw2 := hb2.size
  have hO2 : OwnB w w2 [(w.heap.size, [.string ⟨#[]⟩, .string ⟨#[]⟩, .int .u64 0, .int .i64 0, .int .i64 0])] := hO1.kept hb2
  clear c0_0 c0_1 c0_2 c0_3 c0_4 cf0 hO1
  have c0_0 : w2.cell? ⟨w.heap.size, 0, none⟩ = some (.string ⟨#[]⟩) := hO2.c 0 0
  have c0_1 : w2.cell? ⟨w.heap.size, 1, none⟩ = some (.string ⟨#[]⟩) := hO2.c 0 1
  have c0_2 : w2.cell? ⟨w.heap.size, 2, none⟩ = some (.int .u64 0) := hO2.c 0 2
  have c0_3 : w2.cell? ⟨w.heap.size, 3, none⟩ = some (.int .i64 0) := hO2.c 0 3
  have c0_4 : w2.cell? ⟨w.heap.size, 4, none⟩ = some (.int .i64 0) := hO2.c 0 4
  have cf0 := hO2.fr 0
  replace hE0 : Envs w2 A n c l := hE0.below hb2
  by_cases hq : q < 0
  · have hm2 : curL l s = (zD, false) := by rw [hm]; exact depAt_out hq
    replace hm2 := Lib.hid hm2
    clear hm hD
    repeat' ((fail_if_success at_builtin); (first | go_skip | go_guarded | go_step))
    generalize hx_ : World.setCell (World.setCell (World.setCell (World.setCell (World.setCell _ _ _) _ _) _ _) _ _) _ _ = wo3
    have hO3 : OwnB w wo3 [(w.heap.size, [.string ⟨#[]⟩, .string ⟨#[]⟩, .int .u64 0, .int .i64 0, .int .i64 0])] := by rw [← hx_]; exact ((((hO2.store 0 rfl 0 _).store 0 rfl 1 _).store 0 rfl 2 _).store 0 rfl 3 _).store 0 rfl 4 _
    have zwo3 : wo3.heap.size = w2.heap.size := by rw [← hx_]; simp [World.setCell]
    clear hx_ c0_0 c0_1 c0_2 c0_3 c0_4 cf0 hO2
    have c0_0 : wo3.cell? ⟨w.heap.size, 0, none⟩ = some (.string ⟨#[]⟩) := hO3.c 0 0
    have c0_1 : wo3.cell? ⟨w.heap.size, 1, none⟩ = some (.string ⟨#[]⟩) := hO3.c 0 1
    have c0_2 : wo3.cell? ⟨w.heap.size, 2, none⟩ = some (.int .u64 0) := hO3.c 0 2
    have c0_3 : wo3.cell? ⟨w.heap.size, 3, none⟩ = some (.int .i64 0) := hO3.c 0 3
    have c0_4 : wo3.cell? ⟨w.heap.size, 4, none⟩ = some (.int .i64 0) := hO3.c 0 4
    have cf0 := hO3.fr 0
    refine bodyPost_ret (v := .tuple #[.agg #[.string ⟨#[]⟩, .string ⟨#[]⟩, .int .u64 0, .int .i64 0, .int .i64 0], .bool false]) (by simp only [results, Tryd.results26]; go_simp; first | done | exact ⟨rfl, rfl, rfl⟩ | rfl) rfl ?_
    exact ⟨by rw [hm2.out] <;> rfl, hO3.below⟩
  · have hq2 : ¬ q < 0 := hq
    obtain ⟨k, rfl⟩ : ∃ k : Nat, q = (k : Int) := ⟨q.toNat, by omega⟩
    have hn := hD.rd.1
    obtain ⟨x, hx⟩ : ∃ x, H[k]? = some x := ⟨_, List.getElem?_eq_getElem (by omega)⟩
    have hm2 : curL l s = (x, true) := by rw [hm]; exact depAt_in hx
    replace hm2 := Lib.hid hm2
    obtain ⟨g, o, rfl, hg, hS⟩ := dep_at hD.rd hx
    have e0 := hS.e0
    have e1 := hS.e1
    have e2 := hS.e2
    have e3 := hS.e3
    have e4 := hS.e4
    have i0 : (0 : Int) ≤ (k : Int) := by omega
    have i1 : (k : Int) < (n' : Int) := by omega
    clear hm hD hS hx hlo hhi hn
    repeat' ((fail_if_success at_builtin); (first | go_skip | go_guarded | go_step))
    generalize hx_ : World.setCell (World.setCell (World.setCell (World.setCell (World.setCell _ _ _) _ _) _ _) _ _) _ _ = wo3
    have hO3 : OwnB w wo3 [(w.heap.size, [.string x.ref.run, .string x.ref.job, .int .u64 x.ver, .int .i64 x.at_, .int .i64 x.st])] := by rw [← hx_]; exact ((((hO2.store 0 rfl 0 _).store 0 rfl 1 _).store 0 rfl 2 _).store 0 rfl 3 _).store 0 rfl 4 _
    have zwo3 : wo3.heap.size = w2.heap.size := by rw [← hx_]; simp [World.setCell]
    clear hx_ c0_0 c0_1 c0_2 c0_3 c0_4 cf0 hO2
    have c0_0 : wo3.cell? ⟨w.heap.size, 0, none⟩ = some (.string x.ref.run) := hO3.c 0 0
    have c0_1 : wo3.cell? ⟨w.heap.size, 1, none⟩ = some (.string x.ref.job) := hO3.c 0 1
    have c0_2 : wo3.cell? ⟨w.heap.size, 2, none⟩ = some (.int .u64 x.ver) := hO3.c 0 2
    have c0_3 : wo3.cell? ⟨w.heap.size, 3, none⟩ = some (.int .i64 x.at_) := hO3.c 0 3
    have c0_4 : wo3.cell? ⟨w.heap.size, 4, none⟩ = some (.int .i64 x.st) := hO3.c 0 4
    have cf0 := hO3.fr 0
    refine bodyPost_ret (v := .tuple #[.agg #[.string x.ref.run, .string x.ref.job, .int .u64 x.ver, .int .i64 x.at_, .int .i64 x.st], .bool true]) (by simp only [results, Tryd.results26]; go_simp; first | done | exact ⟨rfl, rfl, rfl⟩ | rfl) rfl ?_
    exact ⟨by rw [hm2.out] <;> rfl, hO3.below⟩
end Go.Proofs.YtennhjkhjplmoaaDoor
