/- Deploy: IndexFunc, ContainsFunc, Index, Contains at structs. -/
import Derived.Test.YtennhjkhjplmoaaDoorDpC
import Derived.BigQuiet
namespace Go.Proofs.YtennhjkhjplmoaaDoor
open Go.RowKit
/-- a list of references that an argument is -/
structure Refs (w : World) (A : Option Addr) (n c : Nat) (l : List Ref) : Prop where
  rd : RSlice rRef 2 w (fun b => b < w.heap.size) A n c l
  len : l.length ≤ 1000000
theorem Refs.below {w w' : World} {A : Option Addr} {n c : Nat} {l : List Ref} (h : Refs w A n c l) (hb : Below w.heap.size w w') : Refs w' A n c l :=
  ⟨(h.rd.below rRef_ok hb).more rRef_ok (fun _ hp => Nat.lt_of_lt_of_le hp hb.size), h.len⟩
theorem Refs.n {w : World} {A : Option Addr} {n c : Nat} {l : List Ref} (h : Refs w A n c l) : l.length = n := h.rd.1
set_option maxRecDepth 100000 in
set_option maxHeartbeats 2000000 in
theorem idxE_any (fn p : Nat) (eg : ∀ args w, (callFunc fn args).run Tryd.prog w = .ok (.enter fn args) w) (f : Env → Bool) (l : List Env) (A : Option Addr) (n c : Nat) (w : World) (h : Envs w A n c l)
    (hf : ∀ x ∈ l, ∀ A1 c1 A2 c2 w', Below w.heap.size w w' → Calls Tryd.prog fn #[.agg #[.string x.name, .string x.holder.run, .string x.holder.job, .slice A1 x.waiting.length c1, .slice A2 x.history.length c2], .pointer (some ⟨p, 0, none⟩)] w' fun e w2 => e = .returned (.bool (f x)) ∧ Below w'.heap.size w' w2) :
    Calls Tryd.prog 41 #[.slice A n c, .func (.func fn) #[] #[.pointer (some ⟨p, 0, none⟩)]] w fun e w' => e = .returned (.int .i64 (posI f l)) ∧ Below w.heap.size w w' := by
  go_enter Tryd.func41, Tryd.ntmps41
  have hn := h.n
  have hl := h.len
  replace hn := Lib.hid hn
  replace hf := Lib.hid hf
  repeat' ((fail_if_success at_builtin); (first | go_skip | go_guarded | go_step))
  go_loopw [8] (fun u8 wr => ∃ i : Nat, i ≤ n ∧ u8 = .int .i64 (i : Int) ∧ Below w.heap.size w wr ∧ posA f l = i + posA f (l.drop i)) (fun u8 _ => n - (intOf u8).toNat)
  case atStart => exact ⟨0, by omega, rfl, Below.refl _ _, by simp⟩
  case round =>
    obtain ⟨i, hi, rfl, hb, hp⟩ := hrel
    replace hp := Lib.hid hp
    have i0 : (0 : Int) ≤ (i : Int) := by omega
    have i2 : IntKind.i64.wrap ((i : Int) + 1) = (i : Int) + 1 := IntWalk.i64_in _ (by have := hn.out; omega)
    by_cases hlt : i < n
    · have i1 : (i : Int) < (n : Int) := by omega
      obtain ⟨x, hx⟩ : ∃ x, l[i]? = some x := ⟨_, List.getElem?_eq_getElem (by have := hn.out; omega)⟩
      obtain ⟨g, o, A1, c1, A2, c2, rfl, hg, hS⟩ := env_at h.rd hx
      have hS2 := hS.below hg hb
      have C := hf.out x (List.mem_of_getElem? hx) A1 c1 A2 c2 wr hb
      have e0 := hS2.e0
      have e1 := hS2.e1
      have e2 := hS2.e2
      have e3 := hS2.e3
      have e4 := hS2.e4
      clear hS hS2 hf
      replace C := Lib.hid C
      replace hx := Lib.hid hx
      repeat' ((fail_if_success at_builtin); (first | go_skip | go_guarded | go_step))
      refine C.out.mono ?_
      clear C
      rintro e w2 ⟨rfl, hb2⟩
      dsimp only
      have hb3 := hb.trans (hb2.mono hb.size)
      cases hv : f x with
      | true =>
        have hr := posA_hit hx.out hp.out hv
        replace hr := Lib.hid hr
        repeat' ((fail_if_success at_builtin); (first | go_skip | go_guarded | go_step))
        go_ret
        exact ⟨by rw [hr.out]; rfl, hb3⟩
      | false =>
        have hr := posA_miss hx.out hp.out hv
        replace hr := Lib.hid hr
        repeat' ((fail_if_success at_builtin); (first | go_skip | go_guarded | go_step))
        go_roundw
        case rel => exact ⟨i + 1, by omega, by first | rfl | go_num, hb3, hr.out⟩
        case measure => (try go_num); (try simp [intOf]); (try omega)
    · have i1 : ¬ (i : Int) < (n : Int) := by omega
      have hr := posA_end (by rw [hn.out]; omega) hp.out
      replace hr := Lib.hid hr
      repeat' ((fail_if_success at_builtin); (first | go_skip | go_guarded | go_step))
      go_ret
      exact ⟨by rw [hr.out]; rfl, hb⟩
set_option maxRecDepth 100000 in
set_option maxHeartbeats 2000000 in
theorem idxR_any (fn p : Nat) (eg : ∀ args w, (callFunc fn args).run Tryd.prog w = .ok (.enter fn args) w) (f : Ref → Bool) (l : List Ref) (A : Option Addr) (n c : Nat) (w : World) (h : Refs w A n c l)
    (hf : ∀ x ∈ l, ∀ w', Below w.heap.size w w' → Calls Tryd.prog fn #[.agg #[.string x.run, .string x.job], .pointer (some ⟨p, 0, none⟩)] w' fun e w2 => e = .returned (.bool (f x)) ∧ Below w'.heap.size w' w2) :
    Calls Tryd.prog 70 #[.slice A n c, .func (.func fn) #[] #[.pointer (some ⟨p, 0, none⟩)]] w fun e w' => e = .returned (.int .i64 (posI f l)) ∧ Below w.heap.size w w' := by
  go_enter Tryd.func70, Tryd.ntmps70
  have hn := h.n
  have hl := h.len
  replace hn := Lib.hid hn
  replace hf := Lib.hid hf
  repeat' ((fail_if_success at_builtin); (first | go_skip | go_guarded | go_step))
  go_loopw [8] (fun u8 wr => ∃ i : Nat, i ≤ n ∧ u8 = .int .i64 (i : Int) ∧ Below w.heap.size w wr ∧ posA f l = i + posA f (l.drop i)) (fun u8 _ => n - (intOf u8).toNat)
  case atStart => exact ⟨0, by omega, rfl, Below.refl _ _, by simp⟩
  case round =>
    obtain ⟨i, hi, rfl, hb, hp⟩ := hrel
    replace hp := Lib.hid hp
    have i0 : (0 : Int) ≤ (i : Int) := by omega
    have i2 : IntKind.i64.wrap ((i : Int) + 1) = (i : Int) + 1 := IntWalk.i64_in _ (by have := hn.out; omega)
    by_cases hlt : i < n
    · have i1 : (i : Int) < (n : Int) := by omega
      obtain ⟨x, hx⟩ : ∃ x, l[i]? = some x := ⟨_, List.getElem?_eq_getElem (by have := hn.out; omega)⟩
      obtain ⟨g, o, rfl, hg, hS⟩ := ref_at h.rd hx
      have C := hf.out x (List.mem_of_getElem? hx) wr hb
      have e0 := (hb.cell (p := ⟨g, _, none⟩) hg).trans hS.1
      have e1 := (hb.cell (p := ⟨g, _, none⟩) hg).trans hS.2
      clear hS hf
      replace C := Lib.hid C
      replace hx := Lib.hid hx
      repeat' ((fail_if_success at_builtin); (first | go_skip | go_guarded | go_step))
      refine C.out.mono ?_
      clear C
      rintro e w2 ⟨rfl, hb2⟩
      dsimp only
      have hb3 := hb.trans (hb2.mono hb.size)
      cases hv : f x with
      | true =>
        have hr := posA_hit hx.out hp.out hv
        replace hr := Lib.hid hr
        repeat' ((fail_if_success at_builtin); (first | go_skip | go_guarded | go_step))
        go_ret
        exact ⟨by rw [hr.out]; rfl, hb3⟩
      | false =>
        have hr := posA_miss hx.out hp.out hv
        replace hr := Lib.hid hr
        repeat' ((fail_if_success at_builtin); (first | go_skip | go_guarded | go_step))
        go_roundw
        case rel => exact ⟨i + 1, by omega, by first | rfl | go_num, hb3, hr.out⟩
        case measure => (try go_num); (try simp [intOf]); (try omega)
    · have i1 : ¬ (i : Int) < (n : Int) := by omega
      have hr := posA_end (by rw [hn.out]; omega) hp.out
      replace hr := Lib.hid hr
      repeat' ((fail_if_success at_builtin); (first | go_skip | go_guarded | go_step))
      go_ret
      exact ⟨by rw [hr.out]; rfl, hb⟩
set_option maxRecDepth 100000 in
set_option maxHeartbeats 2000000 in
theorem idxR0_any (fn : Nat) (eg : ∀ args w, (callFunc fn args).run Tryd.prog w = .ok (.enter fn args) w) (f : Ref → Bool) (l : List Ref) (A : Option Addr) (n c : Nat) (w : World) (h : Refs w A n c l)
    (hf : ∀ x ∈ l, ∀ w', Below w.heap.size w w' → Calls Tryd.prog fn #[.agg #[.string x.run, .string x.job]] w' fun e w2 => e = .returned (.bool (f x)) ∧ Below w'.heap.size w' w2) :
    Calls Tryd.prog 70 #[.slice A n c, .func (.func fn) #[] #[]] w fun e w' => e = .returned (.int .i64 (posI f l)) ∧ Below w.heap.size w w' := by
  go_enter Tryd.func70, Tryd.ntmps70
  have hn := h.n
  have hl := h.len
  replace hn := Lib.hid hn
  replace hf := Lib.hid hf
  repeat' ((fail_if_success at_builtin); (first | go_skip | go_guarded | go_step))
  go_loopw [8] (fun u8 wr => ∃ i : Nat, i ≤ n ∧ u8 = .int .i64 (i : Int) ∧ Below w.heap.size w wr ∧ posA f l = i + posA f (l.drop i)) (fun u8 _ => n - (intOf u8).toNat)
  case atStart => exact ⟨0, by omega, rfl, Below.refl _ _, by simp⟩
  case round =>
    obtain ⟨i, hi, rfl, hb, hp⟩ := hrel
    replace hp := Lib.hid hp
    have i0 : (0 : Int) ≤ (i : Int) := by omega
    have i2 : IntKind.i64.wrap ((i : Int) + 1) = (i : Int) + 1 := IntWalk.i64_in _ (by have := hn.out; omega)
    by_cases hlt : i < n
    · have i1 : (i : Int) < (n : Int) := by omega
      obtain ⟨x, hx⟩ : ∃ x, l[i]? = some x := ⟨_, List.getElem?_eq_getElem (by have := hn.out; omega)⟩
      obtain ⟨g, o, rfl, hg, hS⟩ := ref_at h.rd hx
      have C := hf.out x (List.mem_of_getElem? hx) wr hb
      have e0 := (hb.cell (p := ⟨g, _, none⟩) hg).trans hS.1
      have e1 := (hb.cell (p := ⟨g, _, none⟩) hg).trans hS.2
      clear hS hf
      replace C := Lib.hid C
      replace hx := Lib.hid hx
      repeat' ((fail_if_success at_builtin); (first | go_skip | go_guarded | go_step))
      refine C.out.mono ?_
      clear C
      rintro e w2 ⟨rfl, hb2⟩
      dsimp only
      have hb3 := hb.trans (hb2.mono hb.size)
      cases hv : f x with
      | true =>
        have hr := posA_hit hx.out hp.out hv
        replace hr := Lib.hid hr
        repeat' ((fail_if_success at_builtin); (first | go_skip | go_guarded | go_step))
        go_ret
        exact ⟨by rw [hr.out]; rfl, hb3⟩
      | false =>
        have hr := posA_miss hx.out hp.out hv
        replace hr := Lib.hid hr
        repeat' ((fail_if_success at_builtin); (first | go_skip | go_guarded | go_step))
        go_roundw
        case rel => exact ⟨i + 1, by omega, by first | rfl | go_num, hb3, hr.out⟩
        case measure => (try go_num); (try simp [intOf]); (try omega)
    · have i1 : ¬ (i : Int) < (n : Int) := by omega
      have hr := posA_end (by rw [hn.out]; omega) hp.out
      replace hr := Lib.hid hr
      repeat' ((fail_if_success at_builtin); (first | go_skip | go_guarded | go_step))
      go_ret
      exact ⟨by rw [hr.out]; rfl, hb⟩
set_option maxRecDepth 100000 in
set_option maxHeartbeats 2000000 in
theorem cfR_any (fn : Nat) (eg : ∀ args w, (callFunc fn args).run Tryd.prog w = .ok (.enter fn args) w) (f : Ref → Bool) (l : List Ref) (A : Option Addr) (n c : Nat) (w : World) (h : Refs w A n c l)
    (hf : ∀ x ∈ l, ∀ w', Below w.heap.size w w' → Calls Tryd.prog fn #[.agg #[.string x.run, .string x.job]] w' fun e w2 => e = .returned (.bool (f x)) ∧ Below w'.heap.size w' w2) :
    Calls Tryd.prog 33 #[.slice A n c, .func (.func fn) #[] #[]] w fun e w' => e = .returned (.bool (l.any f)) ∧ Below w.heap.size w w' := by
  have C := idxR0_any fn eg f l A n c w h hf
  have hr := posI_nonneg f l
  generalize posI f l = q at C hr
  replace C := Lib.hid C
  replace hr := Lib.hid hr
  clear hf
  go_enter Tryd.func33, Tryd.ntmps33
  repeat' ((fail_if_success at_builtin); (first | go_skip | go_guarded | go_step))
  refine C.out.mono ?_
  clear C
  rintro e w1 ⟨rfl, hb1⟩
  dsimp only
  repeat' ((fail_if_success at_builtin); (first | go_skip | go_guarded | go_step))
  go_ret
  exact ⟨by rw [← hr.out]; first | rfl | simp [ge_iff_le], hb1⟩
theorem eqR_comm (a b : Ref) : eqR a b = eqR b a := by
  rw [Bool.eq_iff_iff, eqR_iff, eqR_iff]
  exact eq_comm
set_option maxRecDepth 100000 in
set_option maxHeartbeats 2000000 in
theorem ixR_any (l : List Ref) (r : Ref) (A : Option Addr) (n c : Nat) (w : World) (h : Refs w A n c l) :
    Calls Tryd.prog 75 #[.slice A n c, .agg #[.string r.run, .string r.job]] w fun e w' => e = .returned (.int .i64 (posI (fun x => eqR x r) l)) ∧ Below w.heap.size w w' := by
  have hb0 := (Below.refl w.heap.size w).alloc (Nat.le_refl _) (.cells #[.string r.run, .string r.job] refT)
  have hR := CellsAt.new w #[.string r.run, .string r.job] refT
  have zz : w.heap.size < (w.alloc (.cells #[.string r.run, .string r.job] refT)).heap.size := by simp
  go_enter Tryd.func75, Tryd.ntmps75
  have hn := h.n
  have hl := h.len
  replace hn := Lib.hid hn
  go_upto_region 1 with (fail)
  generalize World.alloc w _ = w1 at *
  repeat' ((fail_if_success at_builtin); (first | go_skip | go_guarded | go_step))
  go_loopw [8] (fun u8 wr => ∃ i : Nat, i ≤ n ∧ u8 = .int .i64 (i : Int) ∧ Below w1.heap.size w1 wr ∧ posA (fun x => eqR x r) l = i + posA (fun x => eqR x r) (l.drop i)) (fun u8 _ => n - (intOf u8).toNat)
  case atStart => exact ⟨0, by omega, rfl, Below.refl _ _, by simp⟩
  case round =>
    obtain ⟨i, hi, rfl, hb, hp⟩ := hrel
    replace hp := Lib.hid hp
    have i0 : (0 : Int) ≤ (i : Int) := by omega
    have i2 : IntKind.i64.wrap ((i : Int) + 1) = (i : Int) + 1 := IntWalk.i64_in _ (by have := hn.out; omega)
    have hbz := hb0.trans (hb.mono (Nat.le_of_lt zz))
    by_cases hlt : i < n
    · have i1 : (i : Int) < (n : Int) := by omega
      obtain ⟨x, hx⟩ : ∃ x, l[i]? = some x := ⟨_, List.getElem?_eq_getElem (by have := hn.out; omega)⟩
      obtain ⟨g, o, rfl, hg, hS⟩ := ref_at h.rd hx
      have e0 := (hbz.cell (p := ⟨g, _, none⟩) hg).trans hS.1
      have e1 := (hbz.cell (p := ⟨g, _, none⟩) hg).trans hS.2
      have r0 := (hb.cell (p := ⟨w.heap.size, 0, none⟩) zz).trans (hR.cell 0 _ rfl)
      have r1 := (hb.cell (p := ⟨w.heap.size, 1, none⟩) zz).trans (hR.cell 1 _ rfl)
      clear hS
      have hq := run_eqR r x
      replace hx := Lib.hid hx
      have hbd : ∀ q, Below w.heap.size w (wr.drewN q) := fun q => hbz.trans (Below.mono (Below.drewN wr q) hbz.size)
      have hbe : ∀ q, Below w1.heap.size w1 (wr.drewN q) := fun q => hb.trans (Below.mono (Below.drewN wr q) hb.size)
      cases hv : eqR x r with
      | true =>
        have hr := posA_hit (f := fun x => eqR x r) hx.out hp.out hv
        replace hr := Lib.hid hr
        simp only [eqR_comm r x, hv] at hq
        repeat' ((fail_if_success at_builtin); (first | go_skip | go_guarded | go_step))
        go_quiet (fail)
        repeat' ((fail_if_success at_builtin); (first | go_skip | go_guarded | go_step))
        go_ret
        exact ⟨by rw [hr.out]; rfl, hbd nq⟩
      | false =>
        have hr := posA_miss (f := fun x => eqR x r) hx.out hp.out hv
        replace hr := Lib.hid hr
        simp only [eqR_comm r x, hv] at hq
        repeat' ((fail_if_success at_builtin); (first | go_skip | go_guarded | go_step))
        go_quiet (fail)
        repeat' ((fail_if_success at_builtin); (first | go_skip | go_guarded | go_step))
        go_roundw
        case rel => exact ⟨i + 1, by omega, by first | rfl | go_num, hbe nq, hr.out⟩
        case measure => (try go_num); (try simp [intOf]); (try omega)
    · have i1 : ¬ (i : Int) < (n : Int) := by omega
      have hr := posA_end (f := fun x => eqR x r) (by rw [hn.out]; omega) hp.out
      replace hr := Lib.hid hr
      repeat' ((fail_if_success at_builtin); (first | go_skip | go_guarded | go_step))
      go_ret
      exact ⟨by rw [hr.out]; rfl, hbz⟩
set_option maxRecDepth 100000 in
set_option maxHeartbeats 2000000 in
theorem place_any (l : List Ref) (r : Ref) (A : Option Addr) (n c : Nat) (w : World) (h : Refs w A n c l) :
    Calls Tryd.prog 46 #[.slice A n c, .agg #[.string r.run, .string r.job]] w fun e w' => e = .returned (.int .i64 (posI (fun x => eqR x r) l)) ∧ Below w.heap.size w w' := by
  have hb0 := (Below.refl w.heap.size w).alloc (Nat.le_refl _) (.cells #[.string r.run, .string r.job] refT)
  have hR := CellsAt.new w #[.string r.run, .string r.job] refT
  have zz : w.heap.size < (w.alloc (.cells #[.string r.run, .string r.job] refT)).heap.size := by simp
  go_enter Tryd.func46, Tryd.ntmps46
  have hn := h.n
  have hl := h.len
  replace hn := Lib.hid hn
  go_upto_region 1 with (fail)
  generalize World.alloc w _ = w1 at *
  repeat' ((fail_if_success at_builtin); (first | go_skip | go_guarded | go_step))
  go_loopw [5] (fun u8 wr => ∃ i : Nat, i ≤ n ∧ u8 = .int .i64 (i : Int) ∧ Below w1.heap.size w1 wr ∧ posA (fun x => eqR x r) l = i + posA (fun x => eqR x r) (l.drop i)) (fun u8 _ => n - (intOf u8).toNat)
  case atStart => exact ⟨0, by omega, rfl, Below.refl _ _, by simp⟩
  case round =>
    obtain ⟨i, hi, rfl, hb, hp⟩ := hrel
    replace hp := Lib.hid hp
    have i0 : (0 : Int) ≤ (i : Int) := by omega
    have i2 : IntKind.i64.wrap ((i : Int) + 1) = (i : Int) + 1 := IntWalk.i64_in _ (by have := hn.out; omega)
    have hbz := hb0.trans (hb.mono (Nat.le_of_lt zz))
    by_cases hlt : i < n
    · have i1 : (i : Int) < (n : Int) := by omega
      obtain ⟨x, hx⟩ : ∃ x, l[i]? = some x := ⟨_, List.getElem?_eq_getElem (by have := hn.out; omega)⟩
      obtain ⟨g, o, rfl, hg, hS⟩ := ref_at h.rd hx
      have e0 := (hbz.cell (p := ⟨g, _, none⟩) hg).trans hS.1
      have e1 := (hbz.cell (p := ⟨g, _, none⟩) hg).trans hS.2
      have r0 := (hb.cell (p := ⟨w.heap.size, 0, none⟩) zz).trans (hR.cell 0 _ rfl)
      have r1 := (hb.cell (p := ⟨w.heap.size, 1, none⟩) zz).trans (hR.cell 1 _ rfl)
      clear hS
      have hq := run_eqR x r
      replace hx := Lib.hid hx
      have hbd : ∀ q, Below w.heap.size w (wr.drewN q) := fun q => hbz.trans (Below.mono (Below.drewN wr q) hbz.size)
      have hbe : ∀ q, Below w1.heap.size w1 (wr.drewN q) := fun q => hb.trans (Below.mono (Below.drewN wr q) hb.size)
      cases hv : eqR x r with
      | true =>
        have hr := posA_hit (f := fun x => eqR x r) hx.out hp.out hv
        replace hr := Lib.hid hr
        simp only [hv] at hq
        repeat' ((fail_if_success at_builtin); (first | go_skip | go_guarded | go_step))
        go_quiet (fail)
        repeat' ((fail_if_success at_builtin); (first | go_skip | go_guarded | go_step))
        go_ret
        exact ⟨by rw [hr.out]; rfl, hbd nq⟩
      | false =>
        have hr := posA_miss (f := fun x => eqR x r) hx.out hp.out hv
        replace hr := Lib.hid hr
        simp only [hv] at hq
        repeat' ((fail_if_success at_builtin); (first | go_skip | go_guarded | go_step))
        go_quiet (fail)
        repeat' ((fail_if_success at_builtin); (first | go_skip | go_guarded | go_step))
        go_roundw
        case rel => exact ⟨i + 1, by omega, by first | rfl | go_num, hbe nq, hr.out⟩
        case measure => (try go_num); (try simp [intOf]); (try omega)
    · have i1 : ¬ (i : Int) < (n : Int) := by omega
      have hr := posA_end (f := fun x => eqR x r) (by rw [hn.out]; omega) hp.out
      replace hr := Lib.hid hr
      repeat' ((fail_if_success at_builtin); (first | go_skip | go_guarded | go_step))
      go_ret
      exact ⟨by rw [hr.out]; rfl, hbz⟩
set_option maxRecDepth 100000 in
set_option maxHeartbeats 2000000 in
theorem cnR_any (l : List Ref) (r : Ref) (A : Option Addr) (n c : Nat) (w : World) (h : Refs w A n c l) :
    Calls Tryd.prog 39 #[.slice A n c, .agg #[.string r.run, .string r.job]] w fun e w' => e = .returned (.bool (hasR l r)) ∧ Below w.heap.size w w' := by
  have hb0 := (Below.refl w.heap.size w).alloc (Nat.le_refl _) (.cells #[.string r.run, .string r.job] refT)
  have e0 := (CellsAt.new w #[.string r.run, .string r.job] refT).cell 0 _ rfl
  have e1 := (CellsAt.new w #[.string r.run, .string r.job] refT).cell 1 _ rfl
  have C := ixR_any l r A n c _ (h.below hb0)
  have hr := posI_nonneg (fun x => eqR x r) l
  generalize posI (fun x => eqR x r) l = q at C hr
  replace hr := Lib.hid hr
  go_enter Tryd.func39, Tryd.ntmps39
  go_upto_region 1 with (fail)
  generalize World.alloc w _ = w1 at *
  replace C := Lib.hid C
  repeat' ((fail_if_success at_builtin); (first | go_skip | go_guarded | go_step))
  refine C.out.mono ?_
  clear C
  rintro e w2 ⟨rfl, hb1⟩
  dsimp only
  repeat' ((fail_if_success at_builtin); (first | go_skip | go_guarded | go_step))
  go_ret
  exact ⟨by unfold hasR; rw [← hr.out]; first | rfl | simp [ge_iff_le], hb0.trans (hb1.mono hb0.size)⟩
end Go.Proofs.YtennhjkhjplmoaaDoor
