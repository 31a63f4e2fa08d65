/- Secret: a case. -/
import Derived.Test.YtgloblokkejgmaaDoorSeMi
namespace Go.Proofs.YtgloblokkejgmaaDoor
open Go.RowKit
/-- a job of a case as the argument is: of any size -/
structure JobC (W : World) (J : List Value) (names : List ByteArray) (AN : Option Addr) (cN : Nat) (env : ByteArray) : Prop where
  len : J.length = 39
  c28 : J[28]? = some (.slice AN names.length cN)
  c29 : J[29]? = some (.string env)
  rd : StrsR W (fun b => b < W.heap.size) AN cN names
  nl : names.length ≤ 9223372036854775807
abbrev caseL (o : Org) (t : Int) (J : List Value) : List Value := .string o.prj :: .string o.ref :: .bool o.fork :: .int .i64 t :: J
def smallC (l : List Sec) (names : List ByteArray) (o : Org) (env : ByteArray) : Bool := smallL l && (decide (names.length ≤ 70) && (decide (o.ref.size ≤ 200) && decide (env.size ≤ 200)))
theorem smallC_out {l : List Sec} {names : List ByteArray} {o : Org} {env : ByteArray} (h : smallC l names o env = true) : smallL l = true ∧ names.length ≤ 70 ∧ o.ref.size ≤ 200 ∧ env.size ≤ 200 := by
  unfold smallC at h
  simp only [Bool.and_eq_true, decide_eq_true_eq] at h
  exact ⟨h.1, h.2.1, h.2.2.1, h.2.2.2⟩
theorem JobC.v {W : World} {J : List Value} {names : List ByteArray} {AN : Option Addr} {cN : Nat} {env : ByteArray} (h : JobC W J names AN cN env) (h1 : names.length ≤ 70) (h2 : env.size ≤ 200) : JobV J names AN cN env := ⟨h.len, h.c28, h.c29, by omega, by omega⟩
theorem case_len {W : World} {J : List Value} {names : List ByteArray} {AN : Option Addr} {cN : Nat} {env : ByteArray} (h : JobC W J names AN cN env) (o : Org) (t : Int) : (caseL o t J).length = 43 := by simp [caseL, h.len]
theorem case_info {W : World} {J : List Value} {names : List ByteArray} {AN : Option Addr} {cN : Nat} {env : ByteArray} (h : JobC W J names AN cN env) (o : Org) (t : Int) : (Tryd.prog.info? 59).map (·.size) = some (caseL o t J).length := by rw [case_len h]; kernel_rfl
theorem case_job {w : World} {b : Nat} {o : Org} {t : Int} {J : List Value} (h : w.rangeAt b 0 (caseL o t J)) : w.rangeAt b 4 J := fun j v hj => by
  have := h (4 + j) v (by rw [show 4 + j = j + 1 + 1 + 1 + 1 by omega]; simpa only [caseL, List.getElem?_cons_succ] using hj)
  rwa [Nat.zero_add] at this
theorem case_cell {w : World} {b : Nat} {o : Org} {t : Int} {J : List Value} (h : w.rangeAt b 0 (caseL o t J)) (j : Nat) {v : Value} (hv : (caseL o t J)[j]? = some v) : w.cell? ⟨b, j, none⟩ = some v := by
  have := h j v hv
  rwa [Nat.zero_add] at this
set_option maxRecDepth 100000 in
set_option maxHeartbeats 4000000 in
theorem caseSmall_any (l : List Sec) (A : Option Addr) (n c : Nat) (o : Org) (t : Int) (J : List Value) (names : List ByteArray) (AN : Option Addr) (cN : Nat) (env : ByteArray) (w : World) (h : SecsB w A n c l) (hJ : JobC w J names AN cN env) :
    Calls Tryd.prog 17 #[.slice A n c, .agg (caseL o t J).toArray] w fun e w' => e = .returned (.bool (smallC l names o env)) ∧ Below w.heap.size w w' := by
  obtain ⟨R, hR⟩ : ∃ R, R = smallC l names o env := ⟨_, rfl⟩
  rw [← hR]
  unfold smallC at hR
  replace hR := Lib.hid hR
  have hrg := range_new w (caseL o t J) 59
  have hbw := (Below.refl w.heap.size w).alloc (Nat.le_refl _) (.cells (caseL o t J).toArray 59)
  go_enter Tryd.func17, Tryd.ntmps17
  go_upto_region 1 with (fail)
  generalize World.alloc w _ = w1 at *
  have e32 := case_job hrg 28 _ hJ.c28
  have e33 := case_job hrg 29 _ hJ.c29
  have e1 := case_cell hrg 1 (v := .string o.ref) rfl
  have C := small_any l A n c w1 (h.below hbw)
  generalize smallL l = q at *
  replace C := Lib.hid C
  repeat' ((fail_if_success at_builtin); (first | go_skip | go_guarded | go_step))
  refine C.out.mono ?_
  clear C
  rintro e w2 ⟨rfl, hw2⟩
  rw [hw2]
  clear hw2 w2
  dsimp only
  cases q with
  | false =>
    have hr := hR.out
    rw [Bool.false_and] at hr
    replace hr := Lib.hid hr
    repeat' ((fail_if_success at_builtin); (first | go_skip | go_guarded | go_step))
    go_ret
    exact ⟨by rw [hr.out]; rfl, hbw⟩
  | true =>
    replace hR := hR.out
    rw [Bool.true_and] at hR
    by_cases t1 : names.length ≤ 70
    · have t1' : (names.length : Int) ≤ 70 := by omega
      rw [decide_eq_true t1, Bool.true_and] at hR
      by_cases t2 : o.ref.size ≤ 200
      · have t2' : (o.ref.size : Int) ≤ 200 := by omega
        rw [decide_eq_true t2, Bool.true_and] at hR
        by_cases t3 : env.size ≤ 200
        · have t3' : (env.size : Int) ≤ 200 := by omega
          rw [decide_eq_true t3] at hR
          replace hR := Lib.hid hR
          repeat' ((fail_if_success at_builtin); (first | go_skip | go_guarded | go_step))
          go_ret
          exact ⟨by rw [hR.out]; rfl, hbw⟩
        · have t3' : ¬ (env.size : Int) ≤ 200 := by omega
          rw [decide_eq_false t3] at hR
          replace hR := Lib.hid hR
          repeat' ((fail_if_success at_builtin); (first | go_skip | go_guarded | go_step))
          go_ret
          exact ⟨by rw [hR.out]; rfl, hbw⟩
      · have t2' : ¬ (o.ref.size : Int) ≤ 200 := by omega
        rw [decide_eq_false t2, Bool.false_and] at hR
        replace hR := Lib.hid hR
        repeat' ((fail_if_success at_builtin); (first | go_skip | go_guarded | go_step))
        go_ret
        exact ⟨by rw [hR.out]; rfl, hbw⟩
    · have t1' : ¬ (names.length : Int) ≤ 70 := by omega
      rw [decide_eq_false t1, Bool.false_and] at hR
      replace hR := Lib.hid hR
      repeat' ((fail_if_success at_builtin); (first | go_skip | go_guarded | go_step))
      go_ret
      exact ⟨by rw [hR.out]; rfl, hbw⟩
end Go.Proofs.YtgloblokkejgmaaDoor
