/- Label: the law: Complete. -/
import Derived.Test.YtppbblgdcckbdaaDoorLbFw
import Derived.Test.YtppbblgdcckbdaaDoorLbW
namespace Go.Proofs.YtppbblgdcckbdaaDoor
open Go.RowKit
set_option maxRecDepth 100000 in
set_option maxHeartbeats 4000000 in
theorem complete_law (l0 : List ByteArray) (A0 : Option Addr) (n0 c0 : Nat) (l1 : List ByteArray) (A1 : Option Addr) (n1 c1 : Nat) (w : World) (hR : Ready w) (hn0 : n0 = l0.length) (hs0 : Seq w w.heap.size 1 A0 n0 (cellsS l0)) (hl0 : n0 ≤ 9223372036854775807) (hm0 : ∀ q ∈ l0, q.size ≤ 9223372036854775807) (hn1 : n1 = l1.length) (hs1 : Seq w w.heap.size 1 A1 n1 (cellsS l1)) (hl1 : n1 ≤ 9223372036854775807) (hm1 : ∀ q ∈ l1, q.size ≤ 9223372036854775807) :
    Calls Tryd.prog 7 #[.slice A0 n0 c0, .slice A1 n1 c1] w fun e w' => e = .returned (.bool true) ∧ Below w.heap.size w w' := by
  have hb0 := Below.refl w.heap.size w
  have CA := fun w' (h : Below w.heap.size w w') => awake_any w' (hR.below h)
  replace CA := Lib.hid CA
  have CF0 := fun w' (h : Below w.heap.size w w') => few_any l0 A0 n0 c0 w' hn0 ((hs0.below h).more h.size) hl0 hm0
  replace CF0 := Lib.hid CF0
  replace hs0 := Lib.hid hs0
  replace hn0 := Lib.hid hn0
  replace hm0 := Lib.hid hm0
  clear hl0
  have CF1 := fun w' (h : Below w.heap.size w w') => few_any l1 A1 n1 c1 w' hn1 ((hs1.below h).more h.size) hl1 hm1
  replace CF1 := Lib.hid CF1
  replace hs1 := Lib.hid hs1
  replace hn1 := Lib.hid hn1
  replace hm1 := Lib.hid hm1
  clear hl1
  go_enter Tryd.func7, Tryd.ntmps7
  repeat' ((fail_if_success at_builtin); (first | go_skip | go_guarded | go_step))
  refine (CF0.out _ hb0).mono ?_
  rintro e w1 ⟨b, rfl, hfw, hbq⟩
  dsimp only
  have hb1 := hb0.trans (hbq.mono hb0.size)
  clear hbq
  cases b with
  | false =>
    repeat' ((fail_if_success at_builtin); (first | go_skip | go_guarded | go_step))
    refine (CA.out _ hb1).mono ?_
    rintro e wz ⟨rfl, hbz⟩
    dsimp only
    have hbE := hb1.trans (hbz.mono hb1.size)
    repeat' ((fail_if_success at_builtin); (first | go_skip | go_guarded | go_step))
    go_ret
    exact ⟨rfl, hbE⟩
  | true =>
    have hF0 := hfw rfl
    clear hfw
    have hL0 : n0 ≤ 1000000 := by have := hF0.1; have := hn0.out; omega
    have hM0 := hF0.m
    repeat' ((fail_if_success at_builtin); (first | go_skip | go_guarded | go_step))
    refine (CF1.out _ hb1).mono ?_
    rintro e w2 ⟨b, rfl, hfw, hbq⟩
    dsimp only
    have hb2 := hb1.trans (hbq.mono hb1.size)
    clear hbq
    cases b with
    | false =>
      repeat' ((fail_if_success at_builtin); (first | go_skip | go_guarded | go_step))
      refine (CA.out _ hb2).mono ?_
      rintro e wz ⟨rfl, hbz⟩
      dsimp only
      have hbE := hb2.trans (hbz.mono hb2.size)
      repeat' ((fail_if_success at_builtin); (first | go_skip | go_guarded | go_step))
      go_ret
      exact ⟨rfl, hbE⟩
    | true =>
      have hF1 := hfw rfl
      clear hfw
      have hL1 : n1 ≤ 1000000 := by have := hF1.1; have := hn1.out; omega
      have hM1 := hF1.m
      have C1 := fun w' (h : Below w.heap.size w w') => implies_all l0 l1 A0 A1 n0 c0 n1 c1 w' (hR.below h) hn0.out ((hs0.out.below h).more h.size) hL0 hM0 hn1.out ((hs1.out.below h).more h.size) hL1 hM1
      replace C1 := Lib.hid C1
      have CW := fun w' (h : Below w.heap.size w w') => witness_any l0 l1 A0 A1 n0 c0 n1 c1 w' hn0.out ((hs0.out.below h).more h.size) hF0 hn1.out ((hs1.out.below h).more h.size) hF1
      replace CW := Lib.hid CW
      repeat' ((fail_if_success at_builtin); (first | go_skip | go_guarded | go_step))
      refine (C1.out _ hb2).mono ?_
      rintro e w3 ⟨rfl, hbq⟩
      dsimp only
      have hb3 := hb2.trans (hbq.mono hb2.size)
      cases himp : impA (PA l0) (PA l1) with
      | true =>
        repeat' ((fail_if_success at_builtin); (first | go_skip | go_guarded | go_step))
        refine (CA.out _ hb3).mono ?_
        rintro e wz ⟨rfl, hbz⟩
        dsimp only
        have hbE := hb3.trans (hbz.mono hb3.size)
        repeat' ((fail_if_success at_builtin); (first | go_skip | go_guarded | go_step))
        go_ret
        exact ⟨rfl, hbE⟩
      | false =>
        repeat' ((fail_if_success at_builtin); (first | go_skip | go_guarded | go_step))
        refine (CW.out _ hb3).mono ?_
        rintro e w4 ⟨O, L, A', c', rfl, hok, hOw, hOl, hOs, hO⟩
        dsimp only
        have hcp := complete hok himp
        rw [← hOw] at hcp
        have hb4 := hb3.trans (hO.2.mono hb3.size)
        have hsO := hO.seq
        have S0 := fun w' (h : Below w4.heap.size w4 w') => satisfies_any O l0 A' A0 O.length c' n0 c0 w' (hR.below (hb4.trans (h.mono hb4.size))) rfl ((hsO.below h).more h.size) (by omega) hOs hn0.out ((hs0.out.below (hb4.trans (h.mono hb4.size))).more (hb4.trans (h.mono hb4.size)).size) hL0 hM0
        have S1 := fun w' (h : Below w4.heap.size w4 w') => satisfies_any O l1 A' A1 O.length c' n1 c1 w' (hR.below (hb4.trans (h.mono hb4.size))) rfl ((hsO.below h).more h.size) (by omega) hOs hn1.out ((hs1.out.below (hb4.trans (h.mono hb4.size))).more (hb4.trans (h.mono hb4.size)).size) hL1 hM1
        rw [hcp.1] at S0
        rw [hcp.2] at S1
        replace S0 := Lib.hid S0
        replace S1 := Lib.hid S1
        clear hcp hOw hok himp hO
        repeat' ((fail_if_success at_builtin); (first | go_skip | go_guarded | go_step))
        refine (S0.out _ (Below.refl _ _)).mono ?_
        rintro e w5 ⟨rfl, hb5q⟩
        dsimp only
        repeat' ((fail_if_success at_builtin); (first | go_skip | go_guarded | go_step))
        refine (S1.out _ hb5q).mono ?_
        rintro e w6 ⟨rfl, hbq⟩
        dsimp only
        have hb6q := hb5q.trans (hbq.mono hb5q.size)
        have hb7 := hb4.trans (hb6q.mono hb4.size)
        repeat' ((fail_if_success at_builtin); (first | go_skip | go_guarded | go_step))
        refine (CA.out _ hb7).mono ?_
        rintro e wz ⟨rfl, hbz⟩
        dsimp only
        have hbE := hb7.trans (hbz.mono hb7.size)
        repeat' ((fail_if_success at_builtin); (first | go_skip | go_guarded | go_step))
        go_ret
        exact ⟨rfl, hbE⟩
end Go.Proofs.YtppbblgdcckbdaaDoor
