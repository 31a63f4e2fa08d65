/- Label: the law: Sound. -/
import Derived.Test.YtppbblgdcckbdaaDoorLbFw
namespace Go.Proofs.YtppbblgdcckbdaaDoor
open Go.RowKit
set_option maxRecDepth 100000 in
set_option maxHeartbeats 4000000 in
theorem sound_law (l0 : List ByteArray) (A0 : Option Addr) (n0 c0 : Nat) (l1 : List ByteArray) (A1 : Option Addr) (n1 c1 : Nat) (l2 : List ByteArray) (A2 : Option Addr) (n2 c2 : Nat) (w : World) (hR : Ready w) (hn0 : n0 = l0.length) (hs0 : Seq w w.heap.size 1 A0 n0 (cellsS l0)) (hl0 : n0 ≤ 9223372036854775807) (hm0 : ∀ q ∈ l0, q.size ≤ 9223372036854775807) (hn1 : n1 = l1.length) (hs1 : Seq w w.heap.size 1 A1 n1 (cellsS l1)) (hl1 : n1 ≤ 9223372036854775807) (hm1 : ∀ q ∈ l1, q.size ≤ 9223372036854775807) (hn2 : n2 = l2.length) (hs2 : Seq w w.heap.size 1 A2 n2 (cellsS l2)) (hl2 : n2 ≤ 9223372036854775807) (hm2 : ∀ q ∈ l2, q.size ≤ 9223372036854775807) :
    Calls Tryd.prog 6 #[.slice A0 n0 c0, .slice A1 n1 c1, .slice A2 n2 c2] w fun e w' => e = .returned (.bool true) ∧ Below w.heap.size w w' := by
  have hb0 := Below.refl w.heap.size w
  have CA := fun w' (h : Below w.heap.size w w') => awake_any w' (hR.below h)
  replace CA := Lib.hid CA
  have CF0 := fun w' (h : Below w.heap.size w w') => few_any l0 A0 n0 c0 w' hn0 ((hs0.below h).more h.size) hl0 hm0
  replace CF0 := Lib.hid CF0
  replace hs0 := Lib.hid hs0
  replace hn0 := Lib.hid hn0
  replace hm0 := Lib.hid hm0
  clear hl0
  have CF1 := fun w' (h : Below w.heap.size w w') => few_any l1 A1 n1 c1 w' hn1 ((hs1.below h).more h.size) hl1 hm1
  replace CF1 := Lib.hid CF1
  replace hs1 := Lib.hid hs1
  replace hn1 := Lib.hid hn1
  replace hm1 := Lib.hid hm1
  clear hl1
  have CF2 := fun w' (h : Below w.heap.size w w') => few_any l2 A2 n2 c2 w' hn2 ((hs2.below h).more h.size) hl2 hm2
  replace CF2 := Lib.hid CF2
  replace hs2 := Lib.hid hs2
  replace hn2 := Lib.hid hn2
  replace hm2 := Lib.hid hm2
  clear hl2
  go_enter Tryd.func6, Tryd.ntmps6
  repeat' ((fail_if_success at_builtin); (first | go_skip | go_guarded | go_step))
  refine (CF0.out _ hb0).mono ?_
  rintro e w1 ⟨b, rfl, hfw, hbq⟩
  dsimp only
  have hb1 := hb0.trans (hbq.mono hb0.size)
  clear hbq
  cases b with
  | false =>
    repeat' ((fail_if_success at_builtin); (first | go_skip | go_guarded | go_step))
    refine (CA.out _ hb1).mono ?_
    rintro e wz ⟨rfl, hbz⟩
    dsimp only
    have hbE := hb1.trans (hbz.mono hb1.size)
    repeat' ((fail_if_success at_builtin); (first | go_skip | go_guarded | go_step))
    go_ret
    exact ⟨rfl, hbE⟩
  | true =>
    have hF0 := hfw rfl
    clear hfw
    have hL0 : n0 ≤ 1000000 := by have := hF0.1; have := hn0.out; omega
    have hM0 := hF0.m
    repeat' ((fail_if_success at_builtin); (first | go_skip | go_guarded | go_step))
    refine (CF1.out _ hb1).mono ?_
    rintro e w2 ⟨b, rfl, hfw, hbq⟩
    dsimp only
    have hb2 := hb1.trans (hbq.mono hb1.size)
    clear hbq
    cases b with
    | false =>
      repeat' ((fail_if_success at_builtin); (first | go_skip | go_guarded | go_step))
      refine (CA.out _ hb2).mono ?_
      rintro e wz ⟨rfl, hbz⟩
      dsimp only
      have hbE := hb2.trans (hbz.mono hb2.size)
      repeat' ((fail_if_success at_builtin); (first | go_skip | go_guarded | go_step))
      go_ret
      exact ⟨rfl, hbE⟩
    | true =>
      have hF1 := hfw rfl
      clear hfw
      have hL1 : n1 ≤ 1000000 := by have := hF1.1; have := hn1.out; omega
      have hM1 := hF1.m
      repeat' ((fail_if_success at_builtin); (first | go_skip | go_guarded | go_step))
      refine (CF2.out _ hb2).mono ?_
      rintro e w3 ⟨b, rfl, hfw, hbq⟩
      dsimp only
      have hb3 := hb2.trans (hbq.mono hb2.size)
      clear hbq
      cases b with
      | false =>
        repeat' ((fail_if_success at_builtin); (first | go_skip | go_guarded | go_step))
        refine (CA.out _ hb3).mono ?_
        rintro e wz ⟨rfl, hbz⟩
        dsimp only
        have hbE := hb3.trans (hbz.mono hb3.size)
        repeat' ((fail_if_success at_builtin); (first | go_skip | go_guarded | go_step))
        go_ret
        exact ⟨rfl, hbE⟩
      | true =>
        have hF2 := hfw rfl
        clear hfw
        have hL2 : n2 ≤ 1000000 := by have := hF2.1; have := hn2.out; omega
        have hM2 := hF2.m
        have C1 := fun w' (h : Below w.heap.size w w') => valid_any l0 A0 n0 c0 w' (hR.below h) hn0.out ((hs0.out.below h).more h.size) hL0 hM0
        replace C1 := Lib.hid C1
        have C2 := fun w' (h : Below w.heap.size w w') => satisfies_any l0 l1 A0 A1 n0 c0 n1 c1 w' (hR.below h) hn0.out ((hs0.out.below h).more h.size) hL0 hM0 hn1.out ((hs1.out.below h).more h.size) hL1 hM1
        replace C2 := Lib.hid C2
        have C3 := fun w' (h : Below w.heap.size w w') => implies_all l1 l2 A1 A2 n1 c1 n2 c2 w' (hR.below h) hn1.out ((hs1.out.below h).more h.size) hL1 hM1 hn2.out ((hs2.out.below h).more h.size) hL2 hM2
        replace C3 := Lib.hid C3
        have C4 := fun w' (h : Below w.heap.size w w') => satisfies_any l0 l2 A0 A2 n0 c0 n2 c2 w' (hR.below h) hn0.out ((hs0.out.below h).more h.size) hL0 hM0 hn2.out ((hs2.out.below h).more h.size) hL2 hM2
        replace C4 := Lib.hid C4
        repeat' ((fail_if_success at_builtin); (first | go_skip | go_guarded | go_step))
        refine (C1.out _ hb3).mono ?_
        rintro e w4 ⟨rfl, hbq⟩
        dsimp only
        have hb4 := hb3.trans (hbq.mono hb3.size)
        by_cases hv : valL (toLs l0) = 0
        · rw [hv]
          have hd := Lib.hid (val_dist hv)
          clear hv
          repeat' ((fail_if_success at_builtin); (first | go_skip | go_guarded | go_step))
          refine (C2.out _ hb4).mono ?_
          rintro e w5 ⟨rfl, hbq⟩
          dsimp only
          have hb5 := hb4.trans (hbq.mono hb4.size)
          cases hsat : satsL (toLs l0) (toLs l1) with
          | false =>
            repeat' ((fail_if_success at_builtin); (first | go_skip | go_guarded | go_step))
            refine (CA.out _ hb5).mono ?_
            rintro e wz ⟨rfl, hbz⟩
            dsimp only
            have hbE := hb5.trans (hbz.mono hb5.size)
            repeat' ((fail_if_success at_builtin); (first | go_skip | go_guarded | go_step))
            go_ret
            exact ⟨rfl, hbE⟩
          | true =>
            repeat' ((fail_if_success at_builtin); (first | go_skip | go_guarded | go_step))
            refine (C3.out _ hb5).mono ?_
            rintro e w6 ⟨rfl, hbq⟩
            dsimp only
            have hb6 := hb5.trans (hbq.mono hb5.size)
            cases himp : impA (PA l1) (PA l2) with
            | false =>
              repeat' ((fail_if_success at_builtin); (first | go_skip | go_guarded | go_step))
              refine (CA.out _ hb6).mono ?_
              rintro e wz ⟨rfl, hbz⟩
              dsimp only
              have hbE := hb6.trans (hbz.mono hb6.size)
              repeat' ((fail_if_success at_builtin); (first | go_skip | go_guarded | go_step))
              go_ret
              exact ⟨rfl, hbE⟩
            | true =>
              have hS : satsL (toLs l0) (toLs l2) = true := sound hd.out hsat himp
              have C5 := C4.out
              rw [hS] at C5
              replace C5 := Lib.hid C5
              clear hS hsat himp
              repeat' ((fail_if_success at_builtin); (first | go_skip | go_guarded | go_step))
              refine (C5.out _ hb6).mono ?_
              rintro e w7 ⟨rfl, hbq⟩
              dsimp only
              have hb7 := hb6.trans (hbq.mono hb6.size)
              repeat' ((fail_if_success at_builtin); (first | go_skip | go_guarded | go_step))
              refine (CA.out _ hb7).mono ?_
              rintro e wz ⟨rfl, hbz⟩
              dsimp only
              have hbE := hb7.trans (hbz.mono hb7.size)
              repeat' ((fail_if_success at_builtin); (first | go_skip | go_guarded | go_step))
              go_ret
              exact ⟨rfl, hbE⟩
        · have hv2 : (valL (toLs l0) != 0) = true := by simpa using hv
          repeat' ((fail_if_success at_builtin); (first | go_skip | go_guarded | go_step))
          refine (CA.out _ hb4).mono ?_
          rintro e wz ⟨rfl, hbz⟩
          dsimp only
          have hbE := hb4.trans (hbz.mono hb4.size)
          repeat' ((fail_if_success at_builtin); (first | go_skip | go_guarded | go_step))
          go_ret
          exact ⟨rfl, hbE⟩
end Go.Proofs.YtppbblgdcckbdaaDoor
