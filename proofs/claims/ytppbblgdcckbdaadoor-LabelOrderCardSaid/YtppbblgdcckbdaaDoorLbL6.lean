/- Label: the law: Order. -/
import Derived.Test.YtppbblgdcckbdaaDoorLbFw
namespace Go.Proofs.YtppbblgdcckbdaaDoor
open Go.RowKit
theorem sub_one {l : List ByteArray} {i : Nat} {q : ByteArray} (h : l[i]? = some q) : ((cellsS l).drop i).take (i + 1 - i) = cellsS [q] := by
  obtain ⟨hi, rfl⟩ := List.getElem?_eq_some_iff.1 h
  unfold cellsS
  rw [← List.map_drop, ← List.map_take, List.drop_eq_getElem_cons hi, show i + 1 - i = 1 by omega]
  rfl
set_option maxRecDepth 100000 in
set_option maxHeartbeats 4000000 in
theorem order_law (l0 : List ByteArray) (A0 : Option Addr) (n0 c0 : Nat) (l1 : List ByteArray) (A1 : Option Addr) (n1 c1 : Nat) (l2 : List ByteArray) (A2 : Option Addr) (n2 c2 : Nat) (w : World) (hR : Ready w) (hn0 : n0 = l0.length) (hc0 : n0 ≤ c0) (hs0 : Seq w w.heap.size 1 A0 n0 (cellsS l0)) (hl0 : n0 ≤ 9223372036854775807) (hm0 : ∀ q ∈ l0, q.size ≤ 9223372036854775807) (hn1 : n1 = l1.length) (hs1 : Seq w w.heap.size 1 A1 n1 (cellsS l1)) (hl1 : n1 ≤ 9223372036854775807) (hm1 : ∀ q ∈ l1, q.size ≤ 9223372036854775807) (hn2 : n2 = l2.length) (hs2 : Seq w w.heap.size 1 A2 n2 (cellsS l2)) (hl2 : n2 ≤ 9223372036854775807) (hm2 : ∀ q ∈ l2, q.size ≤ 9223372036854775807) :
    Calls Tryd.prog 8 #[.slice A0 n0 c0, .slice A1 n1 c1, .slice A2 n2 c2] w fun e w' => e = .returned (.bool true) ∧ Below w.heap.size w w' := by
  have hb0 := Below.refl w.heap.size w
  have CA := fun w' (h : Below w.heap.size w w') => awake_any w' (hR.below h)
  replace CA := Lib.hid CA
  have CF0 := fun w' (h : Below w.heap.size w w') => few_any l0 A0 n0 c0 w' hn0 ((hs0.below h).more h.size) hl0 hm0
  replace CF0 := Lib.hid CF0
  replace hs0 := Lib.hid hs0
  replace hn0 := Lib.hid hn0
  replace hm0 := Lib.hid hm0
  clear hl0
  have CF1 := fun w' (h : Below w.heap.size w w') => few_any l1 A1 n1 c1 w' hn1 ((hs1.below h).more h.size) hl1 hm1
  replace CF1 := Lib.hid CF1
  replace hs1 := Lib.hid hs1
  replace hn1 := Lib.hid hn1
  replace hm1 := Lib.hid hm1
  clear hl1
  have CF2 := fun w' (h : Below w.heap.size w w') => few_any l2 A2 n2 c2 w' hn2 ((hs2.below h).more h.size) hl2 hm2
  replace CF2 := Lib.hid CF2
  replace hs2 := Lib.hid hs2
  replace hn2 := Lib.hid hn2
  replace hm2 := Lib.hid hm2
  clear hl2
  go_enter Tryd.func8, Tryd.ntmps8
  repeat' ((fail_if_success at_builtin); (first | go_skip | go_guarded | go_step))
  refine (CF0.out _ hb0).mono ?_
  rintro e w1 ⟨b, rfl, hfw, hbq⟩
  dsimp only
  have hb1 := hb0.trans (hbq.mono hb0.size)
  clear hbq
  cases b with
  | false =>
    repeat' ((fail_if_success at_builtin); (first | go_skip | go_guarded | go_step))
    refine (CA.out _ hb1).mono ?_
    rintro e wz ⟨rfl, hbz⟩
    dsimp only
    have hbE := hb1.trans (hbz.mono hb1.size)
    repeat' ((fail_if_success at_builtin); (first | go_skip | go_guarded | go_step))
    go_ret
    exact ⟨rfl, hbE⟩
  | true =>
    have hF0 := hfw rfl
    clear hfw
    have hL0 : n0 ≤ 1000000 := by have := hF0.1; have := hn0.out; omega
    have hM0 := hF0.m
    repeat' ((fail_if_success at_builtin); (first | go_skip | go_guarded | go_step))
    refine (CF1.out _ hb1).mono ?_
    rintro e w2 ⟨b, rfl, hfw, hbq⟩
    dsimp only
    have hb2 := hb1.trans (hbq.mono hb1.size)
    clear hbq
    cases b with
    | false =>
      repeat' ((fail_if_success at_builtin); (first | go_skip | go_guarded | go_step))
      refine (CA.out _ hb2).mono ?_
      rintro e wz ⟨rfl, hbz⟩
      dsimp only
      have hbE := hb2.trans (hbz.mono hb2.size)
      repeat' ((fail_if_success at_builtin); (first | go_skip | go_guarded | go_step))
      go_ret
      exact ⟨rfl, hbE⟩
    | true =>
      have hF1 := hfw rfl
      clear hfw
      have hL1 : n1 ≤ 1000000 := by have := hF1.1; have := hn1.out; omega
      have hM1 := hF1.m
      repeat' ((fail_if_success at_builtin); (first | go_skip | go_guarded | go_step))
      refine (CF2.out _ hb2).mono ?_
      rintro e w3 ⟨b, rfl, hfw, hbq⟩
      dsimp only
      have hb3 := hb2.trans (hbq.mono hb2.size)
      clear hbq
      cases b with
      | false =>
        repeat' ((fail_if_success at_builtin); (first | go_skip | go_guarded | go_step))
        refine (CA.out _ hb3).mono ?_
        rintro e wz ⟨rfl, hbz⟩
        dsimp only
        have hbE := hb3.trans (hbz.mono hb3.size)
        repeat' ((fail_if_success at_builtin); (first | go_skip | go_guarded | go_step))
        go_ret
        exact ⟨rfl, hbE⟩
      | true =>
        have hF2 := hfw rfl
        clear hfw
        have hL2 : n2 ≤ 1000000 := by have := hF2.1; have := hn2.out; omega
        have hM2 := hF2.m
        have C1 := fun w' (h : Below w.heap.size w w') => implies_all l0 l0 A0 A0 n0 c0 n0 c0 w' (hR.below h) hn0.out ((hs0.out.below h).more h.size) hL0 hM0 hn0.out ((hs0.out.below h).more h.size) hL0 hM0
        replace C1 := Lib.hid C1
        have C2 := fun w' (h : Below w.heap.size w w') => implies_all l0 l1 A0 A1 n0 c0 n1 c1 w' (hR.below h) hn0.out ((hs0.out.below h).more h.size) hL0 hM0 hn1.out ((hs1.out.below h).more h.size) hL1 hM1
        replace C2 := Lib.hid C2
        have C3 := fun w' (h : Below w.heap.size w w') => implies_all l1 l2 A1 A2 n1 c1 n2 c2 w' (hR.below h) hn1.out ((hs1.out.below h).more h.size) hL1 hM1 hn2.out ((hs2.out.below h).more h.size) hL2 hM2
        replace C3 := Lib.hid C3
        have C4 := fun w' (h : Below w.heap.size w w') => implies_all l0 l2 A0 A2 n0 c0 n2 c2 w' (hR.below h) hn0.out ((hs0.out.below h).more h.size) hL0 hM0 hn2.out ((hs2.out.below h).more h.size) hL2 hM2
        replace C4 := Lib.hid C4
        have hrefl : impA (PA l0) (PA l0) = true := imp_part (prts_fit _) (fun t h => h)
        have htr := @imp_trans (PA l0) (PA l1) (PA l2) (prts_fit _) (prts_fit _) (prts_fit _)
        have C1b := C1.out
        rw [hrefl] at C1b
        replace C1b := Lib.hid C1b
        have CS := fun w' (h : Below w.heap.size w w') (i : Nat) (c2 : Nat) (A : Option Addr) (q : ByteArray) (hq : l0[i]? = some q) (hsq : Seq w w.heap.size 1 A 1 (cellsS [q])) => implies_all l0 [q] A0 A n0 c0 1 c2 w' (hR.below h) hn0.out ((hs0.out.below h).more h.size) hL0 hM0 rfl ((hsq.below h).more h.size) (by omega) (fun x hx => by simp at hx; subst hx; exact hM0 _ (List.mem_of_getElem? hq))
        replace CS := Lib.hid CS
        replace htr := Lib.hid htr
        clear C1 hrefl
        repeat' ((fail_if_success at_builtin); (first | go_skip | go_guarded | go_step))
        refine (C1b.out _ hb3).mono ?_
        rintro e w4 ⟨rfl, hbq⟩
        dsimp only
        have hb4 := hb3.trans (hbq.mono hb3.size)
        repeat' ((fail_if_success at_builtin); (first | go_skip | go_guarded | go_step))
        refine (C2.out _ hb4).mono ?_
        rintro e w5 ⟨rfl, hbq⟩
        dsimp only
        have hb5 := hb4.trans (hbq.mono hb4.size)
        cases h01 : impA (PA l0) (PA l1) with
        | false =>
          repeat' ((fail_if_success at_builtin); (first | go_skip | go_guarded | go_step))
          go_loopw [7] (fun u7 wr => ∃ i : Nat, i ≤ n0 ∧ u7 = .int .i64 (i : Int) ∧ Below w.heap.size w wr) (fun u7 _ => n0 - (intOf u7).toNat)
          case atStart => exact ⟨0, by omega, rfl, hb5⟩
          case round =>
            obtain ⟨i, hi, rfl, hb⟩ := hrel
            by_cases hlt : i < n0
            · have i0 : (0 : Int) ≤ (i : Int) := by omega
              have i1 : (i : Int) < (n0 : Int) := by omega
              have i2 : IntKind.i64.wrap ((i : Int) + 1) = (i : Int) + 1 := IntWalk.i64_in _ (by omega)
              have i3 : (i : Int) ≤ (i : Int) + 1 := by omega
              have i4 : (i : Int) + 1 ≤ (c0 : Int) := by omega
              have i5 : (0 : Int) ≤ (i : Int) + 1 := by omega
              have i6 : (i : Int) ≤ (c0 : Int) := by omega
              obtain ⟨q, hq⟩ : ∃ q, l0[i]? = some q := ⟨_, List.getElem?_eq_getElem (by have := hn0.out; omega)⟩
              have hsq := hs0.out.sub1 (lo := i) (hi := i + 1) (by omega) (by omega) hc0
              rw [sub_one hq, show i + 1 - i = 1 by omega, if_neg (by omega)] at hsq
              have himp : impA (PA l0) (PA [q]) = true := imp_part (prts_fit _) (fun t ht => by
                obtain rfl : t = readL q.data.toList := by simpa [PA, toLs] using ht
                exact List.mem_map.2 ⟨q.data.toList, List.mem_map.2 ⟨q, List.mem_of_getElem? hq, rfl⟩, rfl⟩)
              have CQ := fun w' (h : Below w.heap.size w w') c2 => CS.out w' h i c2 _ q hq hsq
              rw [himp] at CQ
              replace CQ := Lib.hid CQ
              clear himp hsq hq
              repeat' ((fail_if_success at_builtin); (first | go_skip | go_guarded | go_step))
              refine (CQ.out _ hb _).mono ?_
              rintro e wq ⟨rfl, hbq⟩
              dsimp only
              have hbr := hb.trans (hbq.mono hb.size)
              repeat' ((fail_if_success at_builtin); (first | go_skip | go_guarded | go_step))
              go_roundw
              case rel => exact ⟨i + 1, by omega, by go_num, hbr⟩
              case measure => simp [intOf]; omega
            · have i1 : ¬ (i : Int) < (n0 : Int) := by omega
              repeat' ((fail_if_success at_builtin); (first | go_skip | go_guarded | go_step))
              refine (CA.out _ hb).mono ?_
              rintro e wz ⟨rfl, hbz⟩
              dsimp only
              have hbE := hb.trans (hbz.mono hb.size)
              repeat' ((fail_if_success at_builtin); (first | go_skip | go_guarded | go_step))
              go_ret
              exact ⟨rfl, hbE⟩
        | true =>
          repeat' ((fail_if_success at_builtin); (first | go_skip | go_guarded | go_step))
          refine (C3.out _ hb5).mono ?_
          rintro e w6 ⟨rfl, hbq⟩
          dsimp only
          have hb6 := hb5.trans (hbq.mono hb5.size)
          cases h12 : impA (PA l1) (PA l2) with
          | false =>
            repeat' ((fail_if_success at_builtin); (first | go_skip | go_guarded | go_step))
            go_loopw [7] (fun u7 wr => ∃ i : Nat, i ≤ n0 ∧ u7 = .int .i64 (i : Int) ∧ Below w.heap.size w wr) (fun u7 _ => n0 - (intOf u7).toNat)
            case atStart => exact ⟨0, by omega, rfl, hb6⟩
            case round =>
              obtain ⟨i, hi, rfl, hb⟩ := hrel
              by_cases hlt : i < n0
              · have i0 : (0 : Int) ≤ (i : Int) := by omega
                have i1 : (i : Int) < (n0 : Int) := by omega
                have i2 : IntKind.i64.wrap ((i : Int) + 1) = (i : Int) + 1 := IntWalk.i64_in _ (by omega)
                have i3 : (i : Int) ≤ (i : Int) + 1 := by omega
                have i4 : (i : Int) + 1 ≤ (c0 : Int) := by omega
                have i5 : (0 : Int) ≤ (i : Int) + 1 := by omega
                have i6 : (i : Int) ≤ (c0 : Int) := by omega
                obtain ⟨q, hq⟩ : ∃ q, l0[i]? = some q := ⟨_, List.getElem?_eq_getElem (by have := hn0.out; omega)⟩
                have hsq := hs0.out.sub1 (lo := i) (hi := i + 1) (by omega) (by omega) hc0
                rw [sub_one hq, show i + 1 - i = 1 by omega, if_neg (by omega)] at hsq
                have himp : impA (PA l0) (PA [q]) = true := imp_part (prts_fit _) (fun t ht => by
                  obtain rfl : t = readL q.data.toList := by simpa [PA, toLs] using ht
                  exact List.mem_map.2 ⟨q.data.toList, List.mem_map.2 ⟨q, List.mem_of_getElem? hq, rfl⟩, rfl⟩)
                have CQ := fun w' (h : Below w.heap.size w w') c2 => CS.out w' h i c2 _ q hq hsq
                rw [himp] at CQ
                replace CQ := Lib.hid CQ
                clear himp hsq hq
                repeat' ((fail_if_success at_builtin); (first | go_skip | go_guarded | go_step))
                refine (CQ.out _ hb _).mono ?_
                rintro e wq ⟨rfl, hbq⟩
                dsimp only
                have hbr := hb.trans (hbq.mono hb.size)
                repeat' ((fail_if_success at_builtin); (first | go_skip | go_guarded | go_step))
                go_roundw
                case rel => exact ⟨i + 1, by omega, by go_num, hbr⟩
                case measure => simp [intOf]; omega
              · have i1 : ¬ (i : Int) < (n0 : Int) := by omega
                repeat' ((fail_if_success at_builtin); (first | go_skip | go_guarded | go_step))
                refine (CA.out _ hb).mono ?_
                rintro e wz ⟨rfl, hbz⟩
                dsimp only
                have hbE := hb.trans (hbz.mono hb.size)
                repeat' ((fail_if_success at_builtin); (first | go_skip | go_guarded | go_step))
                go_ret
                exact ⟨rfl, hbE⟩
          | true =>
            have h02 := htr.out h01 h12
            have C5 := C4.out
            rw [h02] at C5
            replace C5 := Lib.hid C5
            clear h02 h01 h12
            repeat' ((fail_if_success at_builtin); (first | go_skip | go_guarded | go_step))
            refine (C5.out _ hb6).mono ?_
            rintro e w7 ⟨rfl, hbq⟩
            dsimp only
            have hb7 := hb6.trans (hbq.mono hb6.size)
            repeat' ((fail_if_success at_builtin); (first | go_skip | go_guarded | go_step))
            go_loopw [7] (fun u7 wr => ∃ i : Nat, i ≤ n0 ∧ u7 = .int .i64 (i : Int) ∧ Below w.heap.size w wr) (fun u7 _ => n0 - (intOf u7).toNat)
            case atStart => exact ⟨0, by omega, rfl, hb7⟩
            case round =>
              obtain ⟨i, hi, rfl, hb⟩ := hrel
              by_cases hlt : i < n0
              · have i0 : (0 : Int) ≤ (i : Int) := by omega
                have i1 : (i : Int) < (n0 : Int) := by omega
                have i2 : IntKind.i64.wrap ((i : Int) + 1) = (i : Int) + 1 := IntWalk.i64_in _ (by omega)
                have i3 : (i : Int) ≤ (i : Int) + 1 := by omega
                have i4 : (i : Int) + 1 ≤ (c0 : Int) := by omega
                have i5 : (0 : Int) ≤ (i : Int) + 1 := by omega
                have i6 : (i : Int) ≤ (c0 : Int) := by omega
                obtain ⟨q, hq⟩ : ∃ q, l0[i]? = some q := ⟨_, List.getElem?_eq_getElem (by have := hn0.out; omega)⟩
                have hsq := hs0.out.sub1 (lo := i) (hi := i + 1) (by omega) (by omega) hc0
                rw [sub_one hq, show i + 1 - i = 1 by omega, if_neg (by omega)] at hsq
                have himp : impA (PA l0) (PA [q]) = true := imp_part (prts_fit _) (fun t ht => by
                  obtain rfl : t = readL q.data.toList := by simpa [PA, toLs] using ht
                  exact List.mem_map.2 ⟨q.data.toList, List.mem_map.2 ⟨q, List.mem_of_getElem? hq, rfl⟩, rfl⟩)
                have CQ := fun w' (h : Below w.heap.size w w') c2 => CS.out w' h i c2 _ q hq hsq
                rw [himp] at CQ
                replace CQ := Lib.hid CQ
                clear himp hsq hq
                repeat' ((fail_if_success at_builtin); (first | go_skip | go_guarded | go_step))
                refine (CQ.out _ hb _).mono ?_
                rintro e wq ⟨rfl, hbq⟩
                dsimp only
                have hbr := hb.trans (hbq.mono hb.size)
                repeat' ((fail_if_success at_builtin); (first | go_skip | go_guarded | go_step))
                go_roundw
                case rel => exact ⟨i + 1, by omega, by go_num, hbr⟩
                case measure => simp [intOf]; omega
              · have i1 : ¬ (i : Int) < (n0 : Int) := by omega
                repeat' ((fail_if_success at_builtin); (first | go_skip | go_guarded | go_step))
                refine (CA.out _ hb).mono ?_
                rintro e wz ⟨rfl, hbz⟩
                dsimp only
                have hbE := hb.trans (hbz.mono hb.size)
                repeat' ((fail_if_success at_builtin); (first | go_skip | go_guarded | go_step))
                go_ret
                exact ⟨rfl, hbE⟩
end Go.Proofs.YtppbblgdcckbdaaDoor
