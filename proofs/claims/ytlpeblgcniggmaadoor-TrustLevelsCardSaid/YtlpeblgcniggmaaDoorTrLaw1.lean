/- Trust: short, few; the laws about workers and reading. -/
import Derived.Test.YtlpeblgcniggmaaDoorTrAw
namespace Go.Proofs.YtlpeblgcniggmaaDoor
open Go.RowKit
set_option maxRecDepth 100000 in
set_option maxHeartbeats 800000 in
theorem short_any (o : Org) (w : World) (h1 : o.prj.size ≤ 9223372036854775807) (h2 : o.ref.size ≤ 9223372036854775807) : Calls Tryd.prog 8 #[.agg (ocells o)] w fun e w' => ∃ b : Bool, e = .returned (.bool b) ∧ Below w.heap.size w w' ∧ (b = true → o.prj.size ≤ 600 ∧ o.ref.size ≤ 600) := by
  have hb1 := (Below.refl w.heap.size w).alloc (Nat.le_refl _) (.cells (ocells o) 23)
  go_enter Tryd.func8, Tryd.ntmps8
  by_cases g1 : o.prj.size ≤ 600
  · have g1' : (o.prj.size : Int) ≤ 600 := by omega
    by_cases g2 : o.ref.size ≤ 600
    · have g2' : (o.ref.size : Int) ≤ 600 := by omega
      repeat' ((fail_if_success at_builtin); (first | go_skip | go_guarded | go_step))
      go_ret
      exact ⟨_, rfl, hb1, fun _ => ⟨g1, g2⟩⟩
    · have g2' : ¬ (o.ref.size : Int) ≤ 600 := by omega
      repeat' ((fail_if_success at_builtin); (first | go_skip | go_guarded | go_step))
      go_ret
      exact ⟨_, rfl, hb1, fun h => by simp at h <;> omega⟩
  · have g1' : ¬ (o.prj.size : Int) ≤ 600 := by omega
    repeat' ((fail_if_success at_builtin); (first | go_skip | go_guarded | go_step))
    go_ret
    exact ⟨_, rfl, hb1, fun h => by simp at h⟩
set_option maxRecDepth 100000 in
set_option maxHeartbeats 800000 in
theorem few_any (l : List ByteArray) (A : Option Addr) (c : Nat) (w : World) (hs : Seq w w.heap.size 1 A l.length (l.map Value.string)) (hl : l.length ≤ 9223372036854775807) (hm : ∀ p ∈ l, p.size ≤ 9223372036854775807) :
    Calls Tryd.prog 9 #[.slice A l.length c] w fun e w' => ∃ b : Bool, e = .returned (.bool b) ∧ Below w.heap.size w w' ∧ (b = true → l.length ≤ 10 ∧ ∀ p ∈ l, p.size ≤ 60) := by
  replace hm := Lib.hid hm
  go_enter Tryd.func9, Tryd.ntmps9
  repeat' ((fail_if_success at_builtin); (first | go_skip | go_guarded | go_step))
  go_loopw [3] (fun u3 wr => ∃ i : Nat, i ≤ l.length ∧ i ≤ 10 ∧ u3 = .int .i64 (i : Int) ∧ Below w.heap.size w wr ∧ ∀ (j : Nat) p, j < i → l[j]? = some p → p.size ≤ 60) (fun u3 _ => l.length - (intOf u3).toNat)
  case atStart => exact ⟨0, by omega, by omega, rfl, Below.refl _ _, fun j p h => by omega⟩
  case round =>
    obtain ⟨i, hi, hi10, rfl, hb, hall⟩ := hrel
    replace hall := Lib.hid hall
    by_cases hlt : i < l.length
    · have i1 : (i : Int) < (l.length : Int) := by omega
      have i0 : (0 : Int) ≤ (i : Int) := by omega
      by_cases h10 : i < 10
      · have i2 : (i : Int) < 10 := by omega
        obtain ⟨b, o, rfl, hbB, hcell⟩ := hs.2 (by omega)
        have hx : l[i]? = some l[i] := List.getElem?_eq_getElem hlt
        have hc0 := (hb.cell (p := ⟨b, o + i, none⟩) hbB).trans (hcell i (.string l[i]) (by rw [List.getElem?_map, hx]; rfl))
        have hps := hm.out _ (List.getElem_mem hlt)
        clear hcell
        have hx := Lib.hid hx
        generalize hp : l[i] = p at *
        by_cases h60 : 60 < p.size
        · have h60' : (60 : Int) < (p.size : Int) := by omega
          repeat' ((fail_if_success at_builtin); (first | go_skip | go_guarded | go_step))
          go_ret
          exact ⟨_, rfl, hb, fun h => by simp at h⟩
        · have h60' : ¬ (60 : Int) < (p.size : Int) := by omega
          repeat' ((fail_if_success at_builtin); (first | go_skip | go_guarded | go_step))
          go_roundw
          case rel =>
            refine ⟨i + 1, by omega, by omega, by go_num, hb, fun j q hj hq => ?_⟩
            by_cases hji : j = i
            · subst hji
              have := hx.out
              rw [hq] at this
              injection this with this
              rw [this]
              omega
            · exact hall.out j q (by omega) hq
          case measure => simp [intOf]; omega
      · have i2 : ¬ (i : Int) < 10 := by omega
        have i3 : ¬ (l.length : Int) ≤ 10 := by omega
        repeat' ((fail_if_success at_builtin); (first | go_skip | go_guarded | go_step))
        go_ret
        exact ⟨_, rfl, hb, fun h => by simp at h <;> omega⟩
    · have i1 : ¬ (i : Int) < (l.length : Int) := by omega
      have i3 : (l.length : Int) ≤ 10 := by omega
      repeat' ((fail_if_success at_builtin); (first | go_skip | go_guarded | go_step))
      go_ret
      refine ⟨_, rfl, hb, fun _ => ⟨by omega, fun p hp => ?_⟩⟩
      obtain ⟨j, hj, rfl⟩ := List.mem_iff_getElem.1 hp
      exact hall.out j _ (by omega) (List.getElem?_eq_getElem hj)
theorem both_no (k : Int) (h : mayX k 0 = true) : mayX k 1 = false ∧ mayX k 2 = false := by
  have hk : k = 0 := by
    unfold mayX at h
    rw [if_pos rfl] at h
    simp only [Bool.and_eq_true, beq_iff_eq] at h
    exact h.2.2
  subst hk
  exact ⟨rfl, rfl⟩
set_option maxRecDepth 100000 in
set_option maxHeartbeats 800000 in
theorem runs_law (k t : Int) (w : World) (hR : Ready w) : Calls Tryd.prog 5 #[.int .i64 k, .int .i64 t] w fun e w' => e = .returned (.bool true) ∧ Below w.heap.size w w' := by
  have C := awake_any w hR
  replace C := Lib.hid C
  go_enter Tryd.func5, Tryd.ntmps5
  repeat' ((fail_if_success at_builtin); (first | go_skip | go_guarded | go_step))
  refine (run_any k 0 w).mono ?_
  rintro e w1 ⟨rfl, rfl⟩
  dsimp only
  cases h0 : mayX k 0 with
  | false =>
    repeat' ((fail_if_success at_builtin); (first | go_skip | go_guarded | go_step))
    refine (run_any k t _).mono ?_
    rintro e w1 ⟨rfl, rfl⟩
    dsimp only
    repeat' ((fail_if_success at_builtin); (first | go_skip | go_guarded | go_step))
    refine (refRun_any k t _).mono ?_
    rintro e w1 ⟨rfl, rfl⟩
    dsimp only
    repeat' ((fail_if_success at_builtin); (first | go_skip | go_guarded | go_step))
    refine C.out.mono ?_
    rintro e w1 ⟨rfl, hb⟩
    dsimp only
    repeat' ((fail_if_success at_builtin); (first | go_skip | go_guarded | go_step))
    go_ret
    exact ⟨rfl, hb⟩
  | true =>
    obtain ⟨h1, h2⟩ := both_no k h0
    repeat' ((fail_if_success at_builtin); (first | go_skip | go_guarded | go_step))
    refine (run_any k 1 _).mono ?_
    rintro e w1 ⟨rfl, rfl⟩
    rw [h1]
    dsimp only
    repeat' ((fail_if_success at_builtin); (first | go_skip | go_guarded | go_step))
    refine (run_any k 2 _).mono ?_
    rintro e w1 ⟨rfl, rfl⟩
    rw [h2]
    dsimp only
    repeat' ((fail_if_success at_builtin); (first | go_skip | go_guarded | go_step))
    refine (run_any k t _).mono ?_
    rintro e w1 ⟨rfl, rfl⟩
    dsimp only
    repeat' ((fail_if_success at_builtin); (first | go_skip | go_guarded | go_step))
    refine (refRun_any k t _).mono ?_
    rintro e w1 ⟨rfl, rfl⟩
    dsimp only
    repeat' ((fail_if_success at_builtin); (first | go_skip | go_guarded | go_step))
    refine C.out.mono ?_
    rintro e w1 ⟨rfl, hb⟩
    dsimp only
    repeat' ((fail_if_success at_builtin); (first | go_skip | go_guarded | go_step))
    go_ret
    exact ⟨rfl, hb⟩
end Go.Proofs.YtlpeblgcniggmaaDoor
