/- The gate's tests: has its time passed, may somebody decide; comparisons. -/
import Derived.Test.YtionchkblgpklaaDoorGtI
namespace Go.Proofs.YtionchkblgpklaaDoor
open Go.RowKit
theorem has_any (l : List ByteArray) (s : ByteArray) (A : Option Addr) (c B : Nat) (w : World) (hs : Seq w B 1 A l.length (cellsS l)) (hl : l.length ≤ 9223372036854775807) :
    Calls Tryd.prog 35 #[.slice A l.length c, .string s] w fun e w' => e = .returned (.bool (hasL l s)) ∧ w' = w := by
  by_cases h0 : l.length = 0
  · have h1 : l = [] := List.eq_nil_of_length_eq_zero h0
    subst h1
    exact Tryd.slices_Contains_string_empty A c s w
  · obtain ⟨b, o, h, hb, hc⟩ := hs.2 (by omega)
    subst h
    refine (Tryd.slices_Contains_string b o l.length c l s w (Nat.le_refl _) hl (fun j hj => hc j _ (by rw [List.getElem?_map, List.getElem?_eq_getElem hj, getD_eq hj]; rfl))).mono ?_
    rintro e w' ⟨rfl, rfl⟩
    refine ⟨?_, rfl⟩
    have : Lib.containsS (l.take l.length) s = hasL l s := by rw [List.take_length, Bool.eq_iff_iff, Lib.containsS_iff, hasL_mem]
    rw [this]
def passG (g : Gt) (now : Int) : Bool := decide (satI (g.opened + g.s.exp) ≤ now)
def checkG (g : Gt) (who : ByteArray) (now : Int) : Int := if g.state ≠ 0 then 16 else if passG g now = true then 20 else if hasL g.s.who who = false then 18 else 0
def leftG (g : Gt) : Int := if g.state ≠ 0 ∨ g.s.app ≤ (g.yes.length : Int) then 0 else g.s.app - (g.yes.length : Int)
set_option maxRecDepth 100000 in
set_option maxHeartbeats 4000000 in
theorem passed_any (g : Gt) (A : Option Addr) (c : Nat) (A' : Option Addr) (c' : Nat) (now : Int) (w : World) (h1 : I64 g.opened) (h2 : I64 g.s.exp) : Calls Tryd.prog 42 #[.agg (garr g A c A' c'), .int .i64 now] w fun e w' => e = .returned (.bool (passG g now)) ∧ Below w.heap.size w w' := by
  have hb1 := (Below.refl w.heap.size w).alloc (Nat.le_refl _) (.cells (garr g A c A' c') 28)
  have hz : (w.alloc (.cells (garr g A c A' c') 28)).heap.size = w.heap.size + 1 := by simp
  have d0 : ((w.alloc (.cells (garr g A c A' c') 28))).cell? ⟨w.heap.size, 0, none⟩ = some (.int .i64 g.s.app) := by simp [go_sem]
  have d1 : ((w.alloc (.cells (garr g A c A' c') 28))).cell? ⟨w.heap.size, 1, none⟩ = some (.slice A g.s.who.length c) := by simp [go_sem]
  have d2 : ((w.alloc (.cells (garr g A c A' c') 28))).cell? ⟨w.heap.size, 2, none⟩ = some (.int .i64 g.s.exp) := by simp [go_sem]
  have d3 : ((w.alloc (.cells (garr g A c A' c') 28))).cell? ⟨w.heap.size, 3, none⟩ = some (.int .i64 g.opened) := by simp [go_sem]
  have d4 : ((w.alloc (.cells (garr g A c A' c') 28))).cell? ⟨w.heap.size, 4, none⟩ = some (.slice A' g.yes.length c') := by simp [go_sem]
  have d5 : ((w.alloc (.cells (garr g A c A' c') 28))).cell? ⟨w.heap.size, 5, none⟩ = some (.int .i64 g.state) := by simp [go_sem]
  have dF : ∀ j, ((w.alloc (.cells (garr g A c A' c') 28))).frozen? ⟨w.heap.size, j, none⟩ = false := fun j => by simp [go_sem]
  go_enter Tryd.func42, Tryd.ntmps42
  repeat' ((fail_if_success at_builtin); (first | go_skip | go_guarded | go_step))
  generalize (w.alloc (.cells (garr g A c A' c') 28)) = w1 at *
  refine (add_any g.opened g.s.exp w1 h1 h2).mono ?_
  rintro e w2 ⟨rfl, rfl⟩
  dsimp only
  repeat' ((fail_if_success at_builtin); (first | go_skip | go_guarded | go_step))
  go_ret
  exact ⟨rfl, hb1⟩
set_option maxRecDepth 100000 in
set_option maxHeartbeats 4000000 in
theorem refPassed_any (g : Gt) (A : Option Addr) (c : Nat) (A' : Option Addr) (c' : Nat) (now : Int) (w : World) (h1 : I64 g.opened) (h2 : I64 g.s.exp) : Calls Tryd.prog 43 #[.agg (garr g A c A' c'), .int .i64 now] w fun e w' => e = .returned (.bool (passG g now)) ∧ Below w.heap.size w w' := by
  have hb1 := (Below.refl w.heap.size w).alloc (Nat.le_refl _) (.cells (garr g A c A' c') 28)
  have hz : (w.alloc (.cells (garr g A c A' c') 28)).heap.size = w.heap.size + 1 := by simp
  have d0 : ((w.alloc (.cells (garr g A c A' c') 28))).cell? ⟨w.heap.size, 0, none⟩ = some (.int .i64 g.s.app) := by simp [go_sem]
  have d1 : ((w.alloc (.cells (garr g A c A' c') 28))).cell? ⟨w.heap.size, 1, none⟩ = some (.slice A g.s.who.length c) := by simp [go_sem]
  have d2 : ((w.alloc (.cells (garr g A c A' c') 28))).cell? ⟨w.heap.size, 2, none⟩ = some (.int .i64 g.s.exp) := by simp [go_sem]
  have d3 : ((w.alloc (.cells (garr g A c A' c') 28))).cell? ⟨w.heap.size, 3, none⟩ = some (.int .i64 g.opened) := by simp [go_sem]
  have d4 : ((w.alloc (.cells (garr g A c A' c') 28))).cell? ⟨w.heap.size, 4, none⟩ = some (.slice A' g.yes.length c') := by simp [go_sem]
  have d5 : ((w.alloc (.cells (garr g A c A' c') 28))).cell? ⟨w.heap.size, 5, none⟩ = some (.int .i64 g.state) := by simp [go_sem]
  have dF : ∀ j, ((w.alloc (.cells (garr g A c A' c') 28))).frozen? ⟨w.heap.size, j, none⟩ = false := fun j => by simp [go_sem]
  go_enter Tryd.func43, Tryd.ntmps43
  repeat' ((fail_if_success at_builtin); (first | go_skip | go_guarded | go_step))
  generalize (w.alloc (.cells (garr g A c A' c') 28)) = w1 at *
  refine (refAdd_any g.opened g.s.exp w1 h1 h2).mono ?_
  rintro e w2 ⟨rfl, rfl⟩
  dsimp only
  repeat' ((fail_if_success at_builtin); (first | go_skip | go_guarded | go_step))
  go_ret
  exact ⟨rfl, hb1⟩
set_option maxRecDepth 100000 in
set_option maxHeartbeats 4000000 in
theorem check_any (g : Gt) (A : Option Addr) (c : Nat) (A' : Option Addr) (c' : Nat) (who : ByteArray) (now : Int) (w : World) (hs : Seq w w.heap.size 1 A g.s.who.length (cellsS g.s.who)) (hl : g.s.who.length ≤ 1000) (h1 : I64 g.opened) (h2 : I64 g.s.exp) : Calls Tryd.prog 34 #[.agg (garr g A c A' c'), .string who, .int .i64 now] w fun e w' => e = .returned (.int .i64 (checkG g who now)) ∧ Below w.heap.size w w' := by
  have hN : checkG g who now = checkG g who now := rfl
  conv at hN => rhs; unfold checkG
  generalize checkG g who now = r at *
  have hb1 := (Below.refl w.heap.size w).alloc (Nat.le_refl _) (.cells (garr g A c A' c') 28)
  have hz : (w.alloc (.cells (garr g A c A' c') 28)).heap.size = w.heap.size + 1 := by simp
  have d0 : ((w.alloc (.cells (garr g A c A' c') 28))).cell? ⟨w.heap.size, 0, none⟩ = some (.int .i64 g.s.app) := by simp [go_sem]
  have d1 : ((w.alloc (.cells (garr g A c A' c') 28))).cell? ⟨w.heap.size, 1, none⟩ = some (.slice A g.s.who.length c) := by simp [go_sem]
  have d2 : ((w.alloc (.cells (garr g A c A' c') 28))).cell? ⟨w.heap.size, 2, none⟩ = some (.int .i64 g.s.exp) := by simp [go_sem]
  have d3 : ((w.alloc (.cells (garr g A c A' c') 28))).cell? ⟨w.heap.size, 3, none⟩ = some (.int .i64 g.opened) := by simp [go_sem]
  have d4 : ((w.alloc (.cells (garr g A c A' c') 28))).cell? ⟨w.heap.size, 4, none⟩ = some (.slice A' g.yes.length c') := by simp [go_sem]
  have d5 : ((w.alloc (.cells (garr g A c A' c') 28))).cell? ⟨w.heap.size, 5, none⟩ = some (.int .i64 g.state) := by simp [go_sem]
  have dF : ∀ j, ((w.alloc (.cells (garr g A c A' c') 28))).frozen? ⟨w.heap.size, j, none⟩ = false := fun j => by simp [go_sem]
  have hs1 := (hs.below hb1).more hb1.size
  by_cases q0 : g.state = 0
  · rw [if_neg (Decidable.not_not.2 q0)] at hN
    have p0 : (g.state == 0) = true := by simp [q0]
    have p1 : (g.state != 0) = false := by simp [q0]
    replace hN := Lib.hid hN
    clear q0
    go_enter Tryd.func34, Tryd.ntmps34
    repeat' ((fail_if_success at_builtin); (first | go_skip | go_guarded | go_step))
    generalize (w.alloc (.cells (garr g A c A' c') 28)) = w1 at *
    refine (passed_any g A c A' c' now w1 h1 h2).mono ?_
    rintro e w2 ⟨rfl, hb2⟩
    dsimp only
    replace d0 := (hb2.cell (p := ⟨w.heap.size, 0, none⟩) (by dsimp only; omega)).trans d0
    replace d1 := (hb2.cell (p := ⟨w.heap.size, 1, none⟩) (by dsimp only; omega)).trans d1
    replace d2 := (hb2.cell (p := ⟨w.heap.size, 2, none⟩) (by dsimp only; omega)).trans d2
    replace d3 := (hb2.cell (p := ⟨w.heap.size, 3, none⟩) (by dsimp only; omega)).trans d3
    replace d4 := (hb2.cell (p := ⟨w.heap.size, 4, none⟩) (by dsimp only; omega)).trans d4
    replace d5 := (hb2.cell (p := ⟨w.heap.size, 5, none⟩) (by dsimp only; omega)).trans d5
    replace dF := frz_below hb2 (by omega) dF
    have hb12 := hb1.trans (hb2.mono hb1.size)
    cases hp : passG g now with
    | true =>
      have hN' := hN.out
      rw [if_pos hp] at hN'
      replace hN := Lib.hid hN'
      clear hN'
      repeat' ((fail_if_success at_builtin); (first | go_skip | go_guarded | go_step))
      go_ret
      exact ⟨by rw [hN.out]; rfl, hb12⟩
    | false =>
      have hN' := hN.out
      rw [if_neg (by simp [hp])] at hN'
      replace hN := Lib.hid hN'
      clear hN'
      repeat' ((fail_if_success at_builtin); (first | go_skip | go_guarded | go_step))
      refine (has_any g.s.who who A c _ w2 (hs1.below hb2) (by omega)).mono ?_
      rintro e w3 ⟨rfl, rfl⟩
      dsimp only
      cases hh : hasL g.s.who who with
      | true =>
        have hN' := hN.out
        rw [if_neg (by simp [hh])] at hN'
        replace hN := Lib.hid hN'
        clear hN'
        repeat' ((fail_if_success at_builtin); (first | go_skip | go_guarded | go_step))
        go_ret
        exact ⟨by rw [hN.out]; rfl, hb12⟩
      | false =>
        have hN' := hN.out
        rw [if_pos hh] at hN'
        replace hN := Lib.hid hN'
        clear hN'
        repeat' ((fail_if_success at_builtin); (first | go_skip | go_guarded | go_step))
        go_ret
        exact ⟨by rw [hN.out]; rfl, hb12⟩
  · rw [if_pos q0] at hN
    have p0 : (g.state == 0) = false := by simp [q0]
    have p1 : (g.state != 0) = true := by simp [q0]
    replace hN := Lib.hid hN
    by_cases q1 : g.state = 1
    · have p2 : (g.state == 1) = true := by simp [q1]
      clear q0
      go_enter Tryd.func34, Tryd.ntmps34
      repeat' ((fail_if_success at_builtin); (first | go_skip | go_guarded | go_step))
      go_ret
      exact ⟨by rw [hN.out]; rfl, hb1⟩
    · have p2 : (g.state == 1) = false := by simp [q1]
      by_cases q2 : g.state = 2
      · have p3 : (g.state == 2) = true := by simp [q2]
        clear q0 q1
        go_enter Tryd.func34, Tryd.ntmps34
        repeat' ((fail_if_success at_builtin); (first | go_skip | go_guarded | go_step))
        go_ret
        exact ⟨by rw [hN.out]; rfl, hb1⟩
      · have p3 : (g.state == 2) = false := by simp [q2]
        by_cases q3 : g.state = 3
        · have p4 : (g.state == 3) = true := by simp [q3]
          clear q0 q1 q2
          go_enter Tryd.func34, Tryd.ntmps34
          repeat' ((fail_if_success at_builtin); (first | go_skip | go_guarded | go_step))
          go_ret
          exact ⟨by rw [hN.out]; rfl, hb1⟩
        · have p4 : (g.state == 3) = false := by simp [q3]
          clear q0 q1 q2 q3
          go_enter Tryd.func34, Tryd.ntmps34
          repeat' ((fail_if_success at_builtin); (first | go_skip | go_guarded | go_step))
          go_ret
          exact ⟨by rw [hN.out]; rfl, hb1⟩
set_option maxRecDepth 100000 in
set_option maxHeartbeats 4000000 in
theorem decide_any (g : Gt) (A : Option Addr) (c : Nat) (A' : Option Addr) (c' : Nat) (who : ByteArray) (now : Int) (w : World) (hs : Seq w w.heap.size 1 A g.s.who.length (cellsS g.s.who)) (hl : g.s.who.length ≤ 1000) (h1 : I64 g.opened) (h2 : I64 g.s.exp) : Calls Tryd.prog 40 #[.agg (garr g A c A' c'), .string who, .int .i64 now] w fun e w' => e = .returned (.int .i64 (checkG g who now)) ∧ Below w.heap.size w w' := by
  have hN : checkG g who now = checkG g who now := rfl
  conv at hN => rhs; unfold checkG
  generalize checkG g who now = r at *
  have hb1 := (Below.refl w.heap.size w).alloc (Nat.le_refl _) (.cells (garr g A c A' c') 28)
  have hz : (w.alloc (.cells (garr g A c A' c') 28)).heap.size = w.heap.size + 1 := by simp
  have d0 : ((w.alloc (.cells (garr g A c A' c') 28))).cell? ⟨w.heap.size, 0, none⟩ = some (.int .i64 g.s.app) := by simp [go_sem]
  have d1 : ((w.alloc (.cells (garr g A c A' c') 28))).cell? ⟨w.heap.size, 1, none⟩ = some (.slice A g.s.who.length c) := by simp [go_sem]
  have d2 : ((w.alloc (.cells (garr g A c A' c') 28))).cell? ⟨w.heap.size, 2, none⟩ = some (.int .i64 g.s.exp) := by simp [go_sem]
  have d3 : ((w.alloc (.cells (garr g A c A' c') 28))).cell? ⟨w.heap.size, 3, none⟩ = some (.int .i64 g.opened) := by simp [go_sem]
  have d4 : ((w.alloc (.cells (garr g A c A' c') 28))).cell? ⟨w.heap.size, 4, none⟩ = some (.slice A' g.yes.length c') := by simp [go_sem]
  have d5 : ((w.alloc (.cells (garr g A c A' c') 28))).cell? ⟨w.heap.size, 5, none⟩ = some (.int .i64 g.state) := by simp [go_sem]
  have dF : ∀ j, ((w.alloc (.cells (garr g A c A' c') 28))).frozen? ⟨w.heap.size, j, none⟩ = false := fun j => by simp [go_sem]
  have hs1 := (hs.below hb1).more hb1.size
  by_cases q0 : g.state = 0
  · rw [if_neg (Decidable.not_not.2 q0)] at hN
    have p0 : (g.state == 0) = true := by simp [q0]
    have p1 : (g.state != 0) = false := by simp [q0]
    replace hN := Lib.hid hN
    clear q0
    go_enter Tryd.func40, Tryd.ntmps40
    repeat' ((fail_if_success at_builtin); (first | go_skip | go_guarded | go_step))
    generalize (w.alloc (.cells (garr g A c A' c') 28)) = w1 at *
    refine (refPassed_any g A c A' c' now w1 h1 h2).mono ?_
    rintro e w2 ⟨rfl, hb2⟩
    dsimp only
    replace d0 := (hb2.cell (p := ⟨w.heap.size, 0, none⟩) (by dsimp only; omega)).trans d0
    replace d1 := (hb2.cell (p := ⟨w.heap.size, 1, none⟩) (by dsimp only; omega)).trans d1
    replace d2 := (hb2.cell (p := ⟨w.heap.size, 2, none⟩) (by dsimp only; omega)).trans d2
    replace d3 := (hb2.cell (p := ⟨w.heap.size, 3, none⟩) (by dsimp only; omega)).trans d3
    replace d4 := (hb2.cell (p := ⟨w.heap.size, 4, none⟩) (by dsimp only; omega)).trans d4
    replace d5 := (hb2.cell (p := ⟨w.heap.size, 5, none⟩) (by dsimp only; omega)).trans d5
    replace dF := frz_below hb2 (by omega) dF
    have hb12 := hb1.trans (hb2.mono hb1.size)
    cases hp : passG g now with
    | true =>
      have hN' := hN.out
      rw [if_pos hp] at hN'
      replace hN := Lib.hid hN'
      clear hN'
      repeat' ((fail_if_success at_builtin); (first | go_skip | go_guarded | go_step))
      go_ret
      exact ⟨by rw [hN.out]; rfl, hb12⟩
    | false =>
      have hN' := hN.out
      rw [if_neg (by simp [hp])] at hN'
      replace hN := Lib.hid hN'
      clear hN'
      repeat' ((fail_if_success at_builtin); (first | go_skip | go_guarded | go_step))
      refine (refHas_any g.s.who who A c _ w2 (hs1.below hb2) (by omega)).mono ?_
      rintro e w3 ⟨rfl, rfl⟩
      dsimp only
      cases hh : hasL g.s.who who with
      | true =>
        have hN' := hN.out
        rw [if_neg (by simp [hh])] at hN'
        replace hN := Lib.hid hN'
        clear hN'
        repeat' ((fail_if_success at_builtin); (first | go_skip | go_guarded | go_step))
        go_ret
        exact ⟨by rw [hN.out]; rfl, hb12⟩
      | false =>
        have hN' := hN.out
        rw [if_pos hh] at hN'
        replace hN := Lib.hid hN'
        clear hN'
        repeat' ((fail_if_success at_builtin); (first | go_skip | go_guarded | go_step))
        go_ret
        exact ⟨by rw [hN.out]; rfl, hb12⟩
  · rw [if_pos q0] at hN
    have p0 : (g.state == 0) = false := by simp [q0]
    have p1 : (g.state != 0) = true := by simp [q0]
    replace hN := Lib.hid hN
    clear q0
    go_enter Tryd.func40, Tryd.ntmps40
    repeat' ((fail_if_success at_builtin); (first | go_skip | go_guarded | go_step))
    go_ret
    exact ⟨by rw [hN.out]; rfl, hb1⟩
set_option maxRecDepth 100000 in
set_option maxHeartbeats 4000000 in
theorem left_any (g : Gt) (A : Option Addr) (c : Nat) (A' : Option Addr) (c' : Nat) (w : World) (h3 : I64 g.s.app) : Calls Tryd.prog 22 #[.agg (garr g A c A' c')] w fun e w' => e = .returned (.int .i64 (leftG g)) ∧ Below w.heap.size w w' := by
  have hN : leftG g = leftG g := rfl
  conv at hN => rhs; unfold leftG
  generalize leftG g = r at *
  have hb1 := (Below.refl w.heap.size w).alloc (Nat.le_refl _) (.cells (garr g A c A' c') 28)
  have d0 : ((w.alloc (.cells (garr g A c A' c') 28))).cell? ⟨w.heap.size, 0, none⟩ = some (.int .i64 g.s.app) := by simp [go_sem]
  have d1 : ((w.alloc (.cells (garr g A c A' c') 28))).cell? ⟨w.heap.size, 1, none⟩ = some (.slice A g.s.who.length c) := by simp [go_sem]
  have d2 : ((w.alloc (.cells (garr g A c A' c') 28))).cell? ⟨w.heap.size, 2, none⟩ = some (.int .i64 g.s.exp) := by simp [go_sem]
  have d3 : ((w.alloc (.cells (garr g A c A' c') 28))).cell? ⟨w.heap.size, 3, none⟩ = some (.int .i64 g.opened) := by simp [go_sem]
  have d4 : ((w.alloc (.cells (garr g A c A' c') 28))).cell? ⟨w.heap.size, 4, none⟩ = some (.slice A' g.yes.length c') := by simp [go_sem]
  have d5 : ((w.alloc (.cells (garr g A c A' c') 28))).cell? ⟨w.heap.size, 5, none⟩ = some (.int .i64 g.state) := by simp [go_sem]
  have dF : ∀ j, ((w.alloc (.cells (garr g A c A' c') 28))).frozen? ⟨w.heap.size, j, none⟩ = false := fun j => by simp [go_sem]
  by_cases q0 : g.state = 0
  · have p1 : (g.state != 0) = false := by simp [q0]
    by_cases q1 : g.s.app ≤ (g.yes.length : Int)
    · rw [if_pos (.inr q1)] at hN
      replace hN := Lib.hid hN
      clear q0
      go_enter Tryd.func22, Tryd.ntmps22
      repeat' ((fail_if_success at_builtin); (first | go_skip | go_guarded | go_step))
      go_ret
      exact ⟨by rw [hN.out]; rfl, hb1⟩
    · rw [if_neg (by omega)] at hN
      have q2 : ¬ g.s.app ≤ (g.yes.length : Int) := q1
      have hw : IntKind.i64.wrap (g.s.app - (g.yes.length : Int)) = g.s.app - (g.yes.length : Int) := by rw [IntKind.wrap_i64]; have := h3.2; omega
      replace hN := Lib.hid hN
      clear q0 q1
      go_enter Tryd.func22, Tryd.ntmps22
      repeat' ((fail_if_success at_builtin); (first | go_skip | go_guarded | go_step))
      go_ret
      exact ⟨by rw [hN.out]; rfl, hb1⟩
  · rw [if_pos (.inl q0)] at hN
    have p1 : (g.state != 0) = true := by simp [q0]
    replace hN := Lib.hid hN
    clear q0
    go_enter Tryd.func22, Tryd.ntmps22
    repeat' ((fail_if_success at_builtin); (first | go_skip | go_guarded | go_step))
    go_ret
    exact ⟨by rw [hN.out]; rfl, hb1⟩
set_option maxRecDepth 100000 in
set_option maxHeartbeats 4000000 in
theorem refLeft_any (g : Gt) (A : Option Addr) (c : Nat) (A' : Option Addr) (c' : Nat) (w : World) (h3 : I64 g.s.app) : Calls Tryd.prog 23 #[.agg (garr g A c A' c')] w fun e w' => e = .returned (.int .i64 (leftG g)) ∧ Below w.heap.size w w' := by
  have hN : leftG g = leftG g := rfl
  conv at hN => rhs; unfold leftG
  generalize leftG g = r at *
  have hb1 := (Below.refl w.heap.size w).alloc (Nat.le_refl _) (.cells (garr g A c A' c') 28)
  have d0 : ((w.alloc (.cells (garr g A c A' c') 28))).cell? ⟨w.heap.size, 0, none⟩ = some (.int .i64 g.s.app) := by simp [go_sem]
  have d1 : ((w.alloc (.cells (garr g A c A' c') 28))).cell? ⟨w.heap.size, 1, none⟩ = some (.slice A g.s.who.length c) := by simp [go_sem]
  have d2 : ((w.alloc (.cells (garr g A c A' c') 28))).cell? ⟨w.heap.size, 2, none⟩ = some (.int .i64 g.s.exp) := by simp [go_sem]
  have d3 : ((w.alloc (.cells (garr g A c A' c') 28))).cell? ⟨w.heap.size, 3, none⟩ = some (.int .i64 g.opened) := by simp [go_sem]
  have d4 : ((w.alloc (.cells (garr g A c A' c') 28))).cell? ⟨w.heap.size, 4, none⟩ = some (.slice A' g.yes.length c') := by simp [go_sem]
  have d5 : ((w.alloc (.cells (garr g A c A' c') 28))).cell? ⟨w.heap.size, 5, none⟩ = some (.int .i64 g.state) := by simp [go_sem]
  have dF : ∀ j, ((w.alloc (.cells (garr g A c A' c') 28))).frozen? ⟨w.heap.size, j, none⟩ = false := fun j => by simp [go_sem]
  by_cases q0 : g.state = 0
  · have p1 : (g.state != 0) = false := by simp [q0]
    by_cases q1 : g.s.app ≤ (g.yes.length : Int)
    · rw [if_pos (.inr q1)] at hN
      replace hN := Lib.hid hN
      clear q0
      go_enter Tryd.func23, Tryd.ntmps23
      repeat' ((fail_if_success at_builtin); (first | go_skip | go_guarded | go_step))
      go_ret
      exact ⟨by rw [hN.out]; rfl, hb1⟩
    · rw [if_neg (by omega)] at hN
      have q2 : ¬ g.s.app ≤ (g.yes.length : Int) := q1
      have hw : IntKind.i64.wrap (g.s.app - (g.yes.length : Int)) = g.s.app - (g.yes.length : Int) := by rw [IntKind.wrap_i64]; have := h3.2; omega
      replace hN := Lib.hid hN
      clear q0 q1
      go_enter Tryd.func23, Tryd.ntmps23
      repeat' ((fail_if_success at_builtin); (first | go_skip | go_guarded | go_step))
      go_ret
      exact ⟨by rw [hN.out]; rfl, hb1⟩
  · rw [if_pos (.inl q0)] at hN
    have p1 : (g.state != 0) = true := by simp [q0]
    replace hN := Lib.hid hN
    clear q0
    go_enter Tryd.func23, Tryd.ntmps23
    repeat' ((fail_if_success at_builtin); (first | go_skip | go_guarded | go_step))
    go_ret
    exact ⟨by rw [hN.out]; rfl, hb1⟩
end Go.Proofs.YtionchkblgpklaaDoor
