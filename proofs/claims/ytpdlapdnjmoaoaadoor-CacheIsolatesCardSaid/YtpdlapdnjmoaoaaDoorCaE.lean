/- Cache: entries, scopes: the small walks, both sides. -/
import Derived.Test.YtpdlapdnjmoaoaaDoorIdS
import Derived.Deep.RegionHeld3
import Derived.Deep.OwnRows
import Derived.BigQuiet
import Derived.BigRegion
import Derived.Deep.DeepCutAuto
namespace Go.Proofs.YtpdlapdnjmoaoaaDoor
open Go.RowKit
structure Scp where
  prj : ByteArray
  trust : Int
  ref : ByteArray
structure Ent where
  sc : Scp
  key : ByteArray
  dig : Int
  size : Int
  created : Int
  used : Int
abbrev pcells (s : Scp) : Array Value := #[.string s.prj, .int .i64 s.trust, .string s.ref]
abbrev ent8 (e : Ent) : Array Value := #[.string e.sc.prj, .int .i64 e.sc.trust, .string e.sc.ref, .string e.key, .int .u64 e.dig, .int .i64 e.size, .int .i64 e.created, .int .i64 e.used]
abbrev entsC (l : List Ent) : List Value := l.flatMap fun e => (ent8 e).toList
def inR (a b c : Int) : Bool := decide (b ≤ a) && decide (a ≤ c)
def scopeS (s : Scp) : Bool := nameS s.prj.data.toList && inR s.trust 0 2 && decide (pathE s.ref.data.toList = 0)
def namedS (e : Ent) : Bool := scopeS e.sc && inR e.key.size 1 512 && decide (e.dig ≠ 0)
def rightS (e : Ent) : Bool := namedS e && inR e.size 0 1099511627776 && inR e.created 0 1125899906842624 && inR e.used e.created 1125899906842624
/-- texts that are not too long -/
def Scp.fits (s : Scp) : Prop := s.prj.size ≤ 1000000 ∧ s.ref.size ≤ 1000000
set_option maxRecDepth 100000 in
set_option maxHeartbeats 1000000 in
theorem within_any (a b c : Int) (w : World) : Calls Tryd.prog 35 #[.int .i64 a, .int .i64 b, .int .i64 c] w fun e w' => e = .returned (.bool (inR a b c)) ∧ w' = w := by
  by_cases h1 : b ≤ a
  · by_cases h2 : a ≤ c
    · have hv : inR a b c = true := by unfold inR; rw [decide_eq_true h1, decide_eq_true h2]; rfl
      have hv := Lib.hid hv
      go_enter Tryd.func35, Tryd.ntmps35
      repeat' ((fail_if_success at_builtin); (first | go_skip | go_guarded | go_step))
      go_ret
      exact ⟨ret_b hv.out.symm, rfl⟩
    · have hv : inR a b c = false := by unfold inR; rw [decide_eq_false h2, Bool.and_false]
      have hv := Lib.hid hv
      go_enter Tryd.func35, Tryd.ntmps35
      repeat' ((fail_if_success at_builtin); (first | go_skip | go_guarded | go_step))
      go_ret
      exact ⟨ret_b hv.out.symm, rfl⟩
  · have hv : inR a b c = false := by unfold inR; rw [decide_eq_false h1]; rfl
    have hv := Lib.hid hv
    go_enter Tryd.func35, Tryd.ntmps35
    repeat' ((fail_if_success at_builtin); (first | go_skip | go_guarded | go_step))
    go_ret
    exact ⟨ret_b hv.out.symm, rfl⟩
set_option maxRecDepth 100000 in
set_option maxHeartbeats 1000000 in
theorem inside_any (a b c : Int) (w : World) : Calls Tryd.prog 37 #[.int .i64 a, .int .i64 b, .int .i64 c] w fun e w' => e = .returned (.bool (inR a b c)) ∧ w' = w := by
  by_cases h1 : b ≤ a
  · by_cases h2 : a ≤ c
    · have hv : inR a b c = true := by unfold inR; rw [decide_eq_true h1, decide_eq_true h2]; rfl
      have hv := Lib.hid hv
      go_enter Tryd.func37, Tryd.ntmps37
      repeat' ((fail_if_success at_builtin); (first | go_skip | go_guarded | go_step))
      go_ret
      exact ⟨ret_b hv.out.symm, rfl⟩
    · have hv : inR a b c = false := by unfold inR; rw [decide_eq_false h2, Bool.and_false]
      have hv := Lib.hid hv
      go_enter Tryd.func37, Tryd.ntmps37
      repeat' ((fail_if_success at_builtin); (first | go_skip | go_guarded | go_step))
      go_ret
      exact ⟨ret_b hv.out.symm, rfl⟩
  · have hv : inR a b c = false := by unfold inR; rw [decide_eq_false h1]; rfl
    have hv := Lib.hid hv
    go_enter Tryd.func37, Tryd.ntmps37
    repeat' ((fail_if_success at_builtin); (first | go_skip | go_guarded | go_step))
    go_ret
    exact ⟨ret_b hv.out.symm, rfl⟩
set_option maxRecDepth 100000 in
set_option maxHeartbeats 1000000 in
theorem scope_any (s : Scp) (w : World) (hR : Ready w) (h1 : s.prj.size ≤ 1000000) (h2 : s.ref.size ≤ 1000000) : Calls Tryd.prog 62 #[.agg (pcells s)] w fun e w' => e = .returned (.bool (scopeS s)) ∧ Below w.heap.size w w' := by
  have hb0 := (Below.refl w.heap.size w).alloc (Nat.le_refl _) (.cells (pcells s) 38)
  have z0 : (w.alloc (.cells (pcells s) 38)).cell? ⟨w.heap.size, 0, none⟩ = some (.string s.prj) := by simp [go_sem]
  have z1 : (w.alloc (.cells (pcells s) 38)).cell? ⟨w.heap.size, 1, none⟩ = some (.int .i64 s.trust) := by simp [go_sem]
  have z2 : (w.alloc (.cells (pcells s) 38)).cell? ⟨w.heap.size, 2, none⟩ = some (.string s.ref) := by simp [go_sem]
  have zz : w.heap.size < (w.alloc (.cells (pcells s) 38)).heap.size := by simp
  have C1 := parts_any s.ref (w.alloc (.cells (pcells s) 38)) (by omega) (hR.below hb0)
  have C2 := fun w1 => idName_any s.prj w1 (by omega)
  replace C1 := Lib.hid C1
  replace C2 := Lib.hid C2
  go_enter Tryd.func62, Tryd.ntmps62
  repeat' ((fail_if_success at_builtin); (first | go_skip | go_guarded | go_step))
  refine C1.out.mono ?_
  rintro e w1 ⟨⟨v, rfl⟩, hb⟩
  clear C1
  have hb1 := hb0.trans (hb.mono (Nat.le_of_lt zz))
  have y0 := (hb.cell (p := ⟨w.heap.size, 0, none⟩) zz).trans z0
  have y1 := (hb.cell (p := ⟨w.heap.size, 1, none⟩) zz).trans z1
  have zz1 := Nat.lt_of_lt_of_le zz hb.size
  dsimp only
  have hsc : scopeS s = (nameS s.prj.data.toList && inR s.trust 0 2 && decide (pathE s.ref.data.toList = 0)) := rfl
  generalize pathE s.ref.data.toList = p at *
  replace hsc := Lib.hid hsc
  clear z0 z1 z2 hb hb0
  repeat' ((fail_if_success at_builtin); (first | go_skip | go_guarded | go_step))
  refine (C2.out w1).mono ?_
  rintro e w3 ⟨rfl, hbn⟩
  have hb3 := hb1.trans (hbn.mono hb1.size)
  replace y1 := (hbn.cell (p := ⟨w.heap.size, 1, none⟩) zz1).trans y1
  dsimp only
  generalize nameS s.prj.data.toList = nm at *
  cases nm with
  | false =>
    have hv : scopeS s = false := by rw [hsc.out]; rfl
    have hv := Lib.hid hv
    repeat' ((fail_if_success at_builtin); (first | go_skip | go_guarded | go_step))
    go_ret
    exact ⟨ret_b hv.out.symm, hb3⟩
  | true =>
    repeat' ((fail_if_success at_builtin); (first | go_skip | go_guarded | go_step))
    refine (within_any _ _ _ _).mono ?_
    rintro e w4 ⟨rfl, rfl⟩
    dsimp only
    generalize inR s.trust 0 2 = t at *
    cases t with
    | false =>
      have hv : scopeS s = false := by rw [hsc.out]; rfl
      have hv := Lib.hid hv
      repeat' ((fail_if_success at_builtin); (first | go_skip | go_guarded | go_step))
      go_ret
      exact ⟨ret_b hv.out.symm, hb3⟩
    | true =>
      by_cases hp : p = 0
      · have hv : scopeS s = true := by rw [hsc.out, hp]; rfl
        have hv := Lib.hid hv
        have hp' : ((p : Int)) = 0 := by omega
        repeat' ((fail_if_success at_builtin); (first | go_skip | go_guarded | go_step))
        go_ret
        exact ⟨ret_b hv.out.symm, hb3⟩
      · have hv : scopeS s = false := by rw [hsc.out, decide_eq_false hp]; rfl
        have hv := Lib.hid hv
        have hp' : ((p : Int) == 0) = false := by simpa using (by omega : ¬ (p : Int) = 0)
        repeat' ((fail_if_success at_builtin); (first | go_skip | go_guarded | go_step))
        go_ret
        exact ⟨ret_b hv.out.symm, hb3⟩
set_option maxRecDepth 100000 in
set_option maxHeartbeats 1000000 in
theorem refScope_any (s : Scp) (w : World) (h1 : s.prj.size ≤ 1000000) (h2 : s.ref.size ≤ 1000000) : Calls Tryd.prog 44 #[.agg (pcells s)] w fun e w' => e = .returned (.bool (scopeS s)) ∧ Below w.heap.size w w' := by
  have hb0 := (Below.refl w.heap.size w).alloc (Nat.le_refl _) (.cells (pcells s) 38)
  have z0 : (w.alloc (.cells (pcells s) 38)).cell? ⟨w.heap.size, 0, none⟩ = some (.string s.prj) := by simp [go_sem]
  have z1 : (w.alloc (.cells (pcells s) 38)).cell? ⟨w.heap.size, 1, none⟩ = some (.int .i64 s.trust) := by simp [go_sem]
  have z2 : (w.alloc (.cells (pcells s) 38)).cell? ⟨w.heap.size, 2, none⟩ = some (.string s.ref) := by simp [go_sem]
  have zz : w.heap.size < (w.alloc (.cells (pcells s) 38)).heap.size := by simp
  have C1 := refParts_any s.ref (w.alloc (.cells (pcells s) 38)) (by omega)
  have C2 := fun w1 => refName_any s.prj w1 (by omega)
  replace C1 := Lib.hid C1
  replace C2 := Lib.hid C2
  go_enter Tryd.func44, Tryd.ntmps44
  repeat' ((fail_if_success at_builtin); (first | go_skip | go_guarded | go_step))
  refine C1.out.mono ?_
  rintro e w1 ⟨⟨v, rfl⟩, hb⟩
  clear C1
  have hb1 := hb0.trans (hb.mono (Nat.le_of_lt zz))
  have y0 := (hb.cell (p := ⟨w.heap.size, 0, none⟩) zz).trans z0
  have y1 := (hb.cell (p := ⟨w.heap.size, 1, none⟩) zz).trans z1
  have zz1 := Nat.lt_of_lt_of_le zz hb.size
  dsimp only
  have hsc : scopeS s = (nameS s.prj.data.toList && inR s.trust 0 2 && decide (pathE s.ref.data.toList = 0)) := rfl
  generalize pathE s.ref.data.toList = p at *
  replace hsc := Lib.hid hsc
  clear z0 z1 z2 hb hb0
  repeat' ((fail_if_success at_builtin); (first | go_skip | go_guarded | go_step))
  refine (C2.out w1).mono ?_
  rintro e w3 ⟨rfl, rfl⟩
  have hb3 := hb1
  dsimp only
  generalize nameS s.prj.data.toList = nm at *
  cases nm with
  | false =>
    have hv : scopeS s = false := by rw [hsc.out]; rfl
    have hv := Lib.hid hv
    repeat' ((fail_if_success at_builtin); (first | go_skip | go_guarded | go_step))
    go_ret
    exact ⟨ret_b hv.out.symm, hb3⟩
  | true =>
    repeat' ((fail_if_success at_builtin); (first | go_skip | go_guarded | go_step))
    refine (inside_any _ _ _ _).mono ?_
    rintro e w4 ⟨rfl, rfl⟩
    dsimp only
    generalize inR s.trust 0 2 = t at *
    cases t with
    | false =>
      have hv : scopeS s = false := by rw [hsc.out]; rfl
      have hv := Lib.hid hv
      repeat' ((fail_if_success at_builtin); (first | go_skip | go_guarded | go_step))
      go_ret
      exact ⟨ret_b hv.out.symm, hb3⟩
    | true =>
      by_cases hp : p = 0
      · have hv : scopeS s = true := by rw [hsc.out, hp]; rfl
        have hv := Lib.hid hv
        have hp' : ((p : Int)) = 0 := by omega
        repeat' ((fail_if_success at_builtin); (first | go_skip | go_guarded | go_step))
        go_ret
        exact ⟨ret_b hv.out.symm, hb3⟩
      · have hv : scopeS s = false := by rw [hsc.out, decide_eq_false hp]; rfl
        have hv := Lib.hid hv
        have hp' : ((p : Int) == 0) = false := by simpa using (by omega : ¬ (p : Int) = 0)
        repeat' ((fail_if_success at_builtin); (first | go_skip | go_guarded | go_step))
        go_ret
        exact ⟨ret_b hv.out.symm, hb3⟩
set_option maxRecDepth 100000 in
set_option maxHeartbeats 1000000 in
theorem named_any (x : Ent) (w : World) (hR : Ready w) (h1 : x.sc.prj.size ≤ 1000000) (h2 : x.sc.ref.size ≤ 1000000) : Calls Tryd.prog 36 #[.agg (ent8 x)] w fun e w' => e = .returned (.bool (namedS x)) ∧ Below w.heap.size w w' := by
  have hb0 := (Below.refl w.heap.size w).alloc (Nat.le_refl _) (.cells (ent8 x) 42)
  have z3 : (w.alloc (.cells (ent8 x) 42)).cell? ⟨w.heap.size, 3, none⟩ = some (.string x.key) := by simp [go_sem]
  have z4 : (w.alloc (.cells (ent8 x) 42)).cell? ⟨w.heap.size, 4, none⟩ = some (.int .u64 x.dig) := by simp [go_sem]
  have zz : w.heap.size < (w.alloc (.cells (ent8 x) 42)).heap.size := by simp
  have C1 := scope_any x.sc (w.alloc (.cells (ent8 x) 42)) (hR.below hb0) h1 h2
  replace C1 := Lib.hid C1
  have hv0 : namedS x = (scopeS x.sc && inR x.key.size 1 512 && decide (x.dig ≠ 0)) := rfl
  replace hv0 := Lib.hid hv0
  go_enter Tryd.func36, Tryd.ntmps36
  repeat' ((fail_if_success at_builtin); (first | go_skip | go_guarded | go_step))
  refine C1.out.mono ?_
  rintro e w1 ⟨rfl, hb⟩
  clear C1
  have hb1 := hb0.trans (hb.mono (Nat.le_of_lt zz))
  have y3 := (hb.cell (p := ⟨w.heap.size, 3, none⟩) zz).trans z3
  have y4 := (hb.cell (p := ⟨w.heap.size, 4, none⟩) zz).trans z4
  dsimp only
  generalize scopeS x.sc = sc at *
  cases sc with
  | false =>
    have hv : namedS x = false := by rw [hv0.out]; rfl
    have hv := Lib.hid hv
    repeat' ((fail_if_success at_builtin); (first | go_skip | go_guarded | go_step))
    go_ret
    exact ⟨ret_b hv.out.symm, hb1⟩
  | true =>
    repeat' ((fail_if_success at_builtin); (first | go_skip | go_guarded | go_step))
    refine (within_any _ _ _ _).mono ?_
    rintro e w2 ⟨rfl, rfl⟩
    dsimp only
    generalize inR x.key.size 1 512 = t at *
    cases t with
    | false =>
      have hv : namedS x = false := by rw [hv0.out]; rfl
      have hv := Lib.hid hv
      repeat' ((fail_if_success at_builtin); (first | go_skip | go_guarded | go_step))
      go_ret
      exact ⟨ret_b hv.out.symm, hb1⟩
    | true =>
      by_cases hd : x.dig = 0
      · have hv : namedS x = false := by rw [hv0.out, hd]; rfl
        have hv := Lib.hid hv
        rw [hd] at y4
        repeat' ((fail_if_success at_builtin); (first | go_skip | go_guarded | go_step))
        go_ret
        exact ⟨ret_b hv.out.symm, hb1⟩
      · have hv : namedS x = true := by rw [hv0.out, decide_eq_true hd]; rfl
        have hv := Lib.hid hv
        have hd' : (x.dig != 0) = true := by simpa using hd
        repeat' ((fail_if_success at_builtin); (first | go_skip | go_guarded | go_step))
        go_ret
        exact ⟨ret_b hv.out.symm, hb1⟩
set_option maxRecDepth 100000 in
set_option maxHeartbeats 1000000 in
theorem right_any (x : Ent) (w : World) (h1 : x.sc.prj.size ≤ 1000000) (h2 : x.sc.ref.size ≤ 1000000) : Calls Tryd.prog 38 #[.agg (ent8 x)] w fun e w' => e = .returned (.bool (rightS x)) ∧ Below w.heap.size w w' := by
  have hb0 := (Below.refl w.heap.size w).alloc (Nat.le_refl _) (.cells (ent8 x) 42)
  have zz : w.heap.size < (w.alloc (.cells (ent8 x) 42)).heap.size := by simp
  have z3 : (w.alloc (.cells (ent8 x) 42)).cell? ⟨w.heap.size, 3, none⟩ = some (.string x.key) := by simp [go_sem]
  have z4 : (w.alloc (.cells (ent8 x) 42)).cell? ⟨w.heap.size, 4, none⟩ = some (.int .u64 x.dig) := by simp [go_sem]
  have z5 : (w.alloc (.cells (ent8 x) 42)).cell? ⟨w.heap.size, 5, none⟩ = some (.int .i64 x.size) := by simp [go_sem]
  have z6 : (w.alloc (.cells (ent8 x) 42)).cell? ⟨w.heap.size, 6, none⟩ = some (.int .i64 x.created) := by simp [go_sem]
  have z7 : (w.alloc (.cells (ent8 x) 42)).cell? ⟨w.heap.size, 7, none⟩ = some (.int .i64 x.used) := by simp [go_sem]
  have C1 := refScope_any x.sc (w.alloc (.cells (ent8 x) 42)) h1 h2
  replace C1 := Lib.hid C1
  have hv0 : rightS x = (scopeS x.sc && inR x.key.size 1 512 && decide (x.dig ≠ 0) && inR x.size 0 1099511627776 && inR x.created 0 1125899906842624 && inR x.used x.created 1125899906842624) := rfl
  replace hv0 := Lib.hid hv0
  go_enter Tryd.func38, Tryd.ntmps38
  repeat' ((fail_if_success at_builtin); (first | go_skip | go_guarded | go_step))
  refine C1.out.mono ?_
  rintro e w1 ⟨rfl, hb⟩
  clear C1
  have hb1 := hb0.trans (hb.mono (Nat.le_of_lt zz))
  have y3 := (hb.cell (p := ⟨w.heap.size, 3, none⟩) zz).trans z3
  have y4 := (hb.cell (p := ⟨w.heap.size, 4, none⟩) zz).trans z4
  have y5 := (hb.cell (p := ⟨w.heap.size, 5, none⟩) zz).trans z5
  have y6 := (hb.cell (p := ⟨w.heap.size, 6, none⟩) zz).trans z6
  have y7 := (hb.cell (p := ⟨w.heap.size, 7, none⟩) zz).trans z7
  dsimp only
  generalize scopeS x.sc = sc at *
  clear hb z3 z4 z5 z6 z7
  cases sc with
  | false =>
    have hv : rightS x = false := by simp [hv0.out]
    have hv := Lib.hid hv
    repeat' ((fail_if_success at_builtin); (first | go_skip | go_guarded | go_step))
    go_ret
    exact ⟨ret_b hv.out.symm, hb1⟩
  | true =>
    repeat' ((fail_if_success at_builtin); (first | go_skip | go_guarded | go_step))
    refine (inside_any _ _ _ _).mono ?_
    rintro e w2 ⟨rfl, rfl⟩
    dsimp only
    generalize inR x.key.size 1 512 = t at *
    cases t with
    | false =>
      have hv : rightS x = false := by simp [hv0.out]
      have hv := Lib.hid hv
      repeat' ((fail_if_success at_builtin); (first | go_skip | go_guarded | go_step))
      go_ret
      exact ⟨ret_b hv.out.symm, hb1⟩
    | true =>
      by_cases hd : x.dig = 0
      · rw [hd] at y4
        have hv : rightS x = false := by simp [hv0.out, hd]
        have hv := Lib.hid hv
        repeat' ((fail_if_success at_builtin); (first | go_skip | go_guarded | go_step))
        go_ret
        exact ⟨ret_b hv.out.symm, hb1⟩
      · have hd' : (x.dig != 0) = true := by simpa using hd
        repeat' ((fail_if_success at_builtin); (first | go_skip | go_guarded | go_step))
        refine (inside_any _ _ _ _).mono ?_
        rintro e w2 ⟨rfl, rfl⟩
        dsimp only
        generalize inR x.size 0 1099511627776 = t at *
        cases t with
        | false =>
          have hv : rightS x = false := by simp [hv0.out]
          have hv := Lib.hid hv
          repeat' ((fail_if_success at_builtin); (first | go_skip | go_guarded | go_step))
          go_ret
          exact ⟨ret_b hv.out.symm, hb1⟩
        | true =>
          repeat' ((fail_if_success at_builtin); (first | go_skip | go_guarded | go_step))
          refine (inside_any _ _ _ _).mono ?_
          rintro e w2 ⟨rfl, rfl⟩
          dsimp only
          generalize inR x.created 0 1125899906842624 = t at *
          cases t with
          | false =>
            have hv : rightS x = false := by simp [hv0.out]
            have hv := Lib.hid hv
            repeat' ((fail_if_success at_builtin); (first | go_skip | go_guarded | go_step))
            go_ret
            exact ⟨ret_b hv.out.symm, hb1⟩
          | true =>
            repeat' ((fail_if_success at_builtin); (first | go_skip | go_guarded | go_step))
            refine (inside_any _ _ _ _).mono ?_
            rintro e w2 ⟨rfl, rfl⟩
            dsimp only
            generalize inR x.used x.created 1125899906842624 = t at *
            cases t with
            | false =>
              have hv : rightS x = false := by simp [hv0.out]
              have hv := Lib.hid hv
              repeat' ((fail_if_success at_builtin); (first | go_skip | go_guarded | go_step))
              go_ret
              exact ⟨ret_b hv.out.symm, hb1⟩
            | true =>
              have hv : rightS x = true := by rw [hv0.out, decide_eq_true hd]; rfl
              have hv := Lib.hid hv
              repeat' ((fail_if_success at_builtin); (first | go_skip | go_guarded | go_step))
              go_ret
              exact ⟨ret_b hv.out.symm, hb1⟩
end Go.Proofs.YtpdlapdnjmoaoaaDoor
