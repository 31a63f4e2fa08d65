/- Trust: the document's level; the law about levels. -/
import Derived.Test.YtlpeblgcniggmaaDoorTrLaw1
import Derived.Test.YtlpeblgcniggmaaDoorGrM
namespace Go.Proofs.YtlpeblgcniggmaaDoor
open Go.RowKit
set_option maxRecDepth 100000 in
set_option maxHeartbeats 800000 in
theorem refLev_any (o : Org) (ps : List ByteArray) (A : Option Addr) (c : Nat) (w : World) (hs : Seq w w.heap.size 1 A ps.length (ps.map Value.string)) (hl : ps.length ≤ 1000000) (hm : ∀ p ∈ ps, p.size ≤ 800000) (h1 : o.prj.size ≤ 1000000) (h2 : o.ref.size ≤ 1000000) :
    Calls Tryd.prog 14 #[.agg (ocells o), .slice A ps.length c] w fun e w' => e = .returned (.int .i64 (lvlS o (toL ps))) ∧ Below w.heap.size w w' := by
  have hb1 := (Below.refl w.heap.size w).alloc (Nat.le_refl _) (.cells (ocells o) 23)
  have z1 : (w.alloc (.cells (ocells o) 23)).cell? ⟨w.heap.size, 1, none⟩ = some (.string o.ref) := by simp [go_sem]
  have z2 : (w.alloc (.cells (ocells o) 23)).cell? ⟨w.heap.size, 2, none⟩ = some (.bool o.fork) := by simp [go_sem]
  have z0 : w.heap.size < (w.alloc (.cells (ocells o) 23)).heap.size := by simp
  have C1 := refValid_any o (w.alloc (.cells (ocells o) 23)) h1 h2
  have C2 := fun (w2 : World) (hb : Below w.heap.size w w2) => rany_any ps o.ref A c w2 ((hs.below hb).more hb.size) hl hm h2
  replace C1 := Lib.hid C1
  replace C2 := Lib.hid C2
  clear hs hm
  go_enter Tryd.func14, Tryd.ntmps14
  repeat' ((fail_if_success at_builtin); (first | go_skip | go_guarded | go_step))
  refine C1.out.mono ?_
  rintro e w1 ⟨rfl, hb⟩
  have hb3 := hb1.trans (hb.mono (Nat.le_of_lt z0))
  have y1 := (hb.cell (p := ⟨w.heap.size, 1, none⟩) z0).trans z1
  have y2 := (hb.cell (p := ⟨w.heap.size, 2, none⟩) z0).trans z2
  clear C1
  dsimp only
  by_cases hE : orgE o = 0
  · cases hF : o.fork with
    | true =>
      have hv : lvlS o (toL ps) = 0 := by unfold lvlS; rw [if_pos (.inr hF)]
      rw [hF] at y2
      replace hv := Lib.hid hv
      repeat' ((fail_if_success at_builtin); (first | go_skip | go_guarded | go_step))
      go_ret
      exact ⟨ret_i hv.out.symm, hb3⟩
    | false =>
      rw [hF] at y2
      repeat' ((fail_if_success at_builtin); (first | go_skip | go_guarded | go_step))
      refine (C2.out w1 hb3).mono ?_
      rintro e w4 ⟨rfl, hb4⟩
      have hb5 := hb3.trans (hb4.mono hb3.size)
      dsimp only
      cases hA : anyS (toL ps) o.ref.data.toList with
      | true =>
        have hv : lvlS o (toL ps) = 2 := by unfold lvlS; rw [if_neg (by rw [hE, hF]; simp), if_pos hA]
        replace hv := Lib.hid hv
        repeat' ((fail_if_success at_builtin); (first | go_skip | go_guarded | go_step))
        go_ret
        exact ⟨ret_i hv.out.symm, hb5⟩
      | false =>
        have hv : lvlS o (toL ps) = 1 := by unfold lvlS; rw [if_neg (by rw [hE, hF]; simp), if_neg (by rw [hA]; simp)]
        replace hv := Lib.hid hv
        repeat' ((fail_if_success at_builtin); (first | go_skip | go_guarded | go_step))
        go_ret
        exact ⟨ret_i hv.out.symm, hb5⟩
  · have hE' : (orgE o == 0) = false := by simp; exact hE
    have hv : lvlS o (toL ps) = 0 := by unfold lvlS; rw [if_pos (.inl hE)]
    replace hv := Lib.hid hv
    repeat' ((fail_if_success at_builtin); (first | go_skip | go_guarded | go_step))
    go_ret
    exact ⟨ret_i hv.out.symm, hb3⟩
set_option maxRecDepth 100000 in
set_option maxHeartbeats 800000 in
theorem levels_law (o : Org) (ps : List ByteArray) (A : Option Addr) (c : Nat) (w : World) (hR : Ready w) (h1 : o.prj.size ≤ 9223372036854775807) (h2 : o.ref.size ≤ 9223372036854775807)
    (hs : Seq w w.heap.size 1 A ps.length (ps.map Value.string)) (hl : ps.length ≤ 9223372036854775807) (hm : ∀ p ∈ ps, p.size ≤ 9223372036854775807) :
    Calls Tryd.prog 3 #[.agg (ocells o), .slice A ps.length c] w fun e w' => e = .returned (.bool true) ∧ Below w.heap.size w w' := by
  have hb0 := (Below.refl w.heap.size w).alloc (Nat.le_refl _) (.cells (ocells o) 23)
  have hz0 : w.heap.size < (w.alloc (.cells (ocells o) 23)).heap.size := by simp
  have d0 : (w.alloc (.cells (ocells o) 23)).cell? ⟨w.heap.size, 0, none⟩ = some (.string o.prj) := by simp [go_sem]
  have d1 : (w.alloc (.cells (ocells o) 23)).cell? ⟨w.heap.size, 1, none⟩ = some (.string o.ref) := by simp [go_sem]
  have d2 : (w.alloc (.cells (ocells o) 23)).cell? ⟨w.heap.size, 2, none⟩ = some (.bool o.fork) := by simp [go_sem]
  have CA := fun w' (h : Below w.heap.size w w') => awake_any w' (hR.below h)
  have CF := fun w' (h : Below w.heap.size w w') => few_any ps A c w' ((hs.below h).more h.size) hl hm
  replace CA := Lib.hid CA
  replace CF := Lib.hid CF
  go_enter Tryd.func3, Tryd.ntmps3
  repeat' ((fail_if_success at_builtin); (first | go_skip | go_guarded | go_step))
  refine (short_any o _ h1 h2).mono ?_
  generalize w.alloc (.cells (ocells o) 23) = w1 at *
  rintro e w2 ⟨b, rfl, hb12, hsh⟩
  have hb2 := hb0.trans (hb12.mono hb0.size)
  replace d0 := (hb12.cell (p := ⟨w.heap.size, 0, none⟩) hz0).trans d0
  replace d1 := (hb12.cell (p := ⟨w.heap.size, 1, none⟩) hz0).trans d1
  replace d2 := (hb12.cell (p := ⟨w.heap.size, 2, none⟩) hz0).trans d2
  have hz2 : w.heap.size < w2.heap.size := Nat.lt_of_lt_of_le hz0 hb12.size
  clear hb12 hb0 hz0
  replace hsh := Lib.hid hsh
  dsimp only
  cases b with
  | false =>
    repeat' ((fail_if_success at_builtin); (first | go_skip | go_guarded | go_step))
    refine (CA.out _ hb2).mono ?_
    rintro e w9 ⟨rfl, hb9⟩
    dsimp only
    repeat' ((fail_if_success at_builtin); (first | go_skip | go_guarded | go_step))
    go_ret
    exact ⟨rfl, hb2.trans (hb9.mono hb2.size)⟩
  | true =>
    repeat' ((fail_if_success at_builtin); (first | go_skip | go_guarded | go_step))
    refine (CF.out _ hb2).mono ?_
    rintro e w3 ⟨b, rfl, hb23, hfw⟩
    have hb3 := hb2.trans (hb23.mono hb2.size)
    replace d0 := (hb23.cell (p := ⟨w.heap.size, 0, none⟩) hz2).trans d0
    replace d1 := (hb23.cell (p := ⟨w.heap.size, 1, none⟩) hz2).trans d1
    replace d2 := (hb23.cell (p := ⟨w.heap.size, 2, none⟩) hz2).trans d2
    have hz3 : w.heap.size < w3.heap.size := Nat.lt_of_lt_of_le hz2 hb23.size
    clear hb23 hz2
    replace hfw := Lib.hid hfw
    dsimp only
    cases b with
    | false =>
      repeat' ((fail_if_success at_builtin); (first | go_skip | go_guarded | go_step))
      refine (CA.out _ hb3).mono ?_
      rintro e w9 ⟨rfl, hb9⟩
      dsimp only
      repeat' ((fail_if_success at_builtin); (first | go_skip | go_guarded | go_step))
      go_ret
      exact ⟨rfl, hb3.trans (hb9.mono hb3.size)⟩
    | true =>
      obtain ⟨hp1, hp2⟩ := hsh.out rfl
      obtain ⟨hpl, hpz⟩ := hfw.out rfl
      clear hsh hfw hb2
      repeat' ((fail_if_success at_builtin); (first | go_skip | go_guarded | go_step))
      have keepR : ∀ w' w'', (Below w3.heap.size w3 w' ∧ w'.cell? ⟨w.heap.size, 0, none⟩ = some (.string o.prj) ∧ w'.cell? ⟨w.heap.size, 1, none⟩ = some (.string o.ref) ∧ w'.cell? ⟨w.heap.size, 2, none⟩ = some (.bool o.fork)) → Below w'.heap.size w' w'' → (Below w3.heap.size w3 w'' ∧ w''.cell? ⟨w.heap.size, 0, none⟩ = some (.string o.prj) ∧ w''.cell? ⟨w.heap.size, 1, none⟩ = some (.string o.ref) ∧ w''.cell? ⟨w.heap.size, 2, none⟩ = some (.bool o.fork)) := fun w' w'' h hc => ⟨h.1.trans (hc.mono h.1.size), (hc.cell (p := ⟨w.heap.size, 0, none⟩) (Nat.lt_of_lt_of_le hz3 h.1.size)).trans h.2.1, (hc.cell (p := ⟨w.heap.size, 1, none⟩) (Nat.lt_of_lt_of_le hz3 h.1.size)).trans h.2.2.1, (hc.cell (p := ⟨w.heap.size, 2, none⟩) (Nat.lt_of_lt_of_le hz3 h.1.size)).trans h.2.2.2⟩
      have hS : Below w3.heap.size w3 w3.drew ∧ w3.drew.cell? ⟨w.heap.size, 0, none⟩ = some (.string o.prj) ∧ w3.drew.cell? ⟨w.heap.size, 1, none⟩ = some (.string o.ref) ∧ w3.drew.cell? ⟨w.heap.size, 2, none⟩ = some (.bool o.fork) := ⟨(Below.refl _ _).drew, d0, d1, d2⟩
      have hS0 : Below w3.heap.size w3 w3 ∧ w3.cell? ⟨w.heap.size, 0, none⟩ = some (.string o.prj) ∧ w3.cell? ⟨w.heap.size, 1, none⟩ = some (.string o.ref) ∧ w3.cell? ⟨w.heap.size, 2, none⟩ = some (.bool o.fork) := ⟨(Below.refl _ _), d0, d1, d2⟩
      have CV := fun w' (h : Below w3.heap.size w3 w' ∧ w'.cell? ⟨w.heap.size, 0, none⟩ = some (.string o.prj) ∧ w'.cell? ⟨w.heap.size, 1, none⟩ = some (.string o.ref) ∧ w'.cell? ⟨w.heap.size, 2, none⟩ = some (.bool o.fork)) => valid_any o w' (hR.below (hb3.trans (h.1.mono hb3.size))) (by omega) (by omega)
      have CW := fun w' => refValid_any o w' (by omega) (by omega)
      have CL := fun w' (h : Below w3.heap.size w3 w' ∧ w'.cell? ⟨w.heap.size, 0, none⟩ = some (.string o.prj) ∧ w'.cell? ⟨w.heap.size, 1, none⟩ = some (.string o.ref) ∧ w'.cell? ⟨w.heap.size, 2, none⟩ = some (.bool o.fork)) => lev_any o ps A c w' (hR.below (hb3.trans (h.1.mono hb3.size))) ((hs.below (hb3.trans (h.1.mono hb3.size))).more (hb3.trans (h.1.mono hb3.size)).size) (by omega) (fun p hp => by have := hpz p hp; omega) (by omega) (by omega)
      have CM := fun w' (h : Below w3.heap.size w3 w' ∧ w'.cell? ⟨w.heap.size, 0, none⟩ = some (.string o.prj) ∧ w'.cell? ⟨w.heap.size, 1, none⟩ = some (.string o.ref) ∧ w'.cell? ⟨w.heap.size, 2, none⟩ = some (.bool o.fork)) => refLev_any o ps A c w' ((hs.below (hb3.trans (h.1.mono hb3.size))).more (hb3.trans (h.1.mono hb3.size)).size) (by omega) (fun p hp => by have := hpz p hp; omega) (by omega) (by omega)
      have CA2 := fun w' (h : Below w3.heap.size w3 w' ∧ w'.cell? ⟨w.heap.size, 0, none⟩ = some (.string o.prj) ∧ w'.cell? ⟨w.heap.size, 1, none⟩ = some (.string o.ref) ∧ w'.cell? ⟨w.heap.size, 2, none⟩ = some (.bool o.fork)) => CA.out w' (hb3.trans (h.1.mono hb3.size))
      replace keepR := Lib.hid keepR
      replace CV := Lib.hid CV
      replace CW := Lib.hid CW
      replace CL := Lib.hid CL
      replace CM := Lib.hid CM
      replace CA2 := Lib.hid CA2
      clear CF CA hs hm hpz
      generalize orgE o = v at *
      generalize lvlS o (toL ps) = l at *
      go_region_held3 (fun w' => Below w3.heap.size w3 w' ∧ w'.cell? ⟨w.heap.size, 0, none⟩ = some (.string o.prj) ∧ w'.cell? ⟨w.heap.size, 1, none⟩ = some (.string o.ref) ∧ w'.cell? ⟨w.heap.size, 2, none⟩ = some (.bool o.fork))
        (first | exact hS | exact hS0 | exact keepR.out _ _ (by assumption) hbq)
        (first
          | (go_at_call 11; refine (CV.out _ (by assumption)).mono ?_; rintro e w7 ⟨rfl, hbq⟩; dsimp only)
          | (go_at_call 12; refine (CW.out _).mono ?_; rintro e w7 ⟨rfl, hbq⟩; dsimp only)
          | (go_at_call 13; refine (CL.out _ (by assumption)).mono ?_; rintro e w7 ⟨rfl, hbq⟩; dsimp only)
          | (go_at_call 14; refine (CM.out _ (by assumption)).mono ?_; rintro e w7 ⟨rfl, hbq⟩; dsimp only)
          | (go_at_call 10; refine (CA2.out _ (by assumption)).mono ?_; rintro e w7 ⟨rfl, hbq⟩; dsimp only))
      all_goals
        repeat' ((fail_if_success at_builtin); (first | go_skip | go_guarded | go_step))
        go_ret
        exact ⟨rfl, hb3.trans (Below.mono (And.left (by assumption)) hb3.size)⟩
end Go.Proofs.YtlpeblgcniggmaaDoor
