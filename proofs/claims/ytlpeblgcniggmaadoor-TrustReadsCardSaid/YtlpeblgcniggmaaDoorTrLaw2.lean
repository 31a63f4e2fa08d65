/- The law about reading. -/
import Derived.Test.YtlpeblgcniggmaaDoorTrLaw1
namespace Go.Proofs.YtlpeblgcniggmaaDoor
open Go.RowKit
set_option maxRecDepth 100000 in
set_option maxHeartbeats 4000000 in
theorem reads_law (o : Org) (t : Int) (s : Scp) (w : World) (hR : Ready w) (h1 : o.prj.size ≤ 9223372036854775807) (h2 : o.ref.size ≤ 9223372036854775807) (h3 : s.prj.size ≤ 9223372036854775807) (h4 : s.ref.size ≤ 9223372036854775807) :
    Calls Tryd.prog 4 #[.agg (ocells o), .int .i64 t, .agg (pcells s)] w fun e w' => e = .returned (.bool true) ∧ Below w.heap.size w w' := by
  have hb0 := ((Below.refl w.heap.size w).alloc (Nat.le_refl _) (.cells (ocells o) 23)).alloc (by simp) (.cells (pcells s) 34)
  have hz2 : ((w.alloc (.cells (ocells o) 23)).alloc (.cells (pcells s) 34)).heap.size = w.heap.size + 2 := by simp
  have d0 : ((w.alloc (.cells (ocells o) 23)).alloc (.cells (pcells s) 34)).cell? ⟨w.heap.size, 0, none⟩ = some (.string o.prj) := by simp [go_sem]
  have d1 : ((w.alloc (.cells (ocells o) 23)).alloc (.cells (pcells s) 34)).cell? ⟨w.heap.size, 1, none⟩ = some (.string o.ref) := by simp [go_sem]
  have d2 : ((w.alloc (.cells (ocells o) 23)).alloc (.cells (pcells s) 34)).cell? ⟨w.heap.size, 2, none⟩ = some (.bool o.fork) := by simp [go_sem]
  have e0 : ((w.alloc (.cells (ocells o) 23)).alloc (.cells (pcells s) 34)).cell? ⟨w.heap.size + 1, 0, none⟩ = some (.string s.prj) := by simp [go_sem]
  have e1 : ((w.alloc (.cells (ocells o) 23)).alloc (.cells (pcells s) 34)).cell? ⟨w.heap.size + 1, 1, none⟩ = some (.int .i64 s.trust) := by simp [go_sem]
  have e2 : ((w.alloc (.cells (ocells o) 23)).alloc (.cells (pcells s) 34)).cell? ⟨w.heap.size + 1, 2, none⟩ = some (.string s.ref) := by simp [go_sem]
  have CA := fun w' (h : Below w.heap.size w w') => awake_any w' (hR.below h)
  replace CA := Lib.hid CA
  go_enter Tryd.func4, Tryd.ntmps4
  repeat' ((fail_if_success at_builtin); (first | go_skip | go_guarded | go_step))
  refine (short_any o _ h1 h2).mono ?_
  generalize (w.alloc (.cells (ocells o) 23)).alloc (.cells (pcells s) 34) = w1 at *
  rintro e w2 ⟨b, rfl, hb12, hsh⟩
  have hb2 := hb0.trans (hb12.mono hb0.size)
  replace d0 := (hb12.cell (p := ⟨w.heap.size, 0, none⟩) (by dsimp only; omega)).trans d0
  replace d1 := (hb12.cell (p := ⟨w.heap.size, 1, none⟩) (by dsimp only; omega)).trans d1
  replace d2 := (hb12.cell (p := ⟨w.heap.size, 2, none⟩) (by dsimp only; omega)).trans d2
  replace e0 := (hb12.cell (p := ⟨w.heap.size + 1, 0, none⟩) (by dsimp only; omega)).trans e0
  replace e1 := (hb12.cell (p := ⟨w.heap.size + 1, 1, none⟩) (by dsimp only; omega)).trans e1
  replace e2 := (hb12.cell (p := ⟨w.heap.size + 1, 2, none⟩) (by dsimp only; omega)).trans e2
  have hzz : w.heap.size + 2 ≤ w2.heap.size := by rw [← hz2]; exact hb12.size
  clear hb12 hb0 hz2
  replace hsh := Lib.hid hsh
  dsimp only
  cases b with
  | false =>
    repeat' ((fail_if_success at_builtin); (first | go_skip | go_guarded | go_step))
    refine (CA.out _ hb2).mono ?_
    rintro e w9 ⟨rfl, hb9⟩
    dsimp only
    repeat' ((fail_if_success at_builtin); (first | go_skip | go_guarded | go_step))
    go_ret
    exact ⟨rfl, hb2.trans (hb9.mono hb2.size)⟩
  | true =>
    by_cases g3 : s.prj.size ≤ 600
    · have g3' : ¬ (600 : Int) < (s.prj.size : Int) := by omega
      by_cases g4 : s.ref.size ≤ 600
      · have g4' : ¬ (600 : Int) < (s.ref.size : Int) := by omega
        repeat' ((fail_if_success at_builtin); (first | go_skip | go_guarded | go_step))
        have keepR : ∀ w' w'', (Below w2.heap.size w2 w' ∧ w'.cell? ⟨w.heap.size, 0, none⟩ = some (.string o.prj) ∧ w'.cell? ⟨w.heap.size, 1, none⟩ = some (.string o.ref) ∧ w'.cell? ⟨w.heap.size, 2, none⟩ = some (.bool o.fork) ∧ w'.cell? ⟨w.heap.size + 1, 0, none⟩ = some (.string s.prj) ∧ w'.cell? ⟨w.heap.size + 1, 1, none⟩ = some (.int .i64 s.trust) ∧ w'.cell? ⟨w.heap.size + 1, 2, none⟩ = some (.string s.ref)) → Below w'.heap.size w' w'' → (Below w2.heap.size w2 w'' ∧ w''.cell? ⟨w.heap.size, 0, none⟩ = some (.string o.prj) ∧ w''.cell? ⟨w.heap.size, 1, none⟩ = some (.string o.ref) ∧ w''.cell? ⟨w.heap.size, 2, none⟩ = some (.bool o.fork) ∧ w''.cell? ⟨w.heap.size + 1, 0, none⟩ = some (.string s.prj) ∧ w''.cell? ⟨w.heap.size + 1, 1, none⟩ = some (.int .i64 s.trust) ∧ w''.cell? ⟨w.heap.size + 1, 2, none⟩ = some (.string s.ref)) := fun w' w'' h hc => ⟨h.1.trans (hc.mono h.1.size), (hc.cell (p := ⟨w.heap.size, 0, none⟩) (Nat.lt_of_lt_of_le (by dsimp only; omega) h.1.size)).trans h.2.1, (hc.cell (p := ⟨w.heap.size, 1, none⟩) (Nat.lt_of_lt_of_le (by dsimp only; omega) h.1.size)).trans h.2.2.1, (hc.cell (p := ⟨w.heap.size, 2, none⟩) (Nat.lt_of_lt_of_le (by dsimp only; omega) h.1.size)).trans h.2.2.2.1, (hc.cell (p := ⟨w.heap.size + 1, 0, none⟩) (Nat.lt_of_lt_of_le (by dsimp only; omega) h.1.size)).trans h.2.2.2.2.1, (hc.cell (p := ⟨w.heap.size + 1, 1, none⟩) (Nat.lt_of_lt_of_le (by dsimp only; omega) h.1.size)).trans h.2.2.2.2.2.1, (hc.cell (p := ⟨w.heap.size + 1, 2, none⟩) (Nat.lt_of_lt_of_le (by dsimp only; omega) h.1.size)).trans h.2.2.2.2.2.2⟩
        have hS : Below w2.heap.size w2 w2.drew ∧ w2.drew.cell? ⟨w.heap.size, 0, none⟩ = some (.string o.prj) ∧ w2.drew.cell? ⟨w.heap.size, 1, none⟩ = some (.string o.ref) ∧ w2.drew.cell? ⟨w.heap.size, 2, none⟩ = some (.bool o.fork) ∧ w2.drew.cell? ⟨w.heap.size + 1, 0, none⟩ = some (.string s.prj) ∧ w2.drew.cell? ⟨w.heap.size + 1, 1, none⟩ = some (.int .i64 s.trust) ∧ w2.drew.cell? ⟨w.heap.size + 1, 2, none⟩ = some (.string s.ref) := ⟨(Below.refl _ _).drew, d0, d1, d2, e0, e1, e2⟩
        have hS0 : Below w2.heap.size w2 w2 ∧ w2.cell? ⟨w.heap.size, 0, none⟩ = some (.string o.prj) ∧ w2.cell? ⟨w.heap.size, 1, none⟩ = some (.string o.ref) ∧ w2.cell? ⟨w.heap.size, 2, none⟩ = some (.bool o.fork) ∧ w2.cell? ⟨w.heap.size + 1, 0, none⟩ = some (.string s.prj) ∧ w2.cell? ⟨w.heap.size + 1, 1, none⟩ = some (.int .i64 s.trust) ∧ w2.cell? ⟨w.heap.size + 1, 2, none⟩ = some (.string s.ref) := ⟨(Below.refl _ _), d0, d1, d2, e0, e1, e2⟩
        have CS := fun w' => scope_any o t w'
        have CT := fun w' => refScope_any o t w'
        have CM := fun w' => mayRead_any o t s w'
        have CN := fun w' => refMayRead_any o t s w'
        have CA2 := fun w' (h : Below w2.heap.size w2 w' ∧ w'.cell? ⟨w.heap.size, 0, none⟩ = some (.string o.prj) ∧ w'.cell? ⟨w.heap.size, 1, none⟩ = some (.string o.ref) ∧ w'.cell? ⟨w.heap.size, 2, none⟩ = some (.bool o.fork) ∧ w'.cell? ⟨w.heap.size + 1, 0, none⟩ = some (.string s.prj) ∧ w'.cell? ⟨w.heap.size + 1, 1, none⟩ = some (.int .i64 s.trust) ∧ w'.cell? ⟨w.heap.size + 1, 2, none⟩ = some (.string s.ref)) => CA.out w' (hb2.trans (h.1.mono hb2.size))
        replace keepR := Lib.hid keepR
        replace CS := Lib.hid CS
        replace CT := Lib.hid CT
        replace CM := Lib.hid CM
        replace CN := Lib.hid CN
        replace CA2 := Lib.hid CA2
        generalize mayR o t s = m at *
        go_region_held3 (fun w' => Below w2.heap.size w2 w' ∧ w'.cell? ⟨w.heap.size, 0, none⟩ = some (.string o.prj) ∧ w'.cell? ⟨w.heap.size, 1, none⟩ = some (.string o.ref) ∧ w'.cell? ⟨w.heap.size, 2, none⟩ = some (.bool o.fork) ∧ w'.cell? ⟨w.heap.size + 1, 0, none⟩ = some (.string s.prj) ∧ w'.cell? ⟨w.heap.size + 1, 1, none⟩ = some (.int .i64 s.trust) ∧ w'.cell? ⟨w.heap.size + 1, 2, none⟩ = some (.string s.ref))
          (first | exact hS | exact hS0 | exact keepR.out _ _ (by assumption) hbq)
          (first
            | (go_at_call 15; refine (CS.out _).mono ?_; rintro e w7 ⟨rfl, hbq⟩; dsimp only)
            | (go_at_call 16; refine (CT.out _).mono ?_; rintro e w7 ⟨rfl, hbq⟩; dsimp only)
            | (go_at_call 17; refine (CM.out _).mono ?_; rintro e w7 ⟨rfl, hbq⟩; dsimp only)
            | (go_at_call 18; refine (CN.out _).mono ?_; rintro e w7 ⟨rfl, hbq⟩; dsimp only)
            | (go_at_call 10; refine (CA2.out _ (by assumption)).mono ?_; rintro e w7 ⟨rfl, hbq⟩; dsimp only))
        all_goals
          repeat' ((fail_if_success at_builtin); (first | go_skip | go_guarded | go_step))
          go_ret
          exact ⟨rfl, hb2.trans (Below.mono (And.left (by assumption)) hb2.size)⟩
      · have g4' : (600 : Int) < (s.ref.size : Int) := by omega
        repeat' ((fail_if_success at_builtin); (first | go_skip | go_guarded | go_step))
        refine (CA.out _ hb2).mono ?_
        rintro e w9 ⟨rfl, hb9⟩
        dsimp only
        repeat' ((fail_if_success at_builtin); (first | go_skip | go_guarded | go_step))
        go_ret
        exact ⟨rfl, hb2.trans (hb9.mono hb2.size)⟩
    · have g3' : (600 : Int) < (s.prj.size : Int) := by omega
      repeat' ((fail_if_success at_builtin); (first | go_skip | go_guarded | go_step))
      refine (CA.out _ hb2).mono ?_
      rintro e w9 ⟨rfl, hb9⟩
      dsimp only
      repeat' ((fail_if_success at_builtin); (first | go_skip | go_guarded | go_step))
      go_ret
      exact ⟨rfl, hb2.trans (hb9.mono hb2.size)⟩
end Go.Proofs.YtlpeblgcniggmaaDoor
