/- Cache: the document's scope and level of an origin. -/
import Derived.Test.YtpdlapdnjmoaoaaDoorCaT
import Derived.Test.YtpdlapdnjmoaoaaDoorGrM
namespace Go.Proofs.YtpdlapdnjmoaoaaDoor.Lv
open Go.RowKit Gl
def orgE (o : Org) : Int := if nameS o.prj.data.toList = false then 10 else if pathE o.ref.data.toList = 0 then 0 else 1
def lvlS (o : Org) (ps : List (List UInt8)) : Int := if orgE o ≠ 0 ∨ o.fork = true then 0 else if anyS ps o.ref.data.toList = true then 2 else 1
set_option maxRecDepth 100000 in
set_option maxHeartbeats 800000 in
theorem refScope_any (o : Org) (t : Int) (w : World) : Calls Tryd.prog 30 #[.agg (ocells o), .int .i64 t] w fun e w' => e = .returned (.agg (pcells (scpS o t))) ∧ Below w.heap.size w w' := by
  go_enter Tryd.func30, Tryd.ntmps30
  repeat' ((fail_if_success at_builtin); (first | go_skip | go_guarded | go_step))
  refine bodyPost_ret (v := .agg (pcells (scpS o t))) ?_ rfl ?_
  · simp only [results, Tryd.results30]
    go_simp
    exact ⟨rfl, rfl, rfl⟩
  · exact ⟨rfl, ((Below.refl _ _).alloc (Nat.le_refl _) _).alloc (by simp) _⟩
set_option maxRecDepth 100000 in
set_option maxHeartbeats 800000 in
theorem refValid_any (o : Org) (w : World) (h1 : o.prj.size ≤ 1000000) (h2 : o.ref.size ≤ 1000000) : Calls Tryd.prog 60 #[.agg (ocells o)] w fun e w' => e = .returned (.int .i64 (orgE o)) ∧ Below w.heap.size w w' := by
  have hb0 := (Below.refl w.heap.size w).alloc (Nat.le_refl _) (.cells (ocells o) 54)
  have z1 : (w.alloc (.cells (ocells o) 54)).cell? ⟨w.heap.size, 1, none⟩ = some (.string o.ref) := by simp [go_sem]
  have z0 : w.heap.size < (w.alloc (.cells (ocells o) 54)).heap.size := by simp
  have C1 := refName_any o.prj (w.alloc (.cells (ocells o) 54)) (by omega)
  replace C1 := Lib.hid C1
  go_enter Tryd.func60, Tryd.ntmps60
  repeat' ((fail_if_success at_builtin); (first | go_skip | go_guarded | go_step))
  refine C1.out.mono ?_
  rintro e w1 ⟨rfl, rfl⟩
  have hb1 := hb0
  have y1 := z1
  generalize hw1 : w.alloc (.cells (ocells o) 54) = w1 at *
  clear C1
  dsimp only
  cases hn : nameS o.prj.data.toList with
  | false =>
    have hv : orgE o = 10 := by unfold orgE; rw [hn]; rfl
    replace hv := Lib.hid hv
    repeat' ((fail_if_success at_builtin); (first | go_skip | go_guarded | go_step))
    go_ret
    exact ⟨ret_i hv.out.symm, hb1⟩
  | true =>
    have C2 := refParts_any o.ref w1 (by omega)
    replace C2 := Lib.hid C2
    repeat' ((fail_if_success at_builtin); (first | go_skip | go_guarded | go_step))
    refine C2.out.mono ?_
    rintro e w2 ⟨⟨v, rfl⟩, hb2⟩
    clear C2
    have hb3 := hb1.trans (hb2.mono hb1.size)
    dsimp only
    by_cases hp : pathE o.ref.data.toList = 0
    · have hp' : ((pathE o.ref.data.toList : Int)) = 0 := by omega
      have hv : orgE o = 0 := by unfold orgE; rw [hn, if_neg (by simp), if_pos hp]
      replace hv := Lib.hid hv
      repeat' ((fail_if_success at_builtin); (first | go_skip | go_guarded | go_step))
      go_ret
      exact ⟨ret_i hv.out.symm, hb3⟩
    · have hp' : ((pathE o.ref.data.toList : Int) == 0) = false := by simp; omega
      have hv : orgE o = 1 := by unfold orgE; rw [hn, if_neg (by simp), if_neg hp]
      replace hv := Lib.hid hv
      repeat' ((fail_if_success at_builtin); (first | go_skip | go_guarded | go_step))
      go_ret
      exact ⟨ret_i hv.out.symm, hb3⟩
set_option maxRecDepth 100000 in
set_option maxHeartbeats 800000 in
theorem refLev_any (o : Org) (ps : List ByteArray) (A : Option Addr) (c : Nat) (w : World) (hs : Seq w w.heap.size 1 A ps.length (ps.map Value.string)) (hl : ps.length ≤ 1000000) (hm : ∀ p ∈ ps, p.size ≤ 800000) (h1 : o.prj.size ≤ 1000000) (h2 : o.ref.size ≤ 1000000) :
    Calls Tryd.prog 31 #[.agg (ocells o), .slice A ps.length c] w fun e w' => e = .returned (.int .i64 (lvlS o (toL ps))) ∧ Below w.heap.size w w' := by
  have hb1 := (Below.refl w.heap.size w).alloc (Nat.le_refl _) (.cells (ocells o) 54)
  have z1 : (w.alloc (.cells (ocells o) 54)).cell? ⟨w.heap.size, 1, none⟩ = some (.string o.ref) := by simp [go_sem]
  have z2 : (w.alloc (.cells (ocells o) 54)).cell? ⟨w.heap.size, 2, none⟩ = some (.bool o.fork) := by simp [go_sem]
  have z0 : w.heap.size < (w.alloc (.cells (ocells o) 54)).heap.size := by simp
  have C1 := refValid_any o (w.alloc (.cells (ocells o) 54)) h1 h2
  have C2 := fun (w2 : World) (hb : Below w.heap.size w w2) => rany_any ps o.ref A c w2 ((hs.below hb).more hb.size) hl hm h2
  replace C1 := Lib.hid C1
  replace C2 := Lib.hid C2
  clear hs hm
  go_enter Tryd.func31, Tryd.ntmps31
  repeat' ((fail_if_success at_builtin); (first | go_skip | go_guarded | go_step))
  refine C1.out.mono ?_
  rintro e w1 ⟨rfl, hb⟩
  have hb3 := hb1.trans (hb.mono (Nat.le_of_lt z0))
  have y1 := (hb.cell (p := ⟨w.heap.size, 1, none⟩) z0).trans z1
  have y2 := (hb.cell (p := ⟨w.heap.size, 2, none⟩) z0).trans z2
  clear C1
  dsimp only
  by_cases hE : orgE o = 0
  · cases hF : o.fork with
    | true =>
      have hv : lvlS o (toL ps) = 0 := by unfold lvlS; rw [if_pos (.inr hF)]
      rw [hF] at y2
      replace hv := Lib.hid hv
      repeat' ((fail_if_success at_builtin); (first | go_skip | go_guarded | go_step))
      go_ret
      exact ⟨ret_i hv.out.symm, hb3⟩
    | false =>
      rw [hF] at y2
      repeat' ((fail_if_success at_builtin); (first | go_skip | go_guarded | go_step))
      refine (C2.out w1 hb3).mono ?_
      rintro e w4 ⟨rfl, hb4⟩
      have hb5 := hb3.trans (hb4.mono hb3.size)
      dsimp only
      cases hA : anyS (toL ps) o.ref.data.toList with
      | true =>
        have hv : lvlS o (toL ps) = 2 := by unfold lvlS; rw [if_neg (by rw [hE, hF]; simp), if_pos hA]
        replace hv := Lib.hid hv
        repeat' ((fail_if_success at_builtin); (first | go_skip | go_guarded | go_step))
        go_ret
        exact ⟨ret_i hv.out.symm, hb5⟩
      | false =>
        have hv : lvlS o (toL ps) = 1 := by unfold lvlS; rw [if_neg (by rw [hE, hF]; simp), if_neg (by rw [hA]; simp)]
        replace hv := Lib.hid hv
        repeat' ((fail_if_success at_builtin); (first | go_skip | go_guarded | go_step))
        go_ret
        exact ⟨ret_i hv.out.symm, hb5⟩
  · have hE' : (orgE o == 0) = false := by simp; exact hE
    have hv : lvlS o (toL ps) = 0 := by unfold lvlS; rw [if_pos (.inl hE)]
    replace hv := Lib.hid hv
    repeat' ((fail_if_success at_builtin); (first | go_skip | go_guarded | go_step))
    go_ret
    exact ⟨ret_i hv.out.symm, hb3⟩
theorem lvlS_range (o : Org) (ps : List (List UInt8)) : 0 ≤ lvlS o ps ∧ lvlS o ps ≤ 2 := by
  unfold lvlS
  split
  · omega
  · split <;> omega
end Go.Proofs.YtpdlapdnjmoaoaaDoor.Lv
