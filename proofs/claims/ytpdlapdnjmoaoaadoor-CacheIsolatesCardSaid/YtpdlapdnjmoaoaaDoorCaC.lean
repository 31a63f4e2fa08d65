/- Cache: copies. -/
import Derived.Test.YtpdlapdnjmoaoaaDoorCaS
import Derived.Lib.SliceRun
namespace Go.Proofs.YtpdlapdnjmoaoaaDoor
open Go.RowKit
theorem ent_info : Info Tryd.prog 42 (.agg #[.string ⟨#[]⟩, .int .i64 0, .string ⟨#[]⟩, .string ⟨#[]⟩, .int .u64 0, .int .i64 0, .int .i64 0, .int .i64 0]) 8 88 := by unfold Info; kernel_rfl
theorem ents_one (l : List Ent) : ∀ u ∈ entsC l, u.oneCell' = true := by
  intro u hu
  obtain ⟨x, _, hx⟩ := List.mem_flatMap.1 hu
  simp at hx
  rcases hx with rfl | rfl | rfl | rfl | rfl | rfl | rfl | rfl <;> rfl
abbrev OwnL (W0 w : World) (v : Value) (l : List Ent) : Prop := Own W0 w 42 8 v l.length (entsC l)
set_option maxRecDepth 100000 in
set_option maxHeartbeats 1000000 in
theorem cloneE_any (l : List Ent) (A : Option Addr) (n c : Nat) (w : World) (hn : n = l.length) (hs : Seq w w.heap.size 8 A n (entsC l)) (hl : n ≤ 1000000) :
    Calls Tryd.prog 64 #[.slice A n c] w fun e w' => ∃ A' c', e = .returned (.slice A' n c') ∧ OwnL w w' (.slice A' n c') l := by
  have hby : (0 + n) * 88 ≤ 140737488355328 := by omega
  have hn2 := Lib.hid hn
  have q22 : ∀ (w : World) (a : Option Addr) (n c n' c' : Nat), (binOp .eql 22 (.slice a n c) (.slice none n' c')).run Tryd.prog w = .ok (.bool a.isNone) w := fun w a n c n' c' => Lib.run_eql_slice_nil w _ _ a n c n' c' Tryd.underlying22
  cases A with
  | none =>
    have h0 : n = 0 := by
      by_cases h : 0 < n
      · obtain ⟨b, o, hh, _⟩ := hs.2 h
        cases hh
      · omega
    have hln : l = [] := List.eq_nil_of_length_eq_zero (by omega)
    subst hln
    subst h0
    clear hs hn
    go_enter Tryd.func64, Tryd.ntmps64
    repeat' ((fail_if_success at_builtin); (first | go_skip | go_guarded | go_step))
    go_ret
    exact ⟨none, 0, rfl, Own.nil_ _ _ _⟩
  | some a =>
    have hb0 := (Below.refl w.heap.size w).alloc (Nat.le_refl _) (.cells #[] 42)
    have hs2 := Lib.hid (hs.below hb0)
    have h0 := Own.empty_lit w 42 8
    clear hs hn
    go_enter Tryd.func64, Tryd.ntmps64
    repeat' ((fail_if_success at_builtin); (first | go_skip | go_guarded | go_step))
    refine wp_appS h0 Tryd.underlying22 ent_info hs2.out (ents_one l) hby ?_
    intro v w2 ho hg
    rw [Nat.zero_add, List.nil_append] at ho
    obtain ⟨A', c', rfl⟩ := ho.slice_form
    replace ho := Lib.hid ho
    repeat' ((fail_if_success at_builtin); (first | go_skip | go_guarded | go_step))
    go_ret
    exact ⟨A', c', rfl, hn2.out ▸ ho.out⟩
set_option maxRecDepth 100000 in
set_option maxHeartbeats 1000000 in
theorem copied_any (z : Int) (l : List Ent) (A : Option Addr) (n c : Nat) (w : World) (hn : n = l.length) (hs : Seq w w.heap.size 8 A n (entsC l)) (hl : n ≤ 1000000) :
    Calls Tryd.prog 41 #[cval z A n c] w fun e w' => ∃ A' c', e = .returned (cval z A' n c') ∧ OwnL w w' (.slice A' n c') l := by
  obtain ⟨w1, hw1⟩ : ∃ w1 : World, w1 = (w.alloc (.cells #[.int .i64 z, .slice A n c] 24)).alloc (.cells #[.int .i64 0, .slice none 0 0] 24) := ⟨_, rfl⟩
  have hb0 : Below w.heap.size w w1 := by rw [hw1]; exact ((Below.refl w.heap.size w).alloc (Nat.le_refl _) _).alloc (by simp) _
  have z0 : w1.cell? ⟨w.heap.size, 0, none⟩ = some (.int .i64 z) := by rw [hw1]; simp [go_sem]
  have z1 : w1.cell? ⟨w.heap.size, 1, none⟩ = some (.slice A n c) := by rw [hw1]; simp [go_sem]
  have z2 : w1.cell? ⟨w.heap.size + 1, 0, none⟩ = some (.int .i64 0) := by rw [hw1]; simp [go_sem]
  have z3 : w1.cell? ⟨w.heap.size + 1, 1, none⟩ = some (.slice none 0 0) := by rw [hw1]; simp [go_sem]
  have zf : ∀ o, w1.frozen? ⟨w.heap.size, o, none⟩ = false := fun o => by rw [hw1]; simp [go_sem]
  have zg : ∀ o, w1.frozen? ⟨w.heap.size + 1, o, none⟩ = false := fun o => by rw [hw1]; simp [go_sem]
  have zz : w1.heap.size = w.heap.size + 2 := by rw [hw1]; simp
  have C := cloneE_any l A n c w1 hn ((hs.below hb0).more hb0.size) hl
  replace C := Lib.hid C
  replace hw1 := Lib.hid hw1
  have hn2 := Lib.hid hn
  clear hn hs
  go_enter Tryd.func41, Tryd.ntmps41
  repeat' ((fail_if_success at_builtin); (first | go_skip | go_guarded | go_step))
  rw [← hw1.out]
  refine C.out.mono ?_
  rintro e w2 ⟨A', c', rfl, ho⟩
  dsimp only
  have l0 : w.heap.size < w1.heap.size := by omega
  have l1 : w.heap.size + 1 < w1.heap.size := by omega
  have hb2 := ho.2
  have y0 := (hb2.cell (p := ⟨w.heap.size, 0, none⟩) l0).trans z0
  have y1 := (hb2.cell (p := ⟨w.heap.size, 1, none⟩) l0).trans z1
  have y2 := (hb2.cell (p := ⟨w.heap.size + 1, 0, none⟩) l1).trans z2
  have y3 := (hb2.cell (p := ⟨w.heap.size + 1, 1, none⟩) l1).trans z3
  have yf := fun o => (hb2.frozen (p := ⟨w.heap.size, o, none⟩) l0).trans (zf o)
  have yg := fun o => (hb2.frozen (p := ⟨w.heap.size + 1, o, none⟩) l1).trans (zg o)
  have hsz2 := hb2.size
  have hfin : ∀ u1 u2 u3, OwnL w (((w2.setCell ⟨w.heap.size, 1, none⟩ u1).setCell ⟨w.heap.size + 1, 0, none⟩ u2).setCell ⟨w.heap.size + 1, 1, none⟩ u3) (.slice A' n c') l := fun u1 u2 u3 =>
    ⟨ownsRow_mono (ownsRow_setCell_below (ownsRow_setCell_below (ownsRow_setCell_below ho.1 (a := ⟨w.heap.size, 1, none⟩) l0 u1) (a := ⟨w.heap.size + 1, 0, none⟩) l1 u2) (a := ⟨w.heap.size + 1, 1, none⟩) l1 u3) hb0.size,
      (((hb0.trans (hb2.mono hb0.size)).setCell (p := ⟨w.heap.size, 1, none⟩) (Nat.le_refl _) u1).setCell (p := ⟨w.heap.size + 1, 0, none⟩) (Nat.le_succ _) u2).setCell (p := ⟨w.heap.size + 1, 1, none⟩) (Nat.le_succ _) u3⟩
  replace hfin := Lib.hid hfin
  replace hn2 := Lib.hid hn2
  clear ho hb2 z0 z1 z2 z3
  repeat' ((fail_if_success at_builtin); (first | go_skip | go_guarded | go_step))
  refine bodyPost_ret (v := cval z A' n c') (by simp only [results, Tryd.results41]; go_simp; try rfl) rfl ?_
  exact ⟨A', c', rfl, hfin.out _ _ _⟩
set_option maxRecDepth 100000 in
set_option maxHeartbeats 1000000 in
theorem new_any (z : Int) (w : World) : Calls Tryd.prog 16 #[.int .i64 z] w fun e w' => e = .returned (.tuple #[cval (if inR z 0 1099511627776 then z else 0) none 0 0, .int .i64 (if inR z 0 1099511627776 then 0 else 2)]) ∧ Below w.heap.size w w' := by
  have hb0 := (Below.refl w.heap.size w).alloc (Nat.le_refl _) (.cells #[.int .i64 0, .slice none 0 0] 24)
  have y0 : (w.alloc (.cells #[.int .i64 0, .slice none 0 0] 24)).cell? ⟨w.heap.size, 0, none⟩ = some (.int .i64 0) := by simp [go_sem]
  have y1 : (w.alloc (.cells #[.int .i64 0, .slice none 0 0] 24)).cell? ⟨w.heap.size, 1, none⟩ = some (.slice none 0 0) := by simp [go_sem]
  cases hz : inR z 0 1099511627776
  all_goals
    go_enter Tryd.func16, Tryd.ntmps16
    repeat' ((fail_if_success at_builtin); (first | go_skip | go_guarded | go_step))
    refine (within_any _ _ _ _).mono ?_
    rintro e w1 ⟨rfl, rfl⟩
    dsimp only
    rw [hz]
    repeat' ((fail_if_success at_builtin); (first | go_skip | go_guarded | go_step))
    first
      | (refine bodyPost_ret (v := .tuple #[cval z none 0 0, .int .i64 0]) (by simp only [results, Tryd.results16]; go_simp; done) rfl ?_
         exact ⟨rfl, (Below.refl _ _).alloc (Nat.le_refl _) _⟩)
      | (refine bodyPost_ret (v := .tuple #[cval 0 none 0 0, .int .i64 2]) (by simp only [results, Tryd.results16]; go_simp; done) rfl ?_
         exact ⟨rfl, (Below.refl _ _).alloc (Nat.le_refl _) _⟩)
set_option maxRecDepth 100000 in
set_option maxHeartbeats 1000000 in
theorem refNew_any (z : Int) (w : World) : Calls Tryd.prog 17 #[.int .i64 z] w fun e w' => e = .returned (.tuple #[cval (if inR z 0 1099511627776 then z else 0) none 0 0, .int .i64 (if inR z 0 1099511627776 then 0 else 2)]) ∧ Below w.heap.size w w' := by
  have hb0 := (Below.refl w.heap.size w).alloc (Nat.le_refl _) (.cells #[.int .i64 0, .slice none 0 0] 24)
  have y0 : (w.alloc (.cells #[.int .i64 0, .slice none 0 0] 24)).cell? ⟨w.heap.size, 0, none⟩ = some (.int .i64 0) := by simp [go_sem]
  have y1 : (w.alloc (.cells #[.int .i64 0, .slice none 0 0] 24)).cell? ⟨w.heap.size, 1, none⟩ = some (.slice none 0 0) := by simp [go_sem]
  cases hz : inR z 0 1099511627776
  all_goals
    go_enter Tryd.func17, Tryd.ntmps17
    repeat' ((fail_if_success at_builtin); (first | go_skip | go_guarded | go_step))
    refine (inside_any _ _ _ _).mono ?_
    rintro e w1 ⟨rfl, rfl⟩
    dsimp only
    rw [hz]
    repeat' ((fail_if_success at_builtin); (first | go_skip | go_guarded | go_step))
    first
      | (refine bodyPost_ret (v := .tuple #[cval z none 0 0, .int .i64 0]) (by simp only [results, Tryd.results17]; go_simp; done) rfl ?_
         exact ⟨rfl, (Below.refl _ _).alloc (Nat.le_refl _) _⟩)
      | (refine bodyPost_ret (v := .tuple #[cval 0 none 0 0, .int .i64 2]) (by simp only [results, Tryd.results17]; go_simp; done) rfl ?_
         exact ⟨rfl, (Below.refl _ _).alloc (Nat.le_refl _) _⟩)
end Go.Proofs.YtpdlapdnjmoaoaaDoor
