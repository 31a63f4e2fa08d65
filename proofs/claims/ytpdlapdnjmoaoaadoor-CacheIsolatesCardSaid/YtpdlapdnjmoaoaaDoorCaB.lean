/- Cache: Restore: the closures. -/
import Derived.Test.YtpdlapdnjmoaoaaDoorCaO
namespace Go.Proofs.YtpdlapdnjmoaoaaDoor
open Go.RowKit
def lowerI (a b : Ent) : Int := Lib.compareInt b.sc.trust a.sc.trust
def laterI (a b : Ent) : Int := Lib.compareInt a.created b.created
set_option maxRecDepth 100000 in
set_option maxHeartbeats 1000000 in
theorem lower_any (a b : Ent) (w : World) : Calls Tryd.prog 47 #[.agg (ent8 a), .agg (ent8 b)] w fun e w' => e = .returned (.int .i64 (lowerI a b)) ∧ Below w.heap.size w w' := by
  have hb0 := ((Below.refl w.heap.size w).alloc (Nat.le_refl _) (.cells (ent8 a) 42)).alloc (by simp) (.cells (ent8 b) 42)
  go_enter Tryd.func47, Tryd.ntmps47
  repeat' ((fail_if_success at_builtin); (first | go_skip | go_guarded | go_step))
  refine (Tryd.cmp_Compare_int _ _ _).mono ?_
  rintro e w1 ⟨rfl, rfl⟩
  dsimp only
  repeat' ((fail_if_success at_builtin); (first | go_skip | go_guarded | go_step))
  go_ret
  exact ⟨rfl, hb0⟩
set_option maxRecDepth 100000 in
set_option maxHeartbeats 1000000 in
theorem later_any (a b : Ent) (w : World) : Calls Tryd.prog 49 #[.agg (ent8 a), .agg (ent8 b)] w fun e w' => e = .returned (.int .i64 (laterI a b)) ∧ Below w.heap.size w w' := by
  have hb0 := ((Below.refl w.heap.size w).alloc (Nat.le_refl _) (.cells (ent8 a) 42)).alloc (by simp) (.cells (ent8 b) 42)
  go_enter Tryd.func49, Tryd.ntmps49
  repeat' ((fail_if_success at_builtin); (first | go_skip | go_guarded | go_step))
  refine (Tryd.cmp_Compare_int _ _ _).mono ?_
  rintro e w1 ⟨rfl, rfl⟩
  dsimp only
  repeat' ((fail_if_success at_builtin); (first | go_skip | go_guarded | go_step))
  go_ret
  exact ⟨rfl, hb0⟩
set_option maxRecDepth 100000 in
set_option maxHeartbeats 4000000 in
theorem ord4_any (a b : Ent) (p2 p3 : Nat) (w : World) (h2 : w.cell? ⟨p2, 0, none⟩ = some (.func (.func 47) #[] #[])) (h3 : w.cell? ⟨p3, 0, none⟩ = some (.func (.func 49) #[] #[])) (l2 : p2 < w.heap.size) (l3 : p3 < w.heap.size) :
    Calls Tryd.prog 52 #[.agg (ent8 a), .agg (ent8 b), .pointer (some ⟨p2, 0, none⟩), .pointer (some ⟨p3, 0, none⟩)] w fun e w' => e = .returned (.int .i64 (orI (lowerI a b) (laterI a b))) ∧ Below w.heap.size w w' := by
  obtain ⟨w1, hw1⟩ : ∃ w1 : World, w1 = (w.alloc (.cells (ent8 a) 42)).alloc (.cells (ent8 b) 42) := ⟨_, rfl⟩
  have hb0 : Below w.heap.size w w1 := by rw [hw1]; exact ((Below.refl w.heap.size w).alloc (Nat.le_refl _) _).alloc (by simp) _
  have zz : w1.heap.size = w.heap.size + 2 := by rw [hw1]; simp
  have zA : CellsE w1 w.heap.size 0 a := by rw [hw1]; exact ⟨by simp [go_sem], by simp [go_sem], by simp [go_sem], by simp [go_sem], by simp [go_sem], by simp [go_sem], by simp [go_sem], by simp [go_sem]⟩
  have zB : CellsE w1 (w.heap.size + 1) 0 b := by rw [hw1]; exact ⟨by simp [go_sem], by simp [go_sem], by simp [go_sem], by simp [go_sem], by simp [go_sem], by simp [go_sem], by simp [go_sem], by simp [go_sem]⟩
  obtain ⟨a0, a1, a2, a3, a4, a5, a6, a7⟩ := zA
  obtain ⟨b0, b1, b2, b3, b4, b5, b6, b7⟩ := zB
  simp only [Nat.zero_add] at a1 a2 a3 a4 a5 a6 a7 b1 b2 b3 b4 b5 b6 b7
  have l0 : w.heap.size < w1.heap.size := by omega
  have l1 : w.heap.size + 1 < w1.heap.size := by omega
  have k2 := (hb0.cell (p := ⟨p2, 0, none⟩) l2).trans h2
  have k3 := (hb0.cell (p := ⟨p3, 0, none⟩) l3).trans h3
  have m2 : p2 < w1.heap.size := by omega
  have m3 : p3 < w1.heap.size := by omega
  have hS : ∀ w', Below w1.heap.size w1 w' → Below w1.heap.size w1 w' ∧ w'.cell? ⟨w.heap.size, 0, none⟩ = some (.string a.sc.prj) ∧ w'.cell? ⟨w.heap.size, 1, none⟩ = some (.int .i64 a.sc.trust) ∧ w'.cell? ⟨w.heap.size, 2, none⟩ = some (.string a.sc.ref) ∧ w'.cell? ⟨w.heap.size, 3, none⟩ = some (.string a.key) ∧ w'.cell? ⟨w.heap.size, 4, none⟩ = some (.int .u64 a.dig) ∧ w'.cell? ⟨w.heap.size, 5, none⟩ = some (.int .i64 a.size) ∧ w'.cell? ⟨w.heap.size, 6, none⟩ = some (.int .i64 a.created) ∧ w'.cell? ⟨w.heap.size, 7, none⟩ = some (.int .i64 a.used) ∧ w'.cell? ⟨w.heap.size + 1, 0, none⟩ = some (.string b.sc.prj) ∧ w'.cell? ⟨w.heap.size + 1, 1, none⟩ = some (.int .i64 b.sc.trust) ∧ w'.cell? ⟨w.heap.size + 1, 2, none⟩ = some (.string b.sc.ref) ∧ w'.cell? ⟨w.heap.size + 1, 3, none⟩ = some (.string b.key) ∧ w'.cell? ⟨w.heap.size + 1, 4, none⟩ = some (.int .u64 b.dig) ∧ w'.cell? ⟨w.heap.size + 1, 5, none⟩ = some (.int .i64 b.size) ∧ w'.cell? ⟨w.heap.size + 1, 6, none⟩ = some (.int .i64 b.created) ∧ w'.cell? ⟨w.heap.size + 1, 7, none⟩ = some (.int .i64 b.used) ∧ w'.cell? ⟨p2, 0, none⟩ = some (.func (.func 47) #[] #[]) ∧ w'.cell? ⟨p3, 0, none⟩ = some (.func (.func 49) #[] #[]) := fun w' hb => ⟨hb, (hb.cell (p := ⟨w.heap.size, 0, none⟩) l0).trans a0, (hb.cell (p := ⟨w.heap.size, 1, none⟩) l0).trans a1, (hb.cell (p := ⟨w.heap.size, 2, none⟩) l0).trans a2, (hb.cell (p := ⟨w.heap.size, 3, none⟩) l0).trans a3, (hb.cell (p := ⟨w.heap.size, 4, none⟩) l0).trans a4, (hb.cell (p := ⟨w.heap.size, 5, none⟩) l0).trans a5, (hb.cell (p := ⟨w.heap.size, 6, none⟩) l0).trans a6, (hb.cell (p := ⟨w.heap.size, 7, none⟩) l0).trans a7, (hb.cell (p := ⟨w.heap.size + 1, 0, none⟩) l1).trans b0, (hb.cell (p := ⟨w.heap.size + 1, 1, none⟩) l1).trans b1, (hb.cell (p := ⟨w.heap.size + 1, 2, none⟩) l1).trans b2, (hb.cell (p := ⟨w.heap.size + 1, 3, none⟩) l1).trans b3, (hb.cell (p := ⟨w.heap.size + 1, 4, none⟩) l1).trans b4, (hb.cell (p := ⟨w.heap.size + 1, 5, none⟩) l1).trans b5, (hb.cell (p := ⟨w.heap.size + 1, 6, none⟩) l1).trans b6, (hb.cell (p := ⟨w.heap.size + 1, 7, none⟩) l1).trans b7, (hb.cell (p := ⟨p2, 0, none⟩) m2).trans k2, (hb.cell (p := ⟨p3, 0, none⟩) m3).trans k3⟩
  have hS1 : Below w1.heap.size w1 w1.drew ∧ w1.drew.cell? ⟨w.heap.size, 0, none⟩ = some (.string a.sc.prj) ∧ w1.drew.cell? ⟨w.heap.size, 1, none⟩ = some (.int .i64 a.sc.trust) ∧ w1.drew.cell? ⟨w.heap.size, 2, none⟩ = some (.string a.sc.ref) ∧ w1.drew.cell? ⟨w.heap.size, 3, none⟩ = some (.string a.key) ∧ w1.drew.cell? ⟨w.heap.size, 4, none⟩ = some (.int .u64 a.dig) ∧ w1.drew.cell? ⟨w.heap.size, 5, none⟩ = some (.int .i64 a.size) ∧ w1.drew.cell? ⟨w.heap.size, 6, none⟩ = some (.int .i64 a.created) ∧ w1.drew.cell? ⟨w.heap.size, 7, none⟩ = some (.int .i64 a.used) ∧ w1.drew.cell? ⟨w.heap.size + 1, 0, none⟩ = some (.string b.sc.prj) ∧ w1.drew.cell? ⟨w.heap.size + 1, 1, none⟩ = some (.int .i64 b.sc.trust) ∧ w1.drew.cell? ⟨w.heap.size + 1, 2, none⟩ = some (.string b.sc.ref) ∧ w1.drew.cell? ⟨w.heap.size + 1, 3, none⟩ = some (.string b.key) ∧ w1.drew.cell? ⟨w.heap.size + 1, 4, none⟩ = some (.int .u64 b.dig) ∧ w1.drew.cell? ⟨w.heap.size + 1, 5, none⟩ = some (.int .i64 b.size) ∧ w1.drew.cell? ⟨w.heap.size + 1, 6, none⟩ = some (.int .i64 b.created) ∧ w1.drew.cell? ⟨w.heap.size + 1, 7, none⟩ = some (.int .i64 b.used) ∧ w1.drew.cell? ⟨p2, 0, none⟩ = some (.func (.func 47) #[] #[]) ∧ w1.drew.cell? ⟨p3, 0, none⟩ = some (.func (.func 49) #[] #[]) := hS w1.drew (Below.refl _ _).drew
  have keepA : ∀ w' o, (Below w1.heap.size w1 w' ∧ w'.cell? ⟨w.heap.size, 0, none⟩ = some (.string a.sc.prj) ∧ w'.cell? ⟨w.heap.size, 1, none⟩ = some (.int .i64 a.sc.trust) ∧ w'.cell? ⟨w.heap.size, 2, none⟩ = some (.string a.sc.ref) ∧ w'.cell? ⟨w.heap.size, 3, none⟩ = some (.string a.key) ∧ w'.cell? ⟨w.heap.size, 4, none⟩ = some (.int .u64 a.dig) ∧ w'.cell? ⟨w.heap.size, 5, none⟩ = some (.int .i64 a.size) ∧ w'.cell? ⟨w.heap.size, 6, none⟩ = some (.int .i64 a.created) ∧ w'.cell? ⟨w.heap.size, 7, none⟩ = some (.int .i64 a.used) ∧ w'.cell? ⟨w.heap.size + 1, 0, none⟩ = some (.string b.sc.prj) ∧ w'.cell? ⟨w.heap.size + 1, 1, none⟩ = some (.int .i64 b.sc.trust) ∧ w'.cell? ⟨w.heap.size + 1, 2, none⟩ = some (.string b.sc.ref) ∧ w'.cell? ⟨w.heap.size + 1, 3, none⟩ = some (.string b.key) ∧ w'.cell? ⟨w.heap.size + 1, 4, none⟩ = some (.int .u64 b.dig) ∧ w'.cell? ⟨w.heap.size + 1, 5, none⟩ = some (.int .i64 b.size) ∧ w'.cell? ⟨w.heap.size + 1, 6, none⟩ = some (.int .i64 b.created) ∧ w'.cell? ⟨w.heap.size + 1, 7, none⟩ = some (.int .i64 b.used) ∧ w'.cell? ⟨p2, 0, none⟩ = some (.func (.func 47) #[] #[]) ∧ w'.cell? ⟨p3, 0, none⟩ = some (.func (.func 49) #[] #[])) → (Below w1.heap.size w1 (w'.alloc o) ∧ (w'.alloc o).cell? ⟨w.heap.size, 0, none⟩ = some (.string a.sc.prj) ∧ (w'.alloc o).cell? ⟨w.heap.size, 1, none⟩ = some (.int .i64 a.sc.trust) ∧ (w'.alloc o).cell? ⟨w.heap.size, 2, none⟩ = some (.string a.sc.ref) ∧ (w'.alloc o).cell? ⟨w.heap.size, 3, none⟩ = some (.string a.key) ∧ (w'.alloc o).cell? ⟨w.heap.size, 4, none⟩ = some (.int .u64 a.dig) ∧ (w'.alloc o).cell? ⟨w.heap.size, 5, none⟩ = some (.int .i64 a.size) ∧ (w'.alloc o).cell? ⟨w.heap.size, 6, none⟩ = some (.int .i64 a.created) ∧ (w'.alloc o).cell? ⟨w.heap.size, 7, none⟩ = some (.int .i64 a.used) ∧ (w'.alloc o).cell? ⟨w.heap.size + 1, 0, none⟩ = some (.string b.sc.prj) ∧ (w'.alloc o).cell? ⟨w.heap.size + 1, 1, none⟩ = some (.int .i64 b.sc.trust) ∧ (w'.alloc o).cell? ⟨w.heap.size + 1, 2, none⟩ = some (.string b.sc.ref) ∧ (w'.alloc o).cell? ⟨w.heap.size + 1, 3, none⟩ = some (.string b.key) ∧ (w'.alloc o).cell? ⟨w.heap.size + 1, 4, none⟩ = some (.int .u64 b.dig) ∧ (w'.alloc o).cell? ⟨w.heap.size + 1, 5, none⟩ = some (.int .i64 b.size) ∧ (w'.alloc o).cell? ⟨w.heap.size + 1, 6, none⟩ = some (.int .i64 b.created) ∧ (w'.alloc o).cell? ⟨w.heap.size + 1, 7, none⟩ = some (.int .i64 b.used) ∧ (w'.alloc o).cell? ⟨p2, 0, none⟩ = some (.func (.func 47) #[] #[]) ∧ (w'.alloc o).cell? ⟨p3, 0, none⟩ = some (.func (.func 49) #[] #[])) := fun w' o h => hS _ (h.1.alloc h.1.size o)
  have keepS : ∀ w' w'', (Below w1.heap.size w1 w' ∧ w'.cell? ⟨w.heap.size, 0, none⟩ = some (.string a.sc.prj) ∧ w'.cell? ⟨w.heap.size, 1, none⟩ = some (.int .i64 a.sc.trust) ∧ w'.cell? ⟨w.heap.size, 2, none⟩ = some (.string a.sc.ref) ∧ w'.cell? ⟨w.heap.size, 3, none⟩ = some (.string a.key) ∧ w'.cell? ⟨w.heap.size, 4, none⟩ = some (.int .u64 a.dig) ∧ w'.cell? ⟨w.heap.size, 5, none⟩ = some (.int .i64 a.size) ∧ w'.cell? ⟨w.heap.size, 6, none⟩ = some (.int .i64 a.created) ∧ w'.cell? ⟨w.heap.size, 7, none⟩ = some (.int .i64 a.used) ∧ w'.cell? ⟨w.heap.size + 1, 0, none⟩ = some (.string b.sc.prj) ∧ w'.cell? ⟨w.heap.size + 1, 1, none⟩ = some (.int .i64 b.sc.trust) ∧ w'.cell? ⟨w.heap.size + 1, 2, none⟩ = some (.string b.sc.ref) ∧ w'.cell? ⟨w.heap.size + 1, 3, none⟩ = some (.string b.key) ∧ w'.cell? ⟨w.heap.size + 1, 4, none⟩ = some (.int .u64 b.dig) ∧ w'.cell? ⟨w.heap.size + 1, 5, none⟩ = some (.int .i64 b.size) ∧ w'.cell? ⟨w.heap.size + 1, 6, none⟩ = some (.int .i64 b.created) ∧ w'.cell? ⟨w.heap.size + 1, 7, none⟩ = some (.int .i64 b.used) ∧ w'.cell? ⟨p2, 0, none⟩ = some (.func (.func 47) #[] #[]) ∧ w'.cell? ⟨p3, 0, none⟩ = some (.func (.func 49) #[] #[])) → Below w'.heap.size w' w'' → (Below w1.heap.size w1 w'' ∧ w''.cell? ⟨w.heap.size, 0, none⟩ = some (.string a.sc.prj) ∧ w''.cell? ⟨w.heap.size, 1, none⟩ = some (.int .i64 a.sc.trust) ∧ w''.cell? ⟨w.heap.size, 2, none⟩ = some (.string a.sc.ref) ∧ w''.cell? ⟨w.heap.size, 3, none⟩ = some (.string a.key) ∧ w''.cell? ⟨w.heap.size, 4, none⟩ = some (.int .u64 a.dig) ∧ w''.cell? ⟨w.heap.size, 5, none⟩ = some (.int .i64 a.size) ∧ w''.cell? ⟨w.heap.size, 6, none⟩ = some (.int .i64 a.created) ∧ w''.cell? ⟨w.heap.size, 7, none⟩ = some (.int .i64 a.used) ∧ w''.cell? ⟨w.heap.size + 1, 0, none⟩ = some (.string b.sc.prj) ∧ w''.cell? ⟨w.heap.size + 1, 1, none⟩ = some (.int .i64 b.sc.trust) ∧ w''.cell? ⟨w.heap.size + 1, 2, none⟩ = some (.string b.sc.ref) ∧ w''.cell? ⟨w.heap.size + 1, 3, none⟩ = some (.string b.key) ∧ w''.cell? ⟨w.heap.size + 1, 4, none⟩ = some (.int .u64 b.dig) ∧ w''.cell? ⟨w.heap.size + 1, 5, none⟩ = some (.int .i64 b.size) ∧ w''.cell? ⟨w.heap.size + 1, 6, none⟩ = some (.int .i64 b.created) ∧ w''.cell? ⟨w.heap.size + 1, 7, none⟩ = some (.int .i64 b.used) ∧ w''.cell? ⟨p2, 0, none⟩ = some (.func (.func 47) #[] #[]) ∧ w''.cell? ⟨p3, 0, none⟩ = some (.func (.func 49) #[] #[])) := fun w' w'' h hc => hS w'' (h.1.trans (hc.mono h.1.size))
  replace hw1 := Lib.hid hw1
  replace keepA := Lib.hid keepA
  replace keepS := Lib.hid keepS
  clear hS h2 h3
  go_enter Tryd.func52, Tryd.ntmps52
  repeat' ((fail_if_success at_builtin); (first | go_skip | go_guarded | go_step))
  rw [← hw1.out]
  refine wp_region_held_drew (S := fun w' => Below w1.heap.size w1 w' ∧ w'.cell? ⟨w.heap.size, 0, none⟩ = some (.string a.sc.prj) ∧ w'.cell? ⟨w.heap.size, 1, none⟩ = some (.int .i64 a.sc.trust) ∧ w'.cell? ⟨w.heap.size, 2, none⟩ = some (.string a.sc.ref) ∧ w'.cell? ⟨w.heap.size, 3, none⟩ = some (.string a.key) ∧ w'.cell? ⟨w.heap.size, 4, none⟩ = some (.int .u64 a.dig) ∧ w'.cell? ⟨w.heap.size, 5, none⟩ = some (.int .i64 a.size) ∧ w'.cell? ⟨w.heap.size, 6, none⟩ = some (.int .i64 a.created) ∧ w'.cell? ⟨w.heap.size, 7, none⟩ = some (.int .i64 a.used) ∧ w'.cell? ⟨w.heap.size + 1, 0, none⟩ = some (.string b.sc.prj) ∧ w'.cell? ⟨w.heap.size + 1, 1, none⟩ = some (.int .i64 b.sc.trust) ∧ w'.cell? ⟨w.heap.size + 1, 2, none⟩ = some (.string b.sc.ref) ∧ w'.cell? ⟨w.heap.size + 1, 3, none⟩ = some (.string b.key) ∧ w'.cell? ⟨w.heap.size + 1, 4, none⟩ = some (.int .u64 b.dig) ∧ w'.cell? ⟨w.heap.size + 1, 5, none⟩ = some (.int .i64 b.size) ∧ w'.cell? ⟨w.heap.size + 1, 6, none⟩ = some (.int .i64 b.created) ∧ w'.cell? ⟨w.heap.size + 1, 7, none⟩ = some (.int .i64 b.used) ∧ w'.cell? ⟨p2, 0, none⟩ = some (.func (.func 47) #[] #[]) ∧ w'.cell? ⟨p3, 0, none⟩ = some (.func (.func 49) #[] #[])) (by kernel_rfl) ?_ (fun hHeld => ?_)
  · (try dsimp only)
    exact hS1
  refine wpAnyH_take (i := 0) (v := ?v404) rfl (by kernel_rfl) (by kernel_rfl) (by kernel_rfl) (fun _ _ _ h => h) (Or.inl ⟨by rfl, ?hy404⟩) (by assumption) ?rest404
  case hy404 => (intro w hSw; (try dsimp only at hSw); go_simp; try with_reducible rfl)
  simp only [Act.put, List.getElem_toArray, List.getElem_cons_zero, List.setIfInBounds_toArray, List.set_cons_zero, List.set_cons_succ]
  refine wpAnyH_take (i := 1) (v := ?v405) rfl (by kernel_rfl) (by kernel_rfl) (by kernel_rfl) (fun _ _ _ h => h) (Or.inl ⟨by rfl, ?hy405⟩) (by assumption) ?rest405
  case hy405 => (intro w hSw; (try dsimp only at hSw); go_simp; try with_reducible rfl)
  simp only [Act.put, List.getElem_toArray, List.getElem_cons_zero, List.getElem_cons_succ, List.setIfInBounds_toArray, List.set_cons_zero, List.set_cons_succ]
  refine wpAnyH_take (i := 2) (v := ?v406) rfl (by kernel_rfl) (by kernel_rfl) (by kernel_rfl) (fun _ _ _ h => h) (Or.inl ⟨by rfl, ?hy406⟩) (by assumption) ?rest406
  case hy406 => (intro w hSw; (try dsimp only at hSw); go_simp; try with_reducible rfl)
  simp only [Act.put, List.getElem_toArray, List.getElem_cons_zero, List.getElem_cons_succ, List.setIfInBounds_toArray, List.set_cons_zero, List.set_cons_succ]
  refine wpAnyH_take (i := 4) (v := ?v407) rfl (by kernel_rfl) (by kernel_rfl) (by kernel_rfl) (fun _ _ _ h => h) (Or.inl ⟨by rfl, ?hy407⟩) (by assumption) ?rest407
  case hy407 => (intro w hSw; (try dsimp only at hSw); go_simp; try with_reducible rfl)
  simp only [Act.put, List.getElem_toArray, List.getElem_cons_zero, List.getElem_cons_succ, List.setIfInBounds_toArray, List.set_cons_zero, List.set_cons_succ]
  refine wpAnyH_take (i := 5) (v := ?v408) rfl (by kernel_rfl) (by kernel_rfl) (by kernel_rfl) (fun _ _ _ h => h) (Or.inl ⟨by rfl, ?hy408⟩) (by assumption) ?rest408
  case hy408 => (intro w hSw; (try dsimp only at hSw); go_simp; try with_reducible rfl)
  simp only [Act.put, List.getElem_toArray, List.getElem_cons_zero, List.getElem_cons_succ, List.setIfInBounds_toArray, List.set_cons_zero, List.set_cons_succ]
  refine wpAnyH_take (i := 6) (v := ?v409) rfl (by kernel_rfl) (by kernel_rfl) (by kernel_rfl) (fun _ _ _ h => h) (Or.inl ⟨by rfl, ?hy409⟩) (by assumption) ?rest409
  case hy409 => (intro w hSw; (try dsimp only at hSw); go_simp; try with_reducible rfl)
  simp only [Act.put, List.getElem_toArray, List.getElem_cons_zero, List.getElem_cons_succ, List.setIfInBounds_toArray, List.set_cons_zero, List.set_cons_succ]
  refine wpAnyH_ready (rs := [3]) (by kernel_rfl) (by simp) ?_
  refine AllReadyH.cons rfl (fun K hK => ?_) AllReadyH.nil
  go_simp
  go_at_call 47
  refine (lower_any a b _).mono ?_
  rintro e v3 ⟨rfl, hbq⟩
  dsimp only
  refine hK.out _ _ ?_ (fun hHeld => ?_)
  · (try dsimp only)
    first | exact hHeld | exact keepA.out _ _ hHeld | exact keepS.out _ _ hHeld hbq
  clear hK K
  try simp only [Act.put, List.getElem_toArray, List.getElem_cons_zero, List.getElem_cons_succ, List.setIfInBounds_toArray, List.set_cons_zero, List.set_cons_succ]
  refine wpAnyH_ready (rs := [7]) (by kernel_rfl) (by simp) ?_
  refine AllReadyH.cons rfl (fun K hK => ?_) AllReadyH.nil
  go_simp
  go_at_call 49
  refine (later_any a b _).mono ?_
  rintro e v7 ⟨rfl, hbq⟩
  dsimp only
  refine hK.out _ _ ?_ (fun hHeld => ?_)
  · (try dsimp only)
    first | exact hHeld | exact keepA.out _ _ hHeld | exact keepS.out _ _ hHeld hbq
  clear hK K
  try simp only [Act.put, List.getElem_toArray, List.getElem_cons_zero, List.getElem_cons_succ, List.setIfInBounds_toArray, List.set_cons_zero, List.set_cons_succ]
  refine wpAnyH_ready (rs := [8]) (by kernel_rfl) (by simp) ?_
  refine AllReadyH.cons rfl (fun K hK => ?_) AllReadyH.nil
  go_simp
  refine hK.out _ _ ?_ (fun hHeld => ?_)
  · (try dsimp only)
    first | exact hHeld | exact keepA.out _ _ hHeld | exact keepS.out _ _ hHeld hbq
  clear hK K
  try simp only [Act.put, List.getElem_toArray, List.getElem_cons_zero, List.getElem_cons_succ, List.setIfInBounds_toArray, List.set_cons_zero, List.set_cons_succ]
  refine wpAnyH_ready (rs := [9]) (by kernel_rfl) (by simp) ?_
  refine AllReadyH.cons rfl (fun K hK => ?_) AllReadyH.nil
  go_simp
  go_at_call 53
  refine (or_any (lowerI a b) (laterI a b) _ _ (by simp [go_sem]) (by simp [go_sem])).mono ?_
  rintro e v9 ⟨rfl, rfl⟩
  dsimp only
  refine hK.out _ _ ?_ (fun hHeld => ?_)
  · (try dsimp only)
    first | exact hHeld | exact keepA.out _ _ hHeld | exact keepS.out _ _ hHeld hbq
  clear hK K
  try simp only [Act.put, List.getElem_toArray, List.getElem_cons_zero, List.getElem_cons_succ, List.setIfInBounds_toArray, List.set_cons_zero, List.set_cons_succ]
  refine wpAnyH_take (i := 10) (v := ?v410) rfl (by kernel_rfl) (by kernel_rfl) (by kernel_rfl) (fun _ _ _ h => h) (Or.inl ⟨by rfl, ?hy410⟩) (by assumption) ?rest410
  case hy410 => (intro w hSw; (try dsimp only at hSw); go_simp; try with_reducible rfl)
  simp only [Act.put, List.getElem_toArray, List.getElem_cons_zero, List.getElem_cons_succ, List.setIfInBounds_toArray, List.set_cons_zero, List.set_cons_succ]
  refine wpAnyH_done (by kernel_rfl) ?_ _
  have hb9 := hHeld.1
  repeat' ((fail_if_success at_builtin); (first | go_skip | go_guarded | go_step))
  go_ret
  exact ⟨rfl, hb0.trans (hb9.mono hb0.size)⟩
set_option maxRecDepth 100000 in
set_option maxHeartbeats 4000000 in
theorem ord6_any (a b : Ent) (p2 p3 : Nat) (w : World) (h2 : w.cell? ⟨p2, 0, none⟩ = some (.func (.func 49) #[] #[])) (h3 : w.cell? ⟨p3, 0, none⟩ = some (.func (.func 47) #[] #[])) (l2 : p2 < w.heap.size) (l3 : p3 < w.heap.size) :
    Calls Tryd.prog 56 #[.agg (ent8 a), .agg (ent8 b), .pointer (some ⟨p2, 0, none⟩), .pointer (some ⟨p3, 0, none⟩)] w fun e w' => e = .returned (.int .i64 (orI (laterI a b) (lowerI a b))) ∧ Below w.heap.size w w' := by
  obtain ⟨w1, hw1⟩ : ∃ w1 : World, w1 = (w.alloc (.cells (ent8 a) 42)).alloc (.cells (ent8 b) 42) := ⟨_, rfl⟩
  have hb0 : Below w.heap.size w w1 := by rw [hw1]; exact ((Below.refl w.heap.size w).alloc (Nat.le_refl _) _).alloc (by simp) _
  have zz : w1.heap.size = w.heap.size + 2 := by rw [hw1]; simp
  have zA : CellsE w1 w.heap.size 0 a := by rw [hw1]; exact ⟨by simp [go_sem], by simp [go_sem], by simp [go_sem], by simp [go_sem], by simp [go_sem], by simp [go_sem], by simp [go_sem], by simp [go_sem]⟩
  have zB : CellsE w1 (w.heap.size + 1) 0 b := by rw [hw1]; exact ⟨by simp [go_sem], by simp [go_sem], by simp [go_sem], by simp [go_sem], by simp [go_sem], by simp [go_sem], by simp [go_sem], by simp [go_sem]⟩
  obtain ⟨a0, a1, a2, a3, a4, a5, a6, a7⟩ := zA
  obtain ⟨b0, b1, b2, b3, b4, b5, b6, b7⟩ := zB
  simp only [Nat.zero_add] at a1 a2 a3 a4 a5 a6 a7 b1 b2 b3 b4 b5 b6 b7
  have l0 : w.heap.size < w1.heap.size := by omega
  have l1 : w.heap.size + 1 < w1.heap.size := by omega
  have k2 := (hb0.cell (p := ⟨p2, 0, none⟩) l2).trans h2
  have k3 := (hb0.cell (p := ⟨p3, 0, none⟩) l3).trans h3
  have m2 : p2 < w1.heap.size := by omega
  have m3 : p3 < w1.heap.size := by omega
  have hS : ∀ w', Below w1.heap.size w1 w' → Below w1.heap.size w1 w' ∧ w'.cell? ⟨w.heap.size, 0, none⟩ = some (.string a.sc.prj) ∧ w'.cell? ⟨w.heap.size, 1, none⟩ = some (.int .i64 a.sc.trust) ∧ w'.cell? ⟨w.heap.size, 2, none⟩ = some (.string a.sc.ref) ∧ w'.cell? ⟨w.heap.size, 3, none⟩ = some (.string a.key) ∧ w'.cell? ⟨w.heap.size, 4, none⟩ = some (.int .u64 a.dig) ∧ w'.cell? ⟨w.heap.size, 5, none⟩ = some (.int .i64 a.size) ∧ w'.cell? ⟨w.heap.size, 6, none⟩ = some (.int .i64 a.created) ∧ w'.cell? ⟨w.heap.size, 7, none⟩ = some (.int .i64 a.used) ∧ w'.cell? ⟨w.heap.size + 1, 0, none⟩ = some (.string b.sc.prj) ∧ w'.cell? ⟨w.heap.size + 1, 1, none⟩ = some (.int .i64 b.sc.trust) ∧ w'.cell? ⟨w.heap.size + 1, 2, none⟩ = some (.string b.sc.ref) ∧ w'.cell? ⟨w.heap.size + 1, 3, none⟩ = some (.string b.key) ∧ w'.cell? ⟨w.heap.size + 1, 4, none⟩ = some (.int .u64 b.dig) ∧ w'.cell? ⟨w.heap.size + 1, 5, none⟩ = some (.int .i64 b.size) ∧ w'.cell? ⟨w.heap.size + 1, 6, none⟩ = some (.int .i64 b.created) ∧ w'.cell? ⟨w.heap.size + 1, 7, none⟩ = some (.int .i64 b.used) ∧ w'.cell? ⟨p2, 0, none⟩ = some (.func (.func 49) #[] #[]) ∧ w'.cell? ⟨p3, 0, none⟩ = some (.func (.func 47) #[] #[]) := fun w' hb => ⟨hb, (hb.cell (p := ⟨w.heap.size, 0, none⟩) l0).trans a0, (hb.cell (p := ⟨w.heap.size, 1, none⟩) l0).trans a1, (hb.cell (p := ⟨w.heap.size, 2, none⟩) l0).trans a2, (hb.cell (p := ⟨w.heap.size, 3, none⟩) l0).trans a3, (hb.cell (p := ⟨w.heap.size, 4, none⟩) l0).trans a4, (hb.cell (p := ⟨w.heap.size, 5, none⟩) l0).trans a5, (hb.cell (p := ⟨w.heap.size, 6, none⟩) l0).trans a6, (hb.cell (p := ⟨w.heap.size, 7, none⟩) l0).trans a7, (hb.cell (p := ⟨w.heap.size + 1, 0, none⟩) l1).trans b0, (hb.cell (p := ⟨w.heap.size + 1, 1, none⟩) l1).trans b1, (hb.cell (p := ⟨w.heap.size + 1, 2, none⟩) l1).trans b2, (hb.cell (p := ⟨w.heap.size + 1, 3, none⟩) l1).trans b3, (hb.cell (p := ⟨w.heap.size + 1, 4, none⟩) l1).trans b4, (hb.cell (p := ⟨w.heap.size + 1, 5, none⟩) l1).trans b5, (hb.cell (p := ⟨w.heap.size + 1, 6, none⟩) l1).trans b6, (hb.cell (p := ⟨w.heap.size + 1, 7, none⟩) l1).trans b7, (hb.cell (p := ⟨p2, 0, none⟩) m2).trans k2, (hb.cell (p := ⟨p3, 0, none⟩) m3).trans k3⟩
  have hS1 : Below w1.heap.size w1 w1.drew ∧ w1.drew.cell? ⟨w.heap.size, 0, none⟩ = some (.string a.sc.prj) ∧ w1.drew.cell? ⟨w.heap.size, 1, none⟩ = some (.int .i64 a.sc.trust) ∧ w1.drew.cell? ⟨w.heap.size, 2, none⟩ = some (.string a.sc.ref) ∧ w1.drew.cell? ⟨w.heap.size, 3, none⟩ = some (.string a.key) ∧ w1.drew.cell? ⟨w.heap.size, 4, none⟩ = some (.int .u64 a.dig) ∧ w1.drew.cell? ⟨w.heap.size, 5, none⟩ = some (.int .i64 a.size) ∧ w1.drew.cell? ⟨w.heap.size, 6, none⟩ = some (.int .i64 a.created) ∧ w1.drew.cell? ⟨w.heap.size, 7, none⟩ = some (.int .i64 a.used) ∧ w1.drew.cell? ⟨w.heap.size + 1, 0, none⟩ = some (.string b.sc.prj) ∧ w1.drew.cell? ⟨w.heap.size + 1, 1, none⟩ = some (.int .i64 b.sc.trust) ∧ w1.drew.cell? ⟨w.heap.size + 1, 2, none⟩ = some (.string b.sc.ref) ∧ w1.drew.cell? ⟨w.heap.size + 1, 3, none⟩ = some (.string b.key) ∧ w1.drew.cell? ⟨w.heap.size + 1, 4, none⟩ = some (.int .u64 b.dig) ∧ w1.drew.cell? ⟨w.heap.size + 1, 5, none⟩ = some (.int .i64 b.size) ∧ w1.drew.cell? ⟨w.heap.size + 1, 6, none⟩ = some (.int .i64 b.created) ∧ w1.drew.cell? ⟨w.heap.size + 1, 7, none⟩ = some (.int .i64 b.used) ∧ w1.drew.cell? ⟨p2, 0, none⟩ = some (.func (.func 49) #[] #[]) ∧ w1.drew.cell? ⟨p3, 0, none⟩ = some (.func (.func 47) #[] #[]) := hS w1.drew (Below.refl _ _).drew
  have keepA : ∀ w' o, (Below w1.heap.size w1 w' ∧ w'.cell? ⟨w.heap.size, 0, none⟩ = some (.string a.sc.prj) ∧ w'.cell? ⟨w.heap.size, 1, none⟩ = some (.int .i64 a.sc.trust) ∧ w'.cell? ⟨w.heap.size, 2, none⟩ = some (.string a.sc.ref) ∧ w'.cell? ⟨w.heap.size, 3, none⟩ = some (.string a.key) ∧ w'.cell? ⟨w.heap.size, 4, none⟩ = some (.int .u64 a.dig) ∧ w'.cell? ⟨w.heap.size, 5, none⟩ = some (.int .i64 a.size) ∧ w'.cell? ⟨w.heap.size, 6, none⟩ = some (.int .i64 a.created) ∧ w'.cell? ⟨w.heap.size, 7, none⟩ = some (.int .i64 a.used) ∧ w'.cell? ⟨w.heap.size + 1, 0, none⟩ = some (.string b.sc.prj) ∧ w'.cell? ⟨w.heap.size + 1, 1, none⟩ = some (.int .i64 b.sc.trust) ∧ w'.cell? ⟨w.heap.size + 1, 2, none⟩ = some (.string b.sc.ref) ∧ w'.cell? ⟨w.heap.size + 1, 3, none⟩ = some (.string b.key) ∧ w'.cell? ⟨w.heap.size + 1, 4, none⟩ = some (.int .u64 b.dig) ∧ w'.cell? ⟨w.heap.size + 1, 5, none⟩ = some (.int .i64 b.size) ∧ w'.cell? ⟨w.heap.size + 1, 6, none⟩ = some (.int .i64 b.created) ∧ w'.cell? ⟨w.heap.size + 1, 7, none⟩ = some (.int .i64 b.used) ∧ w'.cell? ⟨p2, 0, none⟩ = some (.func (.func 49) #[] #[]) ∧ w'.cell? ⟨p3, 0, none⟩ = some (.func (.func 47) #[] #[])) → (Below w1.heap.size w1 (w'.alloc o) ∧ (w'.alloc o).cell? ⟨w.heap.size, 0, none⟩ = some (.string a.sc.prj) ∧ (w'.alloc o).cell? ⟨w.heap.size, 1, none⟩ = some (.int .i64 a.sc.trust) ∧ (w'.alloc o).cell? ⟨w.heap.size, 2, none⟩ = some (.string a.sc.ref) ∧ (w'.alloc o).cell? ⟨w.heap.size, 3, none⟩ = some (.string a.key) ∧ (w'.alloc o).cell? ⟨w.heap.size, 4, none⟩ = some (.int .u64 a.dig) ∧ (w'.alloc o).cell? ⟨w.heap.size, 5, none⟩ = some (.int .i64 a.size) ∧ (w'.alloc o).cell? ⟨w.heap.size, 6, none⟩ = some (.int .i64 a.created) ∧ (w'.alloc o).cell? ⟨w.heap.size, 7, none⟩ = some (.int .i64 a.used) ∧ (w'.alloc o).cell? ⟨w.heap.size + 1, 0, none⟩ = some (.string b.sc.prj) ∧ (w'.alloc o).cell? ⟨w.heap.size + 1, 1, none⟩ = some (.int .i64 b.sc.trust) ∧ (w'.alloc o).cell? ⟨w.heap.size + 1, 2, none⟩ = some (.string b.sc.ref) ∧ (w'.alloc o).cell? ⟨w.heap.size + 1, 3, none⟩ = some (.string b.key) ∧ (w'.alloc o).cell? ⟨w.heap.size + 1, 4, none⟩ = some (.int .u64 b.dig) ∧ (w'.alloc o).cell? ⟨w.heap.size + 1, 5, none⟩ = some (.int .i64 b.size) ∧ (w'.alloc o).cell? ⟨w.heap.size + 1, 6, none⟩ = some (.int .i64 b.created) ∧ (w'.alloc o).cell? ⟨w.heap.size + 1, 7, none⟩ = some (.int .i64 b.used) ∧ (w'.alloc o).cell? ⟨p2, 0, none⟩ = some (.func (.func 49) #[] #[]) ∧ (w'.alloc o).cell? ⟨p3, 0, none⟩ = some (.func (.func 47) #[] #[])) := fun w' o h => hS _ (h.1.alloc h.1.size o)
  have keepS : ∀ w' w'', (Below w1.heap.size w1 w' ∧ w'.cell? ⟨w.heap.size, 0, none⟩ = some (.string a.sc.prj) ∧ w'.cell? ⟨w.heap.size, 1, none⟩ = some (.int .i64 a.sc.trust) ∧ w'.cell? ⟨w.heap.size, 2, none⟩ = some (.string a.sc.ref) ∧ w'.cell? ⟨w.heap.size, 3, none⟩ = some (.string a.key) ∧ w'.cell? ⟨w.heap.size, 4, none⟩ = some (.int .u64 a.dig) ∧ w'.cell? ⟨w.heap.size, 5, none⟩ = some (.int .i64 a.size) ∧ w'.cell? ⟨w.heap.size, 6, none⟩ = some (.int .i64 a.created) ∧ w'.cell? ⟨w.heap.size, 7, none⟩ = some (.int .i64 a.used) ∧ w'.cell? ⟨w.heap.size + 1, 0, none⟩ = some (.string b.sc.prj) ∧ w'.cell? ⟨w.heap.size + 1, 1, none⟩ = some (.int .i64 b.sc.trust) ∧ w'.cell? ⟨w.heap.size + 1, 2, none⟩ = some (.string b.sc.ref) ∧ w'.cell? ⟨w.heap.size + 1, 3, none⟩ = some (.string b.key) ∧ w'.cell? ⟨w.heap.size + 1, 4, none⟩ = some (.int .u64 b.dig) ∧ w'.cell? ⟨w.heap.size + 1, 5, none⟩ = some (.int .i64 b.size) ∧ w'.cell? ⟨w.heap.size + 1, 6, none⟩ = some (.int .i64 b.created) ∧ w'.cell? ⟨w.heap.size + 1, 7, none⟩ = some (.int .i64 b.used) ∧ w'.cell? ⟨p2, 0, none⟩ = some (.func (.func 49) #[] #[]) ∧ w'.cell? ⟨p3, 0, none⟩ = some (.func (.func 47) #[] #[])) → Below w'.heap.size w' w'' → (Below w1.heap.size w1 w'' ∧ w''.cell? ⟨w.heap.size, 0, none⟩ = some (.string a.sc.prj) ∧ w''.cell? ⟨w.heap.size, 1, none⟩ = some (.int .i64 a.sc.trust) ∧ w''.cell? ⟨w.heap.size, 2, none⟩ = some (.string a.sc.ref) ∧ w''.cell? ⟨w.heap.size, 3, none⟩ = some (.string a.key) ∧ w''.cell? ⟨w.heap.size, 4, none⟩ = some (.int .u64 a.dig) ∧ w''.cell? ⟨w.heap.size, 5, none⟩ = some (.int .i64 a.size) ∧ w''.cell? ⟨w.heap.size, 6, none⟩ = some (.int .i64 a.created) ∧ w''.cell? ⟨w.heap.size, 7, none⟩ = some (.int .i64 a.used) ∧ w''.cell? ⟨w.heap.size + 1, 0, none⟩ = some (.string b.sc.prj) ∧ w''.cell? ⟨w.heap.size + 1, 1, none⟩ = some (.int .i64 b.sc.trust) ∧ w''.cell? ⟨w.heap.size + 1, 2, none⟩ = some (.string b.sc.ref) ∧ w''.cell? ⟨w.heap.size + 1, 3, none⟩ = some (.string b.key) ∧ w''.cell? ⟨w.heap.size + 1, 4, none⟩ = some (.int .u64 b.dig) ∧ w''.cell? ⟨w.heap.size + 1, 5, none⟩ = some (.int .i64 b.size) ∧ w''.cell? ⟨w.heap.size + 1, 6, none⟩ = some (.int .i64 b.created) ∧ w''.cell? ⟨w.heap.size + 1, 7, none⟩ = some (.int .i64 b.used) ∧ w''.cell? ⟨p2, 0, none⟩ = some (.func (.func 49) #[] #[]) ∧ w''.cell? ⟨p3, 0, none⟩ = some (.func (.func 47) #[] #[])) := fun w' w'' h hc => hS w'' (h.1.trans (hc.mono h.1.size))
  replace hw1 := Lib.hid hw1
  replace keepA := Lib.hid keepA
  replace keepS := Lib.hid keepS
  clear hS h2 h3
  go_enter Tryd.func56, Tryd.ntmps56
  repeat' ((fail_if_success at_builtin); (first | go_skip | go_guarded | go_step))
  rw [← hw1.out]
  refine wp_region_held_drew (S := fun w' => Below w1.heap.size w1 w' ∧ w'.cell? ⟨w.heap.size, 0, none⟩ = some (.string a.sc.prj) ∧ w'.cell? ⟨w.heap.size, 1, none⟩ = some (.int .i64 a.sc.trust) ∧ w'.cell? ⟨w.heap.size, 2, none⟩ = some (.string a.sc.ref) ∧ w'.cell? ⟨w.heap.size, 3, none⟩ = some (.string a.key) ∧ w'.cell? ⟨w.heap.size, 4, none⟩ = some (.int .u64 a.dig) ∧ w'.cell? ⟨w.heap.size, 5, none⟩ = some (.int .i64 a.size) ∧ w'.cell? ⟨w.heap.size, 6, none⟩ = some (.int .i64 a.created) ∧ w'.cell? ⟨w.heap.size, 7, none⟩ = some (.int .i64 a.used) ∧ w'.cell? ⟨w.heap.size + 1, 0, none⟩ = some (.string b.sc.prj) ∧ w'.cell? ⟨w.heap.size + 1, 1, none⟩ = some (.int .i64 b.sc.trust) ∧ w'.cell? ⟨w.heap.size + 1, 2, none⟩ = some (.string b.sc.ref) ∧ w'.cell? ⟨w.heap.size + 1, 3, none⟩ = some (.string b.key) ∧ w'.cell? ⟨w.heap.size + 1, 4, none⟩ = some (.int .u64 b.dig) ∧ w'.cell? ⟨w.heap.size + 1, 5, none⟩ = some (.int .i64 b.size) ∧ w'.cell? ⟨w.heap.size + 1, 6, none⟩ = some (.int .i64 b.created) ∧ w'.cell? ⟨w.heap.size + 1, 7, none⟩ = some (.int .i64 b.used) ∧ w'.cell? ⟨p2, 0, none⟩ = some (.func (.func 49) #[] #[]) ∧ w'.cell? ⟨p3, 0, none⟩ = some (.func (.func 47) #[] #[])) (by kernel_rfl) ?_ (fun hHeld => ?_)
  · (try dsimp only)
    exact hS1
  refine wpAnyH_take (i := 0) (v := ?v411) rfl (by kernel_rfl) (by kernel_rfl) (by kernel_rfl) (fun _ _ _ h => h) (Or.inl ⟨by rfl, ?hy411⟩) (by assumption) ?rest411
  case hy411 => (intro w hSw; (try dsimp only at hSw); go_simp; try with_reducible rfl)
  simp only [Act.put, List.getElem_toArray, List.getElem_cons_zero, List.setIfInBounds_toArray, List.set_cons_zero, List.set_cons_succ]
  refine wpAnyH_take (i := 1) (v := ?v412) rfl (by kernel_rfl) (by kernel_rfl) (by kernel_rfl) (fun _ _ _ h => h) (Or.inl ⟨by rfl, ?hy412⟩) (by assumption) ?rest412
  case hy412 => (intro w hSw; (try dsimp only at hSw); go_simp; try with_reducible rfl)
  simp only [Act.put, List.getElem_toArray, List.getElem_cons_zero, List.getElem_cons_succ, List.setIfInBounds_toArray, List.set_cons_zero, List.set_cons_succ]
  refine wpAnyH_take (i := 2) (v := ?v413) rfl (by kernel_rfl) (by kernel_rfl) (by kernel_rfl) (fun _ _ _ h => h) (Or.inl ⟨by rfl, ?hy413⟩) (by assumption) ?rest413
  case hy413 => (intro w hSw; (try dsimp only at hSw); go_simp; try with_reducible rfl)
  simp only [Act.put, List.getElem_toArray, List.getElem_cons_zero, List.getElem_cons_succ, List.setIfInBounds_toArray, List.set_cons_zero, List.set_cons_succ]
  refine wpAnyH_take (i := 4) (v := ?v414) rfl (by kernel_rfl) (by kernel_rfl) (by kernel_rfl) (fun _ _ _ h => h) (Or.inl ⟨by rfl, ?hy414⟩) (by assumption) ?rest414
  case hy414 => (intro w hSw; (try dsimp only at hSw); go_simp; try with_reducible rfl)
  simp only [Act.put, List.getElem_toArray, List.getElem_cons_zero, List.getElem_cons_succ, List.setIfInBounds_toArray, List.set_cons_zero, List.set_cons_succ]
  refine wpAnyH_take (i := 5) (v := ?v415) rfl (by kernel_rfl) (by kernel_rfl) (by kernel_rfl) (fun _ _ _ h => h) (Or.inl ⟨by rfl, ?hy415⟩) (by assumption) ?rest415
  case hy415 => (intro w hSw; (try dsimp only at hSw); go_simp; try with_reducible rfl)
  simp only [Act.put, List.getElem_toArray, List.getElem_cons_zero, List.getElem_cons_succ, List.setIfInBounds_toArray, List.set_cons_zero, List.set_cons_succ]
  refine wpAnyH_take (i := 6) (v := ?v416) rfl (by kernel_rfl) (by kernel_rfl) (by kernel_rfl) (fun _ _ _ h => h) (Or.inl ⟨by rfl, ?hy416⟩) (by assumption) ?rest416
  case hy416 => (intro w hSw; (try dsimp only at hSw); go_simp; try with_reducible rfl)
  simp only [Act.put, List.getElem_toArray, List.getElem_cons_zero, List.getElem_cons_succ, List.setIfInBounds_toArray, List.set_cons_zero, List.set_cons_succ]
  refine wpAnyH_ready (rs := [3]) (by kernel_rfl) (by simp) ?_
  refine AllReadyH.cons rfl (fun K hK => ?_) AllReadyH.nil
  go_simp
  go_at_call 49
  refine (later_any a b _).mono ?_
  rintro e v3 ⟨rfl, hbq⟩
  dsimp only
  refine hK.out _ _ ?_ (fun hHeld => ?_)
  · (try dsimp only)
    first | exact hHeld | exact keepA.out _ _ hHeld | exact keepS.out _ _ hHeld hbq
  clear hK K
  try simp only [Act.put, List.getElem_toArray, List.getElem_cons_zero, List.getElem_cons_succ, List.setIfInBounds_toArray, List.set_cons_zero, List.set_cons_succ]
  refine wpAnyH_ready (rs := [7]) (by kernel_rfl) (by simp) ?_
  refine AllReadyH.cons rfl (fun K hK => ?_) AllReadyH.nil
  go_simp
  go_at_call 47
  refine (lower_any a b _).mono ?_
  rintro e v7 ⟨rfl, hbq⟩
  dsimp only
  refine hK.out _ _ ?_ (fun hHeld => ?_)
  · (try dsimp only)
    first | exact hHeld | exact keepA.out _ _ hHeld | exact keepS.out _ _ hHeld hbq
  clear hK K
  try simp only [Act.put, List.getElem_toArray, List.getElem_cons_zero, List.getElem_cons_succ, List.setIfInBounds_toArray, List.set_cons_zero, List.set_cons_succ]
  refine wpAnyH_ready (rs := [8]) (by kernel_rfl) (by simp) ?_
  refine AllReadyH.cons rfl (fun K hK => ?_) AllReadyH.nil
  go_simp
  refine hK.out _ _ ?_ (fun hHeld => ?_)
  · (try dsimp only)
    first | exact hHeld | exact keepA.out _ _ hHeld | exact keepS.out _ _ hHeld hbq
  clear hK K
  try simp only [Act.put, List.getElem_toArray, List.getElem_cons_zero, List.getElem_cons_succ, List.setIfInBounds_toArray, List.set_cons_zero, List.set_cons_succ]
  refine wpAnyH_ready (rs := [9]) (by kernel_rfl) (by simp) ?_
  refine AllReadyH.cons rfl (fun K hK => ?_) AllReadyH.nil
  go_simp
  go_at_call 53
  refine (or_any (laterI a b) (lowerI a b) _ _ (by simp [go_sem]) (by simp [go_sem])).mono ?_
  rintro e v9 ⟨rfl, rfl⟩
  dsimp only
  refine hK.out _ _ ?_ (fun hHeld => ?_)
  · (try dsimp only)
    first | exact hHeld | exact keepA.out _ _ hHeld | exact keepS.out _ _ hHeld hbq
  clear hK K
  try simp only [Act.put, List.getElem_toArray, List.getElem_cons_zero, List.getElem_cons_succ, List.setIfInBounds_toArray, List.set_cons_zero, List.set_cons_succ]
  refine wpAnyH_take (i := 10) (v := ?v417) rfl (by kernel_rfl) (by kernel_rfl) (by kernel_rfl) (fun _ _ _ h => h) (Or.inl ⟨by rfl, ?hy417⟩) (by assumption) ?rest417
  case hy417 => (intro w hSw; (try dsimp only at hSw); go_simp; try with_reducible rfl)
  simp only [Act.put, List.getElem_toArray, List.getElem_cons_zero, List.getElem_cons_succ, List.setIfInBounds_toArray, List.set_cons_zero, List.set_cons_succ]
  refine wpAnyH_done (by kernel_rfl) ?_ _
  have hb9 := hHeld.1
  repeat' ((fail_if_success at_builtin); (first | go_skip | go_guarded | go_step))
  go_ret
  exact ⟨rfl, hb0.trans (hb9.mono hb0.size)⟩
set_option maxRecDepth 100000 in
set_option maxHeartbeats 1000000 in
theorem is3_any (x : Ent) (k : ByteArray) (p : Nat) (w : World) (h : w.cell? ⟨p, 0, none⟩ = some (.string k)) (hl : p < w.heap.size) :
    Calls Tryd.prog 51 #[.agg (ent8 x), .pointer (some ⟨p, 0, none⟩)] w fun e w' => e = .returned (.bool (x.key.toList == k.toList)) ∧ Below w.heap.size w w' := by
  have hb0 := (Below.refl w.heap.size w).alloc (Nat.le_refl _) (.cells (ent8 x) 42)
  cases hk : (x.key.toList == k.toList)
  all_goals
    go_enter Tryd.func51, Tryd.ntmps51
    repeat' ((fail_if_success at_builtin); (first | go_skip | go_guarded | go_step))
    go_ret
    exact ⟨rfl, hb0⟩
set_option maxRecDepth 100000 in
set_option maxHeartbeats 2000000 in
theorem is5_any (x : Ent) (p : ByteArray) (p1 p2 b o n c i : Nat) (w : World) (h1 : w.cell? ⟨p1, 0, none⟩ = some (.slice (some ⟨b, o, none⟩) n c)) (h2 : w.cell? ⟨p2, 0, none⟩ = some (.int .i64 (i : Int))) (h3 : w.cell? ⟨b, o + i, none⟩ = some (.string p)) (hi : i < n) (l1 : p1 < w.heap.size) (l2 : p2 < w.heap.size) (l3 : b < w.heap.size) :
    Calls Tryd.prog 54 #[.agg (ent8 x), .pointer (some ⟨p1, 0, none⟩), .pointer (some ⟨p2, 0, none⟩)] w fun e w' => e = .returned (.bool (Lib.hasPrefix x.key.data.toList p.data.toList)) ∧ Below w.heap.size w w' := by
  obtain ⟨w1, hw1⟩ : ∃ w1 : World, w1 = w.alloc (.cells (ent8 x) 42) := ⟨_, rfl⟩
  have hb0 : Below w.heap.size w w1 := by rw [hw1]; exact (Below.refl w.heap.size w).alloc (Nat.le_refl _) _
  have a3 : w1.cell? ⟨w.heap.size, 3, none⟩ = some (.string x.key) := by rw [hw1]; simp [go_sem]
  have k1 := (hb0.cell (p := ⟨p1, 0, none⟩) l1).trans h1
  have k2 := (hb0.cell (p := ⟨p2, 0, none⟩) l2).trans h2
  have k3 := (hb0.cell (p := ⟨b, o + i, none⟩) l3).trans h3
  have i0 : (0 : Int) ≤ (i : Int) := by omega
  have i1 : (i : Int) < (n : Int) := by omega
  have hS1 : Below w1.heap.size w1 w1.drew ∧ w1.drew.cell? ⟨w.heap.size, 3, none⟩ = some (.string x.key) ∧ w1.drew.cell? ⟨p1, 0, none⟩ = some (.slice (some ⟨b, o, none⟩) n c) ∧ w1.drew.cell? ⟨p2, 0, none⟩ = some (.int .i64 (i : Int)) ∧ w1.drew.cell? ⟨b, o + i, none⟩ = some (.string p) := ⟨(Below.refl _ _).drew, a3, k1, k2, k3⟩
  replace hw1 := Lib.hid hw1
  clear h1 h2 h3
  go_enter Tryd.func54, Tryd.ntmps54
  repeat' ((fail_if_success at_builtin); (first | go_skip | go_guarded | go_step))
  rw [← hw1.out]
  refine wp_region_held_drew (S := fun w' => Below w1.heap.size w1 w' ∧ w'.cell? ⟨w.heap.size, 3, none⟩ = some (.string x.key) ∧ w'.cell? ⟨p1, 0, none⟩ = some (.slice (some ⟨b, o, none⟩) n c) ∧ w'.cell? ⟨p2, 0, none⟩ = some (.int .i64 (i : Int)) ∧ w'.cell? ⟨b, o + i, none⟩ = some (.string p)) (by kernel_rfl) ?_ (fun hHeld => ?_)
  · (try dsimp only)
    exact hS1
  refine wpAnyH_take (i := 0) (v := ?v418) rfl (by kernel_rfl) (by kernel_rfl) (by kernel_rfl) (fun _ _ _ h => h) (Or.inl ⟨by rfl, ?hy418⟩) (by assumption) ?rest418
  case hy418 => (intro w hSw; (try dsimp only at hSw); go_simp; try with_reducible rfl)
  simp only [Act.put, List.getElem_toArray, List.getElem_cons_zero, List.setIfInBounds_toArray, List.set_cons_zero, List.set_cons_succ]
  refine wpAnyH_take (i := 1) (v := ?v419) rfl (by kernel_rfl) (by kernel_rfl) (by kernel_rfl) (fun _ _ _ h => h) (Or.inl ⟨by rfl, ?hy419⟩) (by assumption) ?rest419
  case hy419 => (intro w hSw; (try dsimp only at hSw); go_simp; try with_reducible rfl)
  simp only [Act.put, List.getElem_toArray, List.getElem_cons_zero, List.getElem_cons_succ, List.setIfInBounds_toArray, List.set_cons_zero, List.set_cons_succ]
  refine wpAnyH_take (i := 2) (v := ?v420) rfl (by kernel_rfl) (by kernel_rfl) (by kernel_rfl) (fun _ _ _ h => h) (Or.inl ⟨by rfl, ?hy420⟩) (by assumption) ?rest420
  case hy420 => (intro w hSw; (try dsimp only at hSw); go_simp; try with_reducible rfl)
  simp only [Act.put, List.getElem_toArray, List.getElem_cons_zero, List.getElem_cons_succ, List.setIfInBounds_toArray, List.set_cons_zero, List.set_cons_succ]
  refine wpAnyH_take (i := 3) (v := ?v421) rfl (by kernel_rfl) (by kernel_rfl) (by kernel_rfl) (fun _ _ _ h => h) (Or.inl ⟨by rfl, ?hy421⟩) (by assumption) ?rest421
  case hy421 => (intro w hSw; (try dsimp only at hSw); go_simp; try with_reducible rfl)
  simp only [Act.put, List.getElem_toArray, List.getElem_cons_zero, List.getElem_cons_succ, List.setIfInBounds_toArray, List.set_cons_zero, List.set_cons_succ]
  refine wpAnyH_take (i := 4) (v := ?v422) rfl (by kernel_rfl) (by kernel_rfl) (by kernel_rfl) (fun _ _ _ h => h) (Or.inl ⟨by rfl, ?hy422⟩) (by assumption) ?rest422
  case hy422 => (intro w hSw; (try dsimp only at hSw); go_simp; try with_reducible rfl)
  simp only [Act.put, List.getElem_toArray, List.getElem_cons_zero, List.getElem_cons_succ, List.setIfInBounds_toArray, List.set_cons_zero, List.set_cons_succ]
  refine wpAnyH_take (i := 5) (v := ?v423) rfl (by kernel_rfl) (by kernel_rfl) (by kernel_rfl) (fun _ _ _ h => h) (Or.inl ⟨by rfl, ?hy423⟩) (by assumption) ?rest423
  case hy423 => (intro w hSw; (try dsimp only at hSw); go_simp; try with_reducible rfl)
  simp only [Act.put, List.getElem_toArray, List.getElem_cons_zero, List.getElem_cons_succ, List.setIfInBounds_toArray, List.set_cons_zero, List.set_cons_succ]
  refine wpAnyH_ready (rs := [6]) (by kernel_rfl) (by simp) ?_
  refine AllReadyH.cons rfl (fun K hK => ?_) AllReadyH.nil
  go_simp
  go_at_call 55
  refine (Tryd.strings_HasPrefix _ _ _).mono ?_
  rintro e v9 ⟨rfl, rfl⟩
  dsimp only
  refine hK.out _ _ ?_ (fun hHeld => ?_)
  · (try dsimp only)
    exact hHeld
  clear hK K
  try simp only [Act.put, List.getElem_toArray, List.getElem_cons_zero, List.getElem_cons_succ, List.setIfInBounds_toArray, List.set_cons_zero, List.set_cons_succ]
  refine wpAnyH_take (i := 7) (v := ?v424) rfl (by kernel_rfl) (by kernel_rfl) (by kernel_rfl) (fun _ _ _ h => h) (Or.inl ⟨by rfl, ?hy424⟩) (by assumption) ?rest424
  case hy424 => (intro w hSw; (try dsimp only at hSw); go_simp; try with_reducible rfl)
  simp only [Act.put, List.getElem_toArray, List.getElem_cons_zero, List.getElem_cons_succ, List.setIfInBounds_toArray, List.set_cons_zero, List.set_cons_succ]
  refine wpAnyH_done (by kernel_rfl) ?_ _
  have hb9 := hHeld.1
  repeat' ((fail_if_success at_builtin); (first | go_skip | go_guarded | go_step))
  go_ret
  exact ⟨rfl, hb0.trans (hb9.mono hb0.size)⟩
end Go.Proofs.YtpdlapdnjmoaoaaDoor
