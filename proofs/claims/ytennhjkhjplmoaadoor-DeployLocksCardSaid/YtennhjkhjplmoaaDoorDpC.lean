/- Deploy: proper, closures. -/
import Derived.Test.YtennhjkhjplmoaaDoorDpM
import Derived.Test.YtennhjkhjplmoaaDoorCmpW
import Derived.Test.YtennhjkhjplmoaaDoorCmpR
import Derived.Test.YtennhjkhjplmoaaDoorIdN
import Derived.Lib.SliceRun
import Derived.Deep.DeepCutAuto
import Derived.Shelf.Abstract
namespace Go.Proofs.YtennhjkhjplmoaaDoor
open Go.RowKit
theorem not_eqB (a b : ByteArray) : (!(a.toList == b.toList)) = !eqB a b := rfl
set_option maxRecDepth 100000 in
set_option maxHeartbeats 2000000 in
theorem proper_any (x : Ref) (w : World) : Calls Tryd.prog 35 #[.agg #[.string x.run, .string x.job]] w fun e w' => e = .returned (.bool (properR x)) ∧ Below w.heap.size w w' := by
  have hp : properR x = (!x.run.toList.isEmpty && !x.job.toList.isEmpty) := by
    unfold properR eqB
    rw [ByteArray.toList_eq, ByteArray.toList_eq, ByteArray.toList_eq]
    cases x.run.data.toList <;> cases x.job.data.toList <;> rfl
  rw [hp]
  clear hp
  have hb0 := (Below.refl w.heap.size w).alloc (Nat.le_refl _) (.cells #[.string x.run, .string x.job] refT)
  have e0 := (CellsAt.new w #[.string x.run, .string x.job] refT).cell 0 _ rfl
  have e1 := (CellsAt.new w #[.string x.run, .string x.job] refT).cell 1 _ rfl
  go_enter Tryd.func35, Tryd.ntmps35
  go_upto_region 1 with (fail)
  generalize World.alloc w _ = w1 at *
  cases h0 : x.run.toList.isEmpty with
  | true =>
    have h1 : (x.run.toList == []) = true := by rw [List.isEmpty_iff.1 h0]; rfl
    repeat' ((fail_if_success at_builtin); (first | go_skip | go_guarded | go_step))
    go_ret
    exact ⟨by rw [h0]; rfl, hb0⟩
  | false =>
    have h1 : (x.run.toList == []) = false := by
      cases hq : x.run.toList with
      | nil => rw [hq] at h0; cases h0
      | cons a b => rfl
    repeat' ((fail_if_success at_builtin); (first | go_skip | go_guarded | go_step))
    go_ret
    exact ⟨by rw [h0]; rfl, hb0⟩
set_option maxRecDepth 100000 in
set_option maxHeartbeats 2000000 in
theorem rproper_any (x : Ref) (w : World) : Calls Tryd.prog 45 #[.agg #[.string x.run, .string x.job]] w fun e w' => e = .returned (.bool (properR x)) ∧ Below w.heap.size w w' := by
  have hp : properR x = (!x.run.toList.isEmpty && !x.job.toList.isEmpty) := by
    unfold properR eqB
    rw [ByteArray.toList_eq, ByteArray.toList_eq, ByteArray.toList_eq]
    cases x.run.data.toList <;> cases x.job.data.toList <;> rfl
  rw [hp]
  clear hp
  have hb0 := (Below.refl w.heap.size w).alloc (Nat.le_refl _) (.cells #[.string x.run, .string x.job] refT)
  have e0 := (CellsAt.new w #[.string x.run, .string x.job] refT).cell 0 _ rfl
  have e1 := (CellsAt.new w #[.string x.run, .string x.job] refT).cell 1 _ rfl
  go_enter Tryd.func45, Tryd.ntmps45
  go_upto_region 1 with (fail)
  generalize World.alloc w _ = w1 at *
  cases h0 : x.run.toList.isEmpty with
  | true =>
    have h1 : (x.run.toList == []) = true := by rw [List.isEmpty_iff.1 h0]; rfl
    repeat' ((fail_if_success at_builtin); (first | go_skip | go_guarded | go_step))
    go_ret
    exact ⟨by rw [h0]; rfl, hb0⟩
  | false =>
    have h1 : (x.run.toList == []) = false := by
      cases hq : x.run.toList with
      | nil => rw [hq] at h0; cases h0
      | cons a b => rfl
    repeat' ((fail_if_success at_builtin); (first | go_skip | go_guarded | go_step))
    go_ret
    exact ⟨by rw [h0]; rfl, hb0⟩
set_option maxRecDepth 100000 in
set_option maxHeartbeats 2000000 in
theorem find1_any (x : Env) (A1 : Option Addr) (c1 : Nat) (A2 : Option Addr) (c2 : Nat) (s : ByteArray) (p : Nat) (w : World) (hp0 : w.cell? ⟨p, 0, none⟩ = some (.string s)) :
    Calls Tryd.prog 76 #[.agg #[.string x.name, .string x.holder.run, .string x.holder.job, .slice A1 x.waiting.length c1, .slice A2 x.history.length c2], .pointer (some ⟨p, 0, none⟩)] w fun e w' => e = .returned (.bool (nameE s x)) ∧ Below w.heap.size w w' := by
  have hlt := World.block_lt_of_cell? w _ hp0
  dsimp only at hlt
  have hb0 := (Below.refl w.heap.size w).alloc (Nat.le_refl _) (.cells #[.string x.name, .string x.holder.run, .string x.holder.job, .slice A1 x.waiting.length c1, .slice A2 x.history.length c2] envT)
  have q0 := (hb0.cell (p := ⟨p, 0, none⟩) hlt).trans hp0
  have e0 := (CellsAt.new w #[.string x.name, .string x.holder.run, .string x.holder.job, .slice A1 x.waiting.length c1, .slice A2 x.history.length c2] envT).cell 0 _ rfl
  have e1 := (CellsAt.new w #[.string x.name, .string x.holder.run, .string x.holder.job, .slice A1 x.waiting.length c1, .slice A2 x.history.length c2] envT).cell 1 _ rfl
  have e2 := (CellsAt.new w #[.string x.name, .string x.holder.run, .string x.holder.job, .slice A1 x.waiting.length c1, .slice A2 x.history.length c2] envT).cell 2 _ rfl
  have e3 := (CellsAt.new w #[.string x.name, .string x.holder.run, .string x.holder.job, .slice A1 x.waiting.length c1, .slice A2 x.history.length c2] envT).cell 3 _ rfl
  have e4 := (CellsAt.new w #[.string x.name, .string x.holder.run, .string x.holder.job, .slice A1 x.waiting.length c1, .slice A2 x.history.length c2] envT).cell 4 _ rfl
  go_enter Tryd.func76, Tryd.ntmps76
  go_upto_region 1 with (fail)
  generalize World.alloc w _ = w1 at *
  clear hp0
  repeat' ((fail_if_success at_builtin); (first | go_skip | go_guarded | go_step))
  go_ret
  exact ⟨by first | rfl | (unfold nameE eqB; rfl), hb0⟩
set_option maxRecDepth 100000 in
set_option maxHeartbeats 2000000 in
theorem req1_any (x : Env) (A1 : Option Addr) (c1 : Nat) (A2 : Option Addr) (c2 : Nat) (s : ByteArray) (p : Nat) (w : World) (hp0 : w.cell? ⟨p, 0, none⟩ = some (.string s)) (h1 : x.name.size ≤ 4611686018427387904) (h2 : s.size ≤ 4611686018427387904) :
    Calls Tryd.prog 42 #[.agg #[.string x.name, .string x.holder.run, .string x.holder.job, .slice A1 x.waiting.length c1, .slice A2 x.history.length c2], .pointer (some ⟨p, 0, none⟩)] w fun e w' => e = .returned (.bool (aftE s x)) ∧ Below w.heap.size w w' := by
  have hlt := World.block_lt_of_cell? w _ hp0
  dsimp only at hlt
  have hb0 := (Below.refl w.heap.size w).alloc (Nat.le_refl _) (.cells #[.string x.name, .string x.holder.run, .string x.holder.job, .slice A1 x.waiting.length c1, .slice A2 x.history.length c2] envT)
  have q0 := (hb0.cell (p := ⟨p, 0, none⟩) hlt).trans hp0
  have e0 := (CellsAt.new w #[.string x.name, .string x.holder.run, .string x.holder.job, .slice A1 x.waiting.length c1, .slice A2 x.history.length c2] envT).cell 0 _ rfl
  have e1 := (CellsAt.new w #[.string x.name, .string x.holder.run, .string x.holder.job, .slice A1 x.waiting.length c1, .slice A2 x.history.length c2] envT).cell 1 _ rfl
  have e2 := (CellsAt.new w #[.string x.name, .string x.holder.run, .string x.holder.job, .slice A1 x.waiting.length c1, .slice A2 x.history.length c2] envT).cell 2 _ rfl
  have e3 := (CellsAt.new w #[.string x.name, .string x.holder.run, .string x.holder.job, .slice A1 x.waiting.length c1, .slice A2 x.history.length c2] envT).cell 3 _ rfl
  have e4 := (CellsAt.new w #[.string x.name, .string x.holder.run, .string x.holder.job, .slice A1 x.waiting.length c1, .slice A2 x.history.length c2] envT).cell 4 _ rfl
  go_enter Tryd.func42, Tryd.ntmps42
  go_upto_region 1 with (fail)
  generalize World.alloc w _ = w1 at *
  clear hp0
  repeat' ((fail_if_success at_builtin); (first | go_skip | go_guarded | go_step))
  refine (compare_any x.name s w1 h1 h2).mono ?_
  rintro e w2 ⟨rfl, hb2⟩
  dsimp only
  repeat' ((fail_if_success at_builtin); (first | go_skip | go_guarded | go_step))
  go_ret
  exact ⟨by first | rfl | (unfold aftE; rfl), hb0.trans (hb2.mono hb0.size)⟩
set_option maxRecDepth 100000 in
set_option maxHeartbeats 2000000 in
theorem fin1_any (x : Env) (A1 : Option Addr) (c1 : Nat) (A2 : Option Addr) (c2 : Nat) (r : Ref) (p : Nat) (w : World) (hp0 : w.cell? ⟨p, 0, none⟩ = some (.string r.run)) (hp1 : w.cell? ⟨p, 1, none⟩ = some (.string r.job)) :
    Calls Tryd.prog 55 #[.agg #[.string x.name, .string x.holder.run, .string x.holder.job, .slice A1 x.waiting.length c1, .slice A2 x.history.length c2], .pointer (some ⟨p, 0, none⟩)] w fun e w' => e = .returned (.bool (eqR x.holder r)) ∧ Below w.heap.size w w' := by
  have hlt := World.block_lt_of_cell? w _ hp0
  dsimp only at hlt
  have hb0 := (Below.refl w.heap.size w).alloc (Nat.le_refl _) (.cells #[.string x.name, .string x.holder.run, .string x.holder.job, .slice A1 x.waiting.length c1, .slice A2 x.history.length c2] envT)
  have q0 := (hb0.cell (p := ⟨p, 0, none⟩) hlt).trans hp0
  have q1 := (hb0.cell (p := ⟨p, 1, none⟩) hlt).trans hp1
  have e0 := (CellsAt.new w #[.string x.name, .string x.holder.run, .string x.holder.job, .slice A1 x.waiting.length c1, .slice A2 x.history.length c2] envT).cell 0 _ rfl
  have e1 := (CellsAt.new w #[.string x.name, .string x.holder.run, .string x.holder.job, .slice A1 x.waiting.length c1, .slice A2 x.history.length c2] envT).cell 1 _ rfl
  have e2 := (CellsAt.new w #[.string x.name, .string x.holder.run, .string x.holder.job, .slice A1 x.waiting.length c1, .slice A2 x.history.length c2] envT).cell 2 _ rfl
  have e3 := (CellsAt.new w #[.string x.name, .string x.holder.run, .string x.holder.job, .slice A1 x.waiting.length c1, .slice A2 x.history.length c2] envT).cell 3 _ rfl
  have e4 := (CellsAt.new w #[.string x.name, .string x.holder.run, .string x.holder.job, .slice A1 x.waiting.length c1, .slice A2 x.history.length c2] envT).cell 4 _ rfl
  go_enter Tryd.func55, Tryd.ntmps55
  go_upto_region 1 with (fail)
  generalize World.alloc w _ = w1 at *
  clear hp0 hp1
  have qE1 := qE_R x.holder r
  repeat' ((fail_if_success at_builtin); (first | ((with_reducible show wpList _ _ _ _ _ _); first | refine wpList_eqS rfl rfl rfl rfl (by first | exact qE1 _ | exact qE2 _ | exact qE3 _ | exact qE4 _) (by kernel_rfl) ?_ | refine wpList_neS rfl rfl rfl rfl (by first | exact qE1 _ | exact qE2 _ | exact qE3 _ | exact qE4 _) (by kernel_rfl) ?_) | go_skip | go_guarded | go_step))
  go_ret
  exact ⟨by first | rfl | (rfl), hb0⟩
set_option maxRecDepth 100000 in
set_option maxHeartbeats 2000000 in
theorem ab1_any (x r : Ref) (p : Nat) (w : World) (hp0 : w.cell? ⟨p, 0, none⟩ = some (.string r.run)) (hp1 : w.cell? ⟨p, 1, none⟩ = some (.string r.job)) :
    Calls Tryd.prog 53 #[.agg #[.string x.run, .string x.job], .pointer (some ⟨p, 0, none⟩)] w fun e w' => e = .returned (.bool (eqR x r)) ∧ Below w.heap.size w w' := by
  have hlt := World.block_lt_of_cell? w _ hp0
  dsimp only at hlt
  have hb0 := (Below.refl w.heap.size w).alloc (Nat.le_refl _) (.cells #[.string x.run, .string x.job] refT)
  have q0 := (hb0.cell (p := ⟨p, 0, none⟩) hlt).trans hp0
  have q1 := (hb0.cell (p := ⟨p, 1, none⟩) hlt).trans hp1
  have e0 := (CellsAt.new w #[.string x.run, .string x.job] refT).cell 0 _ rfl
  have e1 := (CellsAt.new w #[.string x.run, .string x.job] refT).cell 1 _ rfl
  go_enter Tryd.func53, Tryd.ntmps53
  go_upto_region 1 with (fail)
  generalize World.alloc w _ = w1 at *
  clear hp0 hp1
  have qE1 := qE_R x r
  repeat' ((fail_if_success at_builtin); (first | ((with_reducible show wpList _ _ _ _ _ _); first | refine wpList_eqS rfl rfl rfl rfl (by first | exact qE1 _ | exact qE2 _ | exact qE3 _ | exact qE4 _) (by kernel_rfl) ?_ | refine wpList_neS rfl rfl rfl rfl (by first | exact qE1 _ | exact qE2 _ | exact qE3 _ | exact qE4 _) (by kernel_rfl) ?_) | go_skip | go_guarded | go_step))
  go_ret
  exact ⟨by first | rfl | (rfl), hb0⟩
set_option maxRecDepth 100000 in
set_option maxHeartbeats 2000000 in
theorem valid1_any (x : Ref) (w : World) :
    Calls Tryd.prog 34 #[.agg #[.string x.run, .string x.job]] w fun e w' => e = .returned (.bool (!properR x)) ∧ Below w.heap.size w w' := by
  have hb0 := (Below.refl w.heap.size w).alloc (Nat.le_refl _) (.cells #[.string x.run, .string x.job] refT)
  have e0 := (CellsAt.new w #[.string x.run, .string x.job] refT).cell 0 _ rfl
  have e1 := (CellsAt.new w #[.string x.run, .string x.job] refT).cell 1 _ rfl
  go_enter Tryd.func34, Tryd.ntmps34
  go_upto_region 1 with (fail)
  generalize World.alloc w _ = w1 at *
  repeat' ((fail_if_success at_builtin); (first | go_skip | go_guarded | go_step))
  refine (proper_any x w1).mono ?_
  rintro e w2 ⟨rfl, hb2⟩
  dsimp only
  repeat' ((fail_if_success at_builtin); (first | go_skip | go_guarded | go_step))
  go_ret
  exact ⟨rfl, hb0.trans (hb2.mono hb0.size)⟩
end Go.Proofs.YtennhjkhjplmoaaDoor
