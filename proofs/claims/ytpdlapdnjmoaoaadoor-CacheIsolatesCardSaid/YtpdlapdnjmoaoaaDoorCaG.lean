/- Cache: find. -/
import Derived.Test.YtpdlapdnjmoaoaaDoorCaF
namespace Go.Proofs.YtpdlapdnjmoaoaaDoor
open Go.RowKit
set_option maxRecDepth 100000 in
set_option maxHeartbeats 1000000 in
theorem find_any (s : Scp) (k : ByteArray) (l : List Ent) (A : Option Addr) (n c : Nat) (w : World) (hn : n = l.length) (hs : Seq w w.heap.size 8 A n (entsC l)) (hl : n ≤ 1000000000) :
    Calls Tryd.prog 42 #[.slice A n c, .agg (pcells s), .string k] w fun e w' => e = .returned (.int .i64 (findI s k l)) ∧ Below w.heap.size w w' := by
  obtain ⟨w1, hw1⟩ : ∃ w1 : World, w1 = (w.alloc (.cells (pcells s) 38)).alloc (.cells #[.string k] 9) := ⟨_, rfl⟩
  have hb0 : Below w.heap.size w w1 := by rw [hw1]; exact ((Below.refl w.heap.size w).alloc (Nat.le_refl _) _).alloc (by simp) _
  have z0 : w1.cell? ⟨w.heap.size, 0, none⟩ = some (.string s.prj) := by rw [hw1]; simp [go_sem]
  have z1 : w1.cell? ⟨w.heap.size, 1, none⟩ = some (.int .i64 s.trust) := by rw [hw1]; simp [go_sem]
  have z2 : w1.cell? ⟨w.heap.size, 2, none⟩ = some (.string s.ref) := by rw [hw1]; simp [go_sem]
  have z3 : w1.cell? ⟨w.heap.size + 1, 0, none⟩ = some (.string k) := by rw [hw1]; simp [go_sem]
  have zz : w1.heap.size = w.heap.size + 2 := by rw [hw1]; simp
  have C := idxf_any s k w.heap.size (w.heap.size + 1) l A n c w1 hn ((hs.below hb0).more hb0.size) hl z0 z1 z2 z3 (by omega) (by omega)
  replace C := Lib.hid C
  replace hw1 := Lib.hid hw1
  clear z0 z1 z2 z3 hn hs
  go_enter Tryd.func42, Tryd.ntmps42
  repeat' ((fail_if_success at_builtin); (first | go_skip | go_guarded | go_step))
  rw [← hw1.out]
  refine C.out.mono ?_
  rintro e w2 ⟨rfl, hb1⟩
  dsimp only
  repeat' ((fail_if_success at_builtin); (first | go_skip | go_guarded | go_step))
  go_ret
  exact ⟨rfl, hb0.trans (hb1.mono hb0.size)⟩
end Go.Proofs.YtpdlapdnjmoaoaaDoor
