/- awake: its contract. -/
import Derived.Test.YtclinbpkcmcokaaDoorArtFew
namespace Go.Proofs.YtclinbpkcmcokaaDoor
open Go.RowKit
theorem shrt_made : Shrt (madeA bin) := ⟨by decide, by decide, by decide⟩
theorem shrt_stored {a : Art} (h : Shrt a) : Shrt (stored a) := h
set_option maxRecDepth 100000 in
set_option maxHeartbeats 800000 in
theorem awake_any (w : World) (hR : Ready w) : Calls Tryd.prog 9 #[] w fun e w' => e = .returned (.bool true) ∧ Below w.heap.size w w' := by
  go_enter Tryd.func9, Tryd.ntmps9
  repeat' ((fail_if_success at_builtin); (first | go_skip | go_guarded | go_step))
  refine (made_any bin w).mono ?_
  rintro e w1 ⟨rfl, hb⟩
  dsimp only
  repeat' ((fail_if_success at_builtin); (first | go_skip | go_guarded | go_step))
  have C := put_any [] (madeA bin) none 0 w1 0 (hR.below hb) (Nat.zero_le _) (fun _ => rfl) Seq.nil_ (by simp) (by simp) shrt_made
  rw [aw_put, aw_err] at C
  refine C.mono ?_
  rintro e w2 ⟨A2, c2, rfl, hs2, hn2, hb2⟩
  have hb := hb.trans (hb2.mono hb.size)
  clear C hb2
  dsimp only
  repeat' ((fail_if_success at_builtin); (first | go_skip | go_guarded | go_step))
  have G1 := fun (w' : World) (h : Below w2.heap.size w2 w') => get_any ⟨#[114]⟩ bbin 604799999 [stored (madeA bin)] A2 c2 w' w2.heap.size h.size (hs2.below h) (by simp) (fun a ha => by rw [List.mem_singleton.1 ha]; exact shrt_made)
  have G2 := fun (w' : World) (h : Below w2.heap.size w2 w') => get_any ⟨#[114]⟩ bbin 604800000 [stored (madeA bin)] A2 c2 w' w2.heap.size h.size (hs2.below h) (by simp) (fun a ha => by rw [List.mem_singleton.1 ha]; exact shrt_made)
  have P2 := fun (w' : World) (h : Below w2.heap.size w2 w') => put_any [stored (madeA bin)] (madeA bin) A2 c2 w' w2.heap.size (hR.below (hb.trans (h.mono hb.size))) h.size hn2 (hs2.below h) (by simp) (fun a ha => by rw [List.mem_singleton.1 ha]; exact shrt_made) shrt_made
  rw [aw_get1] at G1
  rw [aw_get2] at G2
  rw [aw_err2] at P2
  clear hs2 hn2
  replace G1 := Lib.hid G1
  replace G2 := Lib.hid G2
  replace P2 := Lib.hid P2
  refine (G1.out w2 (Below.refl _ _)).mono ?_
  rintro e w3 ⟨rfl, hb3⟩
  dsimp only
  repeat' ((fail_if_success at_builtin); (first | go_skip | go_guarded | go_step))
  generalize hw4 : World.alloc w3 _ = w4
  have q4 : w4.cell? ⟨w3.heap.size, 4, none⟩ = some (.int .u64 5) := by rw [← hw4]; simp [go_sem]; try rfl
  have q7 : w4.cell? ⟨w3.heap.size, 7, none⟩ = some (.int .i64 604800000) := by rw [← hw4]; simp [go_sem]; try rfl
  have hb4 : Below w2.heap.size w2 w4 := by rw [← hw4]; exact hb3.alloc hb3.size _
  have k4 : w3.heap.size < w4.heap.size := by rw [← hw4]; simp
  clear hw4
  refine (G2.out w4 hb4).mono ?_
  rintro e w5 ⟨rfl, hb5⟩
  have p4 := (hb5.cell (p := ⟨w3.heap.size, 4, none⟩) k4).trans q4
  have p7 := (hb5.cell (p := ⟨w3.heap.size, 7, none⟩) k4).trans q7
  have k5 : w3.heap.size < w5.heap.size := Nat.lt_of_lt_of_le k4 hb5.size
  have hb5 := hb4.trans (hb5.mono hb4.size)
  clear q4 q7
  dsimp only
  repeat' ((fail_if_success at_builtin); (first | go_skip | go_guarded | go_step))
  generalize hw6 : World.alloc w5 _ = w6
  have hb56 : Below w5.heap.size w5 w6 := by rw [← hw6]; exact (Below.refl _ _).alloc (Nat.le_refl _) _
  clear hw6
  refine (made_any bin w6).mono ?_
  rintro e w7 ⟨rfl, hb7⟩
  have hb57 := hb56.trans (hb7.mono hb56.size)
  have hb27 := hb5.trans (hb57.mono hb5.size)
  dsimp only
  repeat' ((fail_if_success at_builtin); (first | go_skip | go_guarded | go_step))
  refine (P2.out w7 hb27).mono ?_
  rintro e w8 ⟨A8, c8, rfl, _, _, hb8⟩
  have hb58 := hb57.trans (hb8.mono hb57.size)
  have o4 := (hb58.cell (p := ⟨w3.heap.size, 4, none⟩) k5).trans p4
  have o7 := (hb58.cell (p := ⟨w3.heap.size, 7, none⟩) k5).trans p7
  have hbz := hb.trans ((hb27.trans (hb8.mono hb27.size)).mono hb.size)
  dsimp only
  repeat' ((fail_if_success at_builtin); (first | go_skip | go_guarded | go_step))
  go_ret
  exact ⟨rfl, hbz⟩
end Go.Proofs.YtclinbpkcmcokaaDoor
