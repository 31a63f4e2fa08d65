/- Joined: JnK. -/
import Derived.Test.YtgdapkglofchjaaGreatDoorE31
set_option maxRecDepth 100000
set_option maxHeartbeats 400000
set_option linter.unusedVariables false
namespace Go.Proofs.YtgdapkglofchjaaGreatDoor
open Go.RowKit
theorem renc_any (fs : List FV) (E : List Value) (w : World) (h : EvR w fs E) (hs9 : lsz fs ≤ 900000000) : Calls Tryz.prog 15 #[.agg E.toArray] w (RetBytes w (encF fs)) := by
 have hl := h.len
 have hl16 := Lib.hid (show fs.length = 16 from (h.rd.len evC_ok).2)
 have hi := ev_info hl
 go_enter Tryz.func15, Tryz.ntmps15
 go_upto_region 1 with (fail)
 have hA : (w.alloc (.cells E.toArray 43)).rangeAt w.heap.size 0 E := at_new w E 43
 have hlt0 : w.heap.size < (w.alloc (.cells E.toArray 43)).heap.size := by simp
 have hb0 := (Below.refl w.heap.size w).alloc (Nat.le_refl _) (.cells E.toArray 43)
 generalize World.alloc w _ = w1 at *
 repeat' (first | (refine wpList_load_mid rfl 43 _ rfl w.heap.size 0 rfl E _ hA Tryz.underlying43 rfl hi ?_) | go_skip | go_guarded | go_step)
 refine (rvalid_ev fs E w1 (h.up hb0) hs9).mono ?_
 rintro e w2 ⟨rfl, hb2⟩
 dsimp only
 have hA2 := range_up hA hb2 hlt0
 have hbw : Below w.heap.size w w2 := hb0.trans (hb2.mono hb0.size)
 clear hb2 hA
 by_cases hv : validF fs = 0
 ·have he : encF fs = recF fs := by unfold encF; rw [if_pos hv]
  rw [hv]
  clear hv
  have hE2 := h.up hbw
  repeat' (first | (refine wpList_load_mid rfl 43 _ rfl w.heap.size 0 rfl E _ hA2 Tryz.underlying43 rfl hi ?_) | go_skip | go_guarded | go_step)
  refine (forms_any fs E w2 hE2.rd hE2.sz).mono ?_
  rintro e w3 ⟨A1, c1, cs1, rfl, hO1, hL1⟩
  dsimp only
  obtain ⟨g1, g2⟩ := RetFs.fields hO1 hL1
  have hnil : A1 = none → c1 = 0 := fun h => by
   obtain ⟨r, h1, _⟩ := hO1.head (by have := hl16.out; omega)
   rw [h] at h1; cases h1
  have hb3 := hO1.2
  clear hO1 hL1
  repeat' ((fail_if_success at_builtin); first | go_skip | go_guarded | go_step)
  have CJ := rRecord_any (ofL fs) A1 c1 cs1 w3 w3.heap.size (Nat.le_refl _) g1 g2 h.sz
  rw [ofL_length] at CJ
  refine CJ.mono ?_
  clear CJ g1 g2
  rintro e w4 ⟨A4, c4, rfl, hB4⟩
  dsimp only
  generalize hlen : (Lib.uvarint fs.length ++ encs ((ofL fs).fix fs.length)).length = n4 at *
  repeat' (first | go_skip | go_guarded | go_step)
  go_ret
  have hr : recF fs = Lib.uvarint fs.length ++ encs ((ofL fs).fix fs.length) := by unfold recF; rw [ofL_length]
  rw [he, hr]
  rw [← hlen] at hB4 ⊢
  exact ⟨A4, c4, rfl, hB4.up (hbw.trans (hb3.mono hbw.size))⟩
 ·have he : encF fs = [] := by unfold encF; rw [if_neg hv]
  have z1 : (validF fs == 0) = false := by simpa using hv
  have z2 : (validF fs != 0) = true := by simpa using hv
  clear hv
  repeat' (first | go_skip | go_guarded | go_step)
  go_ret
  rw [he]
  exact ⟨none, 0, rfl, bytes_nil w w2 hbw⟩
end Go.Proofs.YtgdapkglofchjaaGreatDoor
