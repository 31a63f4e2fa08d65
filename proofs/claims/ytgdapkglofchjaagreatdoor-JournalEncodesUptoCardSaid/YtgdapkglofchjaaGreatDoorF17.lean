/- Joined: JnK JnY JnY2 JnY3 JnY4 JnZ. -/
import Derived.Test.YtgdapkglofchjaaGreatDoorF16
set_option maxRecDepth 100000
set_option maxHeartbeats 400000
set_option linter.unusedVariables false
namespace Go.Proofs.YtgdapkglofchjaaGreatDoor
open Go.RowKit
def recF (fs : List FV) : List UInt8 := Lib.uvarint (ofL fs).length ++ encs ((ofL fs).fix (ofL fs).length)
def encF (fs : List FV) : List UInt8 := if validF fs = 0 then recF fs else []
theorem bytes_nil (w w' : World) (hb : Below w.heap.size w w') : Bytes w w' (.slice none 0 0) [] := ⟨World.ownsRow_nil _ _ _ _, hb⟩
theorem Bytes.up {w0 w1 w : World} {v : Value} {l : List UInt8} (h : Bytes w1 w v l) (hb : Below w0.heap.size w0 w1) : Bytes w0 w v l := Own.up hb h
theorem penc_any (fs : List FV) (E : List Value) (w : World) (h : EvR w fs E) (hs9 : lsz fs ≤ 900000000) : Calls Tryz.prog 12 #[.agg E.toArray] w (RetBytes w (encF fs)) := by
 have hl := h.len
 have hl16 := Lib.hid (show fs.length = 16 from (h.rd.len evC_ok).2)
 have hi := ev_info hl
 go_enter Tryz.func12, Tryz.ntmps12
 go_upto_region 1 with (fail)
 have hA : (w.alloc (.cells E.toArray 43)).rangeAt w.heap.size 0 E := at_new w E 43
 have hlt0 : w.heap.size < (w.alloc (.cells E.toArray 43)).heap.size := by simp
 have hb0 := (Below.refl w.heap.size w).alloc (Nat.le_refl _) (.cells E.toArray 43)
 generalize World.alloc w _ = w1 at *
 repeat' (first | (refine wpList_load_mid rfl 43 _ rfl w.heap.size 0 rfl E _ hA Tryz.underlying43 rfl hi ?_) | go_skip | go_guarded | go_step)
 refine (pvalid_any fs E w1 (h.up hb0) hs9).mono ?_
 rintro e w2 ⟨rfl, hb2⟩
 dsimp only
 have hA2 := range_up hA hb2 hlt0
 have hbw : Below w.heap.size w w2 := hb0.trans (hb2.mono hb0.size)
 clear hb2 hA
 by_cases hv : validF fs = 0
 ·have he : encF fs = recF fs := by unfold encF; rw [if_pos hv]
  rw [hv]
  clear hv
  have hE2 := h.up hbw
  repeat' (first | (refine wpList_load_mid rfl 43 _ rfl w.heap.size 0 rfl E _ hA2 Tryz.underlying43 rfl hi ?_) | go_skip | go_guarded | go_step)
  refine (form_any fs E w2 hE2.rd hE2.sz).mono ?_
  rintro e w3 ⟨A1, c1, cs1, rfl, hO1, hL1⟩
  dsimp only
  obtain ⟨g1, g2⟩ := RetFs.fields hO1 hL1
  have hnil : A1 = none → c1 = 0 := fun h => by
   obtain ⟨r, h1, _⟩ := hO1.head (by have := hl16.out; omega)
   rw [h] at h1; cases h1
  have hb3 := hO1.2
  clear hO1 hL1
  repeat' ((fail_if_success at_builtin); first | go_skip | go_guarded | go_step)
  have CJ := record_any (ofL fs) A1 c1 cs1 w3 w3.heap.size hnil (Nat.le_refl _) g1 g2 h.sz
  rw [ofL_length] at CJ
  refine CJ.mono ?_
  clear CJ g1 g2
  rintro e w4 ⟨A4, c4, rfl, hB4⟩
  dsimp only
  generalize hlen : (Lib.uvarint fs.length ++ encs ((ofL fs).fix fs.length)).length = n4 at *
  repeat' (first | go_skip | go_guarded | go_step)
  go_ret
  have hr : recF fs = Lib.uvarint fs.length ++ encs ((ofL fs).fix fs.length) := by unfold recF; rw [ofL_length]
  rw [he, hr]
  rw [← hlen] at hB4 ⊢
  exact ⟨A4, c4, rfl, hB4.up (hbw.trans (hb3.mono hbw.size))⟩
 ·have he : encF fs = [] := by unfold encF; rw [if_neg hv]
  have z1 : (validF fs == 0) = false := by simpa using hv
  have z2 : (validF fs != 0) = true := by simpa using hv
  clear hv
  repeat' (first | go_skip | go_guarded | go_step)
  go_ret
  rw [he]
  exact ⟨none, 0, rfl, bytes_nil w w2 hbw⟩
theorem next_r (K : Int) (W0 w : World) (g : Nat) (l : List FV) (bad : Bool) (h : CR W0 w g l bad) (hl : l.length ≤ 1000000000) : Calls Tryz.prog 118 #[.pointer (some ⟨g, 0, none⟩), .int .i64 K] w fun e w' => w.grownBy w' (some g) ∧
  ((∃ f r A c, l = f :: r ∧ f.1 = K ∧ e = .returned (.agg #[.int .i64 f.1, .int .i64 f.2.1, .string f.2.2.1, .slice A f.2.2.2.length c]) ∧ rF W0 (fun b => b < W0.heap.size) f [.int .i64 f.1, .int .i64 f.2.1, .string f.2.2.1, .slice A f.2.2.2.length c] ∧ CR W0 w' g r bad) ∨
   (¬ (∃ f r, l = f :: r ∧ f.1 = K) ∧ e = .returned (.agg #[.int .i64 0, .int .i64 0, .string ⟨#[]⟩, .slice none 0 0]) ∧ CR W0 w' g l true)) := by
 have hs0 := h.bel.size
 obtain ⟨A, c, hO, hF⟩ := h
 cases l with
 | nil =>
  have hO : OwnB W0 w [(g, [.slice A 0 c, .bool true, .bool bad])] := hO
  have hP1 : OwnB W0 w [(g, [.slice A 0 c, .bool true, .bool bad])] := hO
  have c0_0 := hP1.c 0 0
  have c0_1 := hP1.c 0 1
  have c0_2 := hP1.c 0 2
  have cf0 := hP1.fr 0
  have hg : w.grownBy w (some g) := World.grownBy.refl _ _
  go_enter Tryz.func118, Tryz.ntmps118
  go_upto_region 1 with (fail)
  generalize hx_ : World.alloc w _ = wo2
  have hP2 : OwnB W0 wo2 [(w.heap.size, [.int .i64 0, .int .i64 0, .string ⟨#[]⟩, .slice none 0 0]), (g, [.slice A 0 c, .bool true, .bool bad])] := by rw [← hx_]; exact hP1.new #[.int .i64 0, .int .i64 0, .string ⟨#[]⟩, .slice none 0 0] _ (g := w.heap.size)
  have hbn : Below w.heap.size w wo2 := by rw [← hx_]; exact (Below.refl _ _).alloc (Nat.le_refl _) _
  have zwo2 : wo2.heap.size = w.heap.size + 1 := by rw [← hx_]; simp
  clear hx_ c0_0 c0_1 c0_2 cf0 hP1
  have c0_0 := hP2.c 0 0
  have c0_1 := hP2.c 0 1
  have c0_2 := hP2.c 0 2
  have c0_3 := hP2.c 0 3
  have cf0 := hP2.fr 0
  have c1_0 := hP2.c 1 0
  have c1_1 := hP2.c 1 1
  have c1_2 := hP2.c 1 2
  have cf1 := hP2.fr 1
  replace hg : w.grownBy wo2 (some g) := grown_trans hg (growBelow hbn)
  clear hbn
  clear zwo2
  go_upto_region 3 with (fail)
  generalize hx_ : World.setCell _ _ _ = wo3
  have hP3 : OwnB W0 wo3 [(w.heap.size, [.int .i64 0, .int .i64 0, .string ⟨#[]⟩, .slice none 0 0]), (g, [.slice A 0 c, .bool true, .bool true])] := by rw [← hx_]; exact hP2.store 1 rfl 2 _
  have zwo3 : wo3.heap.size = wo2.heap.size := by rw [← hx_]; simp [World.setCell]
  replace hg : w.grownBy wo3 (some g) := by rw [← hx_]; exact grown_trans hg (setCell_grown _ g _ _)
  clear hx_ c0_0 c0_1 c0_2 c0_3 cf0 c1_0 c1_1 c1_2 cf1 hP2
  have c0_0 := hP3.c 0 0
  have c0_1 := hP3.c 0 1
  have c0_2 := hP3.c 0 2
  have c0_3 := hP3.c 0 3
  have cf0 := hP3.fr 0
  have c1_0 := hP3.c 1 0
  have c1_1 := hP3.c 1 1
  have c1_2 := hP3.c 1 2
  have cf1 := hP3.fr 1
  clear zwo3
  repeat' ((fail_if_success at_builtin); first | go_skip | go_guarded | go_step)
  generalize hx_ : World.setCell (World.setCell (World.setCell (World.setCell _ _ _) _ _) _ _) _ _ = wo4
  have hP4 : OwnB W0 wo4 [(w.heap.size, [.int .i64 0, .int .i64 0, .string ⟨#[]⟩, .slice none 0 0]), (g, [.slice A 0 c, .bool true, .bool true])] := by rw [← hx_]; exact (((hP3.store 0 rfl 0 _).store 0 rfl 1 _).store 0 rfl 2 _).store 0 rfl 3 _
  have zwo4 : wo3.heap.size ≤ wo4.heap.size := by rw [← hx_]; simp [World.setCell]
  replace hg : w.grownBy wo4 (some g) := by rw [← hx_]; exact (grown_new (grown_new (grown_new (grown_new hg (Nat.le_refl _) _) (Nat.le_refl _) _) (Nat.le_refl _) _) (Nat.le_refl _) _)
  clear hx_ c0_0 c0_1 c0_2 c0_3 cf0 c1_0 c1_1 c1_2 cf1 hP3
  have c0_0 := hP4.c 0 0
  have c0_1 := hP4.c 0 1
  have c0_2 := hP4.c 0 2
  have c0_3 := hP4.c 0 3
  have cf0 := hP4.fr 0
  have c1_0 := hP4.c 1 0
  have c1_1 := hP4.c 1 1
  have c1_2 := hP4.c 1 2
  have cf1 := hP4.fr 1
  clear zwo4
  refine bodyPost_ret (v := .agg #[.int .i64 0, .int .i64 0, .string ⟨#[]⟩, .slice none 0 0]) (by simp only [results, Tryz.results118]; go_simp; first | done | exact ⟨rfl, rfl, rfl⟩ | rfl) rfl ?_
  refine ⟨hg, Or.inr ⟨(fun h => by obtain ⟨f, r, h, _⟩ := h; cases h), rfl, A, c, (OwnB.drop1 hP4), hF⟩⟩
 | cons f r =>
  obtain ⟨b, o, A1, k1, rfl, hblt, hc1, hrf, r0, r1, r2, r3⟩ := hF.head
  have hO : OwnB W0 w [(g, [.slice (some ⟨b, o, none⟩) (r.length + 1) c, .bool true, .bool bad])] := hO
  have i1 : (0 : Int) < (r.length : Int) + 1 := by omega
  have i2 : (r.length : Int) + 1 ≤ (c : Int) := by have := hF.1; simp only [List.length_cons] at this; omega
  have i3 : ((r.length : Int) + 1 == 0) = false := by simp; omega
  by_cases hk : f.1 = K
  ·
    have q1 : (f.1 == K) = true := by simpa using hk
    have q2 : (f.1 != K) = false := by simpa using hk
    have hP1 : OwnB W0 w [(g, [.slice (some ⟨b, o, none⟩) (r.length + 1) c, .bool true, .bool bad])] := hO
    have c0_0 := hP1.c 0 0
    have c0_1 := hP1.c 0 1
    have c0_2 := hP1.c 0 2
    have cf0 := hP1.fr 0
    have hg : w.grownBy w (some g) := World.grownBy.refl _ _
    go_enter Tryz.func118, Tryz.ntmps118
    go_upto_region 1 with (fail)
    generalize hx_ : World.alloc w _ = wo2
    have hP2 : OwnB W0 wo2 [(w.heap.size, [.int .i64 0, .int .i64 0, .string ⟨#[]⟩, .slice none 0 0]), (g, [.slice (some ⟨b, o, none⟩) (r.length + 1) c, .bool true, .bool bad])] := by rw [← hx_]; exact hP1.new #[.int .i64 0, .int .i64 0, .string ⟨#[]⟩, .slice none 0 0] _ (g := w.heap.size)
    have hbn : Below w.heap.size w wo2 := by rw [← hx_]; exact (Below.refl _ _).alloc (Nat.le_refl _) _
    have zwo2 : wo2.heap.size = w.heap.size + 1 := by rw [← hx_]; simp
    clear hx_ c0_0 c0_1 c0_2 cf0 hP1
    have c0_0 := hP2.c 0 0
    have c0_1 := hP2.c 0 1
    have c0_2 := hP2.c 0 2
    have c0_3 := hP2.c 0 3
    have cf0 := hP2.fr 0
    have c1_0 := hP2.c 1 0
    have c1_1 := hP2.c 1 1
    have c1_2 := hP2.c 1 2
    have cf1 := hP2.fr 1
    replace hg : w.grownBy wo2 (some g) := grown_trans hg (growBelow hbn)
    clear hbn
    clear zwo2
    have hbr := hP2.below
    replace r0 := (hbr.cell (p := ⟨b, _, none⟩) hblt).trans r0
    replace r1 := (hbr.cell (p := ⟨b, _, none⟩) hblt).trans r1
    replace r2 := (hbr.cell (p := ⟨b, _, none⟩) hblt).trans r2
    replace r3 := (hbr.cell (p := ⟨b, _, none⟩) hblt).trans r3
    clear hbr
    replace hk := Lib.hid hk
    go_upto_region 5 with (fail)
    have r0_ := r0
    generalize hx_ : World.alloc wo2 _ = wo3
    have hP3 : OwnB W0 wo3 [(wo2.heap.size, [.int .i64 f.1, .int .i64 f.2.1, .string f.2.2.1, .slice A1 f.2.2.2.length k1]), (w.heap.size, [.int .i64 0, .int .i64 0, .string ⟨#[]⟩, .slice none 0 0]), (g, [.slice (some ⟨b, o, none⟩) (r.length + 1) c, .bool true, .bool bad])] := by rw [← hx_]; exact hP2.new #[.int .i64 f.1, .int .i64 f.2.1, .string f.2.2.1, .slice A1 f.2.2.2.length k1] _ (g := wo2.heap.size)
    have hbn : Below wo2.heap.size wo2 wo3 := by rw [← hx_]; exact (Below.refl _ _).alloc (Nat.le_refl _) _
    have zwo3 : wo3.heap.size = wo2.heap.size + 1 := by rw [← hx_]; simp
    clear hx_ c0_0 c0_1 c0_2 c0_3 cf0 c1_0 c1_1 c1_2 cf1 hP2
    have c0_0 := hP3.c 0 0
    have c0_1 := hP3.c 0 1
    have c0_2 := hP3.c 0 2
    have c0_3 := hP3.c 0 3
    have cf0 := hP3.fr 0
    have c1_0 := hP3.c 1 0
    have c1_1 := hP3.c 1 1
    have c1_2 := hP3.c 1 2
    have c1_3 := hP3.c 1 3
    have cf1 := hP3.fr 1
    have c2_0 := hP3.c 2 0
    have c2_1 := hP3.c 2 1
    have c2_2 := hP3.c 2 2
    have cf2 := hP3.fr 2
    replace hg : w.grownBy wo3 (some g) := grown_trans hg (growBelow hbn)
    clear hbn
    clear zwo3
    clear r0_ r0 r1 r2 r3
    go_upto_region 6 with (fail)
    generalize hx_ : World.setCell _ _ _ = wo4
    have hP4 : OwnB W0 wo4 [(wo2.heap.size, [.int .i64 f.1, .int .i64 f.2.1, .string f.2.2.1, .slice A1 f.2.2.2.length k1]), (w.heap.size, [.int .i64 0, .int .i64 0, .string ⟨#[]⟩, .slice none 0 0]), (g, [.slice (if c = 1 then some ⟨b, o, none⟩ else some ⟨b, o + 4, none⟩) r.length (c - 1), .bool true, .bool bad])] := by rw [← hx_]; exact hP3.store 2 rfl 0 _
    have zwo4 : wo4.heap.size = wo3.heap.size := by rw [← hx_]; simp [World.setCell]
    replace hg : w.grownBy wo4 (some g) := by rw [← hx_]; exact grown_trans hg (setCell_grown _ g _ _)
    clear hx_ c0_0 c0_1 c0_2 c0_3 cf0 c1_0 c1_1 c1_2 c1_3 cf1 c2_0 c2_1 c2_2 cf2 hP3
    have c0_0 := hP4.c 0 0
    have c0_1 := hP4.c 0 1
    have c0_2 := hP4.c 0 2
    have c0_3 := hP4.c 0 3
    have cf0 := hP4.fr 0
    have c1_0 := hP4.c 1 0
    have c1_1 := hP4.c 1 1
    have c1_2 := hP4.c 1 2
    have c1_3 := hP4.c 1 3
    have cf1 := hP4.fr 1
    have c2_0 := hP4.c 2 0
    have c2_1 := hP4.c 2 1
    have c2_2 := hP4.c 2 2
    have cf2 := hP4.fr 2
    clear zwo4
    repeat' ((fail_if_success at_builtin); first | go_skip | go_guarded | go_step)
    generalize hx_ : World.setCell (World.setCell (World.setCell (World.setCell _ _ _) _ _) _ _) _ _ = wo5
    have hP5 : OwnB W0 wo5 [(wo2.heap.size, [.int .i64 f.1, .int .i64 f.2.1, .string f.2.2.1, .slice A1 f.2.2.2.length k1]), (w.heap.size, [.int .i64 f.1, .int .i64 f.2.1, .string f.2.2.1, .slice A1 f.2.2.2.length k1]), (g, [.slice (if c = 1 then some ⟨b, o, none⟩ else some ⟨b, o + 4, none⟩) r.length (c - 1), .bool true, .bool bad])] := by rw [← hx_]; exact (((hP4.store 1 rfl 0 _).store 1 rfl 1 _).store 1 rfl 2 _).store 1 rfl 3 _
    have zwo5 : wo4.heap.size ≤ wo5.heap.size := by rw [← hx_]; simp [World.setCell]
    replace hg : w.grownBy wo5 (some g) := by rw [← hx_]; exact (grown_new (grown_new (grown_new (grown_new hg (Nat.le_refl _) _) (Nat.le_refl _) _) (Nat.le_refl _) _) (Nat.le_refl _) _)
    clear hx_ c0_0 c0_1 c0_2 c0_3 cf0 c1_0 c1_1 c1_2 c1_3 cf1 c2_0 c2_1 c2_2 cf2 hP4
    have c0_0 := hP5.c 0 0
    have c0_1 := hP5.c 0 1
    have c0_2 := hP5.c 0 2
    have c0_3 := hP5.c 0 3
    have cf0 := hP5.fr 0
    have c1_0 := hP5.c 1 0
    have c1_1 := hP5.c 1 1
    have c1_2 := hP5.c 1 2
    have c1_3 := hP5.c 1 3
    have cf1 := hP5.fr 1
    have c2_0 := hP5.c 2 0
    have c2_1 := hP5.c 2 1
    have c2_2 := hP5.c 2 2
    have cf2 := hP5.fr 2
    clear zwo5
    refine bodyPost_ret (v := .agg #[.int .i64 f.1, .int .i64 f.2.1, .string f.2.2.1, .slice A1 f.2.2.2.length k1]) (by simp only [results, Tryz.results118]; go_simp; first | done | exact ⟨rfl, rfl, rfl⟩ | rfl) rfl ?_
    exact ⟨hg, Or.inl ⟨f, r, A1, k1, rfl, hk.out, rfl, hrf, _, _, hP5.drop1.drop1, hF.tail'⟩⟩
  ·
    have q1 : (f.1 == K) = false := by simpa using hk
    have q2 : (f.1 != K) = true := by simpa using hk
    replace hk := Lib.hid hk
    have hP1 : OwnB W0 w [(g, [.slice (some ⟨b, o, none⟩) (r.length + 1) c, .bool true, .bool bad])] := hO
    have c0_0 := hP1.c 0 0
    have c0_1 := hP1.c 0 1
    have c0_2 := hP1.c 0 2
    have cf0 := hP1.fr 0
    have hg : w.grownBy w (some g) := World.grownBy.refl _ _
    go_enter Tryz.func118, Tryz.ntmps118
    go_upto_region 1 with (fail)
    generalize hx_ : World.alloc w _ = wo2
    have hP2 : OwnB W0 wo2 [(w.heap.size, [.int .i64 0, .int .i64 0, .string ⟨#[]⟩, .slice none 0 0]), (g, [.slice (some ⟨b, o, none⟩) (r.length + 1) c, .bool true, .bool bad])] := by rw [← hx_]; exact hP1.new #[.int .i64 0, .int .i64 0, .string ⟨#[]⟩, .slice none 0 0] _ (g := w.heap.size)
    have hbn : Below w.heap.size w wo2 := by rw [← hx_]; exact (Below.refl _ _).alloc (Nat.le_refl _) _
    have zwo2 : wo2.heap.size = w.heap.size + 1 := by rw [← hx_]; simp
    clear hx_ c0_0 c0_1 c0_2 cf0 hP1
    have c0_0 := hP2.c 0 0
    have c0_1 := hP2.c 0 1
    have c0_2 := hP2.c 0 2
    have c0_3 := hP2.c 0 3
    have cf0 := hP2.fr 0
    have c1_0 := hP2.c 1 0
    have c1_1 := hP2.c 1 1
    have c1_2 := hP2.c 1 2
    have cf1 := hP2.fr 1
    replace hg : w.grownBy wo2 (some g) := grown_trans hg (growBelow hbn)
    clear hbn
    clear zwo2
    have hbr := hP2.below
    replace r0 := (hbr.cell (p := ⟨b, _, none⟩) hblt).trans r0
    replace r1 := (hbr.cell (p := ⟨b, _, none⟩) hblt).trans r1
    replace r2 := (hbr.cell (p := ⟨b, _, none⟩) hblt).trans r2
    replace r3 := (hbr.cell (p := ⟨b, _, none⟩) hblt).trans r3
    clear hbr
    go_upto_region 3 with (fail)
    generalize hx_ : World.setCell _ _ _ = wo3
    have hP3 : OwnB W0 wo3 [(w.heap.size, [.int .i64 0, .int .i64 0, .string ⟨#[]⟩, .slice none 0 0]), (g, [.slice (some ⟨b, o, none⟩) (r.length + 1) c, .bool true, .bool true])] := by rw [← hx_]; exact hP2.store 1 rfl 2 _
    have zwo3 : wo3.heap.size = wo2.heap.size := by rw [← hx_]; simp [World.setCell]
    replace hg : w.grownBy wo3 (some g) := by rw [← hx_]; exact grown_trans hg (setCell_grown _ g _ _)
    clear hx_ c0_0 c0_1 c0_2 c0_3 cf0 c1_0 c1_1 c1_2 cf1 hP2
    have c0_0 := hP3.c 0 0
    have c0_1 := hP3.c 0 1
    have c0_2 := hP3.c 0 2
    have c0_3 := hP3.c 0 3
    have cf0 := hP3.fr 0
    have c1_0 := hP3.c 1 0
    have c1_1 := hP3.c 1 1
    have c1_2 := hP3.c 1 2
    have cf1 := hP3.fr 1
    clear zwo3
    repeat' ((fail_if_success at_builtin); first | go_skip | go_guarded | go_step)
    generalize hx_ : World.setCell (World.setCell (World.setCell (World.setCell _ _ _) _ _) _ _) _ _ = wo4
    have hP4 : OwnB W0 wo4 [(w.heap.size, [.int .i64 0, .int .i64 0, .string ⟨#[]⟩, .slice none 0 0]), (g, [.slice (some ⟨b, o, none⟩) (r.length + 1) c, .bool true, .bool true])] := by rw [← hx_]; exact (((hP3.store 0 rfl 0 _).store 0 rfl 1 _).store 0 rfl 2 _).store 0 rfl 3 _
    have zwo4 : wo3.heap.size ≤ wo4.heap.size := by rw [← hx_]; simp [World.setCell]
    replace hg : w.grownBy wo4 (some g) := by rw [← hx_]; exact (grown_new (grown_new (grown_new (grown_new hg (Nat.le_refl _) _) (Nat.le_refl _) _) (Nat.le_refl _) _) (Nat.le_refl _) _)
    clear hx_ c0_0 c0_1 c0_2 c0_3 cf0 c1_0 c1_1 c1_2 cf1 hP3
    have c0_0 := hP4.c 0 0
    have c0_1 := hP4.c 0 1
    have c0_2 := hP4.c 0 2
    have c0_3 := hP4.c 0 3
    have cf0 := hP4.fr 0
    have c1_0 := hP4.c 1 0
    have c1_1 := hP4.c 1 1
    have c1_2 := hP4.c 1 2
    have cf1 := hP4.fr 1
    clear zwo4
    refine bodyPost_ret (v := .agg #[.int .i64 0, .int .i64 0, .string ⟨#[]⟩, .slice none 0 0]) (by simp only [results, Tryz.results118]; go_simp; first | done | exact ⟨rfl, rfl, rfl⟩ | rfl) rfl ?_
    refine ⟨hg, Or.inr ⟨(fun h => by obtain ⟨f1, r1, h, h2⟩ := h; injection h with h3 h4; subst h3; exact hk.out h2), rfl, _, _, (OwnB.drop1 hP4), hF⟩⟩
structure Tgt (w : World) (b o : Nat) (cs : List Value) : Prop where
 lt : b < w.heap.size
 at_ : At w b o cs
 fr : ∀ j, w.frozen? ⟨b, j, none⟩ = false
section
variable {W0 w w1 w' : World} {g b o lo_ hi_ gi : Nat} {l : List FV} {bad : Bool} {cs : List Value}
theorem Chg.set (h : Chg w w1 g b lo_ hi_) (h1 : lo_ ≤ o) (h2 : o < hi_) (v : Value) : Chg w (w1.setCell ⟨b, o, none⟩ v) g b lo_ hi_ :=
 ⟨h.os, h.tape, h.output, by simpa [World.setCell] using h.size, fun k hk a c => (Below.heap_setCell w1 ⟨b, o, none⟩ v k (by simp only; omega)).trans (h.block k hk a c),
  fun x hx => (World.cell?_setCell_other w1 _ _ _ (by intro e; injection e with _ e; omega)).trans (h.out x hx), fun x => (World.frozen?_setCell _ _ _ _).trans (h.fr x)⟩
theorem CR.setb (h : CR W0 w g l bad) (hb : W0.heap.size ≤ b) (hne : b ≠ g) (v : Value) : CR W0 (w.setCell ⟨b, o, none⟩ v) g l bad := h.grown (setCell_grown w b o v) (fun e => hne e.symm) hb
theorem Tgt.grown (h : Tgt w b o cs) (k : w.grownBy w' (some g)) (hne : b ≠ g) : Tgt w' b o cs :=
 ⟨Nat.lt_of_lt_of_le h.lt k.size, fun j u hu => (World.cell?_of_block (a := ⟨b, o + j, none⟩) (k.block b h.lt (fun e => hne (by injection e)))).trans (h.at_ j u hu), fun j => (World.frozen?_of_block (a := ⟨b, j, none⟩) (k.block b h.lt (fun e => hne (by injection e)))).trans (h.fr j)⟩
theorem Tgt.below (h : Tgt w b o cs) (k : Below w.heap.size w w') : Tgt w' b o cs :=
 ⟨Nat.lt_of_lt_of_le h.lt k.size, fun j u hu => (k.cell (p := ⟨b, o + j, none⟩) h.lt).trans (h.at_ j u hu), fun j => (k.frozen (p := ⟨b, j, none⟩) h.lt).trans (h.fr j)⟩
theorem Tgt.c0 {u : Value} (h : Tgt w b o [u]) : w.cell? ⟨b, o, none⟩ = some u := h.at_ 0 u rfl
theorem Tgt.set1 {u : Value} (h : Tgt w b o [u]) (v : Value) : Tgt (w.setCell ⟨b, o, none⟩ v) b o [v] :=
 ⟨by simpa [World.setCell] using h.lt, fun j x hx => by
  match j, hx with
  | 0, hx =>
   simp only [List.getElem?_cons_zero, Option.some.injEq] at hx
   subst hx
   exact World.cell?_setCell_same w ⟨b, o, none⟩ v h.c0, fun j => by rw [World.frozen?_setCell]; exact h.fr j⟩
theorem CR.c1 (h : CR W0 w g l bad) : w.cell? ⟨g, 1, none⟩ = some (.bool true) := by
 obtain ⟨A, c, h, _⟩ := h
 exact h.c 0 1
theorem CR.c2 (h : CR W0 w g l bad) : w.cell? ⟨g, 2, none⟩ = some (.bool bad) := by
 obtain ⟨A, c, h, _⟩ := h
 exact h.c 0 2
theorem CR.fr (h : CR W0 w g l bad) : ∀ j, w.frozen? ⟨g, j, none⟩ = false := by
 obtain ⟨A, c, h, _⟩ := h
 exact h.fr 0
theorem CR.set2 (h : CR W0 w g l bad) (v : Bool) : CR W0 (w.setCell ⟨g, 2, none⟩ (.bool v)) g l v := by
 obtain ⟨A, c, h1, h2⟩ := h
 exact ⟨A, c, h1.store 0 rfl 2 (.bool v), h2⟩
end
theorem int_r (W0 w : World) (g b o : Nat) (l : List FV) (bad : Bool) (h : CR W0 w g l bad) (hb : W0.heap.size ≤ b) (hne : b ≠ g) (hT : Tgt w b o [.int .i64 0]) (hc : Cln l) (hl : lsz l ≤ 1000000000) :
  Calls Tryz.prog 76 #[.pointer (some ⟨g, 0, none⟩), .pointer (some ⟨b, o, none⟩)] w fun e w' => e = .returned (.tuple #[]) ∧ Chg w w' g b o (o + 1) ∧
  ((∃ x r, l = fI x :: r ∧ IsInt x ∧ CR W0 w' g r bad ∧ Tgt w' b o [.int .i64 x]) ∨ (¬ (∃ f r, l = f :: r ∧ fitI f) ∧ CR W0 w' g l true ∧ Tgt w' b o [.int .i64 0])) := by
 have hll := lsz_length l
 have c1 := h.c1
 have hfl : ∀ (w' : World) (u0 u1 u2 u3 : Value), (Instr.field 98 (.agg #[u0, u1, u2, u3]) 1).run Tryz.prog w' = .ok u1 w' := fun _ _ _ _ _ => by kernel_rfl
 go_enter Tryz.func76, Tryz.ntmps76
 repeat' (first | go_skip | go_guarded | go_step)
 refine (next_r 0 W0 w g l bad h (by omega)).mono ?_
 rintro e w1 ⟨hgr, hh⟩
 have hT1 := hT.grown hgr hne
 have t0 := hT1.c0
 have tf := hT1.fr
 have hch : Chg w w1 g b o (o + 1) := Chg.of_grown hgr hT.lt hne
 clear c1
 rcases hh with ⟨f, r, A, c, rfl, hf, rfl, hrf, hC⟩ | ⟨hn, rfl, hC⟩
 ·rcases hc.head.1 with ⟨x, rfl⟩ | ⟨x, rfl⟩ | ⟨x, rfl, _⟩
  ·skip
   clear hf
   dsimp only
   repeat' (first | go_skip | go_guarded | go_step)
   refine bodyPost_ret (v := .tuple #[]) (by simp only [results, Tryz.results76]; go_simp; first | done | rfl) rfl ?_
   exact ⟨rfl, hch.set (Nat.le_refl _) (by omega) _, Or.inl ⟨x, r, rfl, (by obtain ⟨_, _, _, _, _, h2, _⟩ := hrf; exact h2), hC.setb hb hne _, hT1.set1 _⟩⟩
  ·skip
   exact absurd hf (by simp)
  ·skip
   exact absurd hf (by simp)
 ·dsimp only
  repeat' (first | go_skip | go_guarded | go_step)
  refine bodyPost_ret (v := .tuple #[]) (by simp only [results, Tryz.results76]; go_simp; first | done | rfl) rfl ?_
  exact ⟨rfl, hch.set (Nat.le_refl _) (by omega) _, Or.inr ⟨hn, hC.setb hb hne _, hT1.set1 _⟩⟩
theorem str_r (W0 w : World) (g b o : Nat) (l : List FV) (bad : Bool) (h : CR W0 w g l bad) (hb : W0.heap.size ≤ b) (hne : b ≠ g) (hT : Tgt w b o [.string ⟨#[]⟩]) (hc : Cln l) (hl : lsz l ≤ 1000000000) :
  Calls Tryz.prog 77 #[.pointer (some ⟨g, 0, none⟩), .pointer (some ⟨b, o, none⟩)] w fun e w' => e = .returned (.tuple #[]) ∧ Chg w w' g b o (o + 1) ∧
  ((∃ x r, l = fS x :: r ∧ CR W0 w' g r bad ∧ Tgt w' b o [.string x]) ∨ (¬ (∃ f r, l = f :: r ∧ fitS f) ∧ CR W0 w' g l true ∧ Tgt w' b o [.string ⟨#[]⟩])) := by
 have hll := lsz_length l
 have c1 := h.c1
 have hfl : ∀ (w' : World) (u0 u1 u2 u3 : Value), (Instr.field 98 (.agg #[u0, u1, u2, u3]) 2).run Tryz.prog w' = .ok u2 w' := fun _ _ _ _ _ => by kernel_rfl
 go_enter Tryz.func77, Tryz.ntmps77
 repeat' (first | go_skip | go_guarded | go_step)
 refine (next_r 1 W0 w g l bad h (by omega)).mono ?_
 rintro e w1 ⟨hgr, hh⟩
 have hT1 := hT.grown hgr hne
 have t0 := hT1.c0
 have tf := hT1.fr
 have hch : Chg w w1 g b o (o + 1) := Chg.of_grown hgr hT.lt hne
 clear c1
 rcases hh with ⟨f, r, A, c, rfl, hf, rfl, hrf, hC⟩ | ⟨hn, rfl, hC⟩
 ·rcases hc.head.1 with ⟨x, rfl⟩ | ⟨x, rfl⟩ | ⟨x, rfl, _⟩
  ·skip
   exact absurd hf (by simp)
  ·skip
   clear hf
   dsimp only
   repeat' (first | go_skip | go_guarded | go_step)
   refine bodyPost_ret (v := .tuple #[]) (by simp only [results, Tryz.results77]; go_simp; first | done | rfl) rfl ?_
   exact ⟨rfl, hch.set (Nat.le_refl _) (by omega) _, Or.inl ⟨x, r, rfl, hC.setb hb hne _, hT1.set1 _⟩⟩
  ·skip
   exact absurd hf (by simp)
 ·dsimp only
  repeat' (first | go_skip | go_guarded | go_step)
  refine bodyPost_ret (v := .tuple #[]) (by simp only [results, Tryz.results77]; go_simp; first | done | rfl) rfl ?_
  exact ⟨rfl, hch.set (Nat.le_refl _) (by omega) _, Or.inr ⟨hn, hC.setb hb hne _, hT1.set1 _⟩⟩
theorem inner_r (W0 w : World) (g : Nat) (l : List FV) (bad : Bool) (h : CR W0 w g l bad) (hc : Cln l) (hl : lsz l ≤ 1000000000) : Calls Tryz.prog 119 #[.pointer (some ⟨g, 0, none⟩)] w fun e w' => ∃ gi, e = .returned (.pointer (some ⟨gi, 0, none⟩)) ∧ w.heap.size ≤ gi ∧ gi < w'.heap.size ∧ w.grownBy w' (some g) ∧
  ((∃ m r, l = fL m :: r ∧ Cln m ∧ CR W0 w' g r bad ∧ CR W0 w' gi m false) ∨ (¬ (∃ f r, l = f :: r ∧ f.1 = 2) ∧ CR W0 w' g l true ∧ CR W0 w' gi [] false)) := by
 have hll := lsz_length l
 have hlo := h.bel.size
 have hglt := h.lt
 obtain ⟨A, c, hO, hF⟩ := h
 have hfl : ∀ (w' : World) (u0 u1 u2 u3 : Value), (Instr.field 98 (.agg #[u0, u1, u2, u3]) 3).run Tryz.prog w' = .ok u3 w' := fun _ _ _ _ _ => by kernel_rfl
 have hP1 : OwnB W0 w [(g, [.slice A l.length c, .bool true, .bool bad])] := hO
 have k0_0 : w.cell? ⟨g, 0, none⟩ = some (.slice A l.length c) := hP1.c 0 0
 have k0_1 : w.cell? ⟨g, 1, none⟩ = some (.bool true) := hP1.c 0 1
 have k0_2 : w.cell? ⟨g, 2, none⟩ = some (.bool bad) := hP1.c 0 2
 have kf0 := hP1.fr 0
 go_enter Tryz.func119, Tryz.ntmps119
 go_upto_region 2 with (fail)
 generalize hx_ : World.alloc w _ = wo2
 have hP2 : OwnB W0 wo2 [(w.heap.size, [.slice none 0 0, .bool true, .bool false]), (g, [.slice A l.length c, .bool true, .bool bad])] := by rw [← hx_]; exact hP1.new #[.slice none 0 0, .bool true, .bool false] _ (g := w.heap.size)
 have hbn : Below w.heap.size w wo2 := by rw [← hx_]; exact (Below.refl _ _).alloc (Nat.le_refl _) _
 have zwo2 : wo2.heap.size = w.heap.size + 1 := by rw [← hx_]; simp
 clear hx_ k0_0 k0_1 k0_2 kf0 hP1
 have k0_0 : wo2.cell? ⟨w.heap.size, 0, none⟩ = some (.slice none 0 0) := hP2.c 0 0
 have k0_1 : wo2.cell? ⟨w.heap.size, 1, none⟩ = some (.bool true) := hP2.c 0 1
 have k0_2 : wo2.cell? ⟨w.heap.size, 2, none⟩ = some (.bool false) := hP2.c 0 2
 have kf0 := hP2.fr 0
 have k1_0 : wo2.cell? ⟨g, 0, none⟩ = some (.slice A l.length c) := hP2.c 1 0
 have k1_1 : wo2.cell? ⟨g, 1, none⟩ = some (.bool true) := hP2.c 1 1
 have k1_2 : wo2.cell? ⟨g, 2, none⟩ = some (.bool bad) := hP2.c 1 2
 have kf1 := hP2.fr 1
 have hbn0 := hbn
 clear hbn
 clear zwo2
 have hb1 : Below w.heap.size w wo2 := hbn0
 repeat' (first | go_skip | go_guarded | go_step)
 refine (next_r 2 W0 wo2 g l bad ⟨A, c, hP2.drop1, hF⟩ (by omega)).mono ?_
 rintro e w2 ⟨hgr, hh⟩
 have hI : OwnB W0 wo2 [(w.heap.size, [.slice none 0 0, .bool true, .bool false])] := (OwnB.of hP2.below).push (hP2.lo 0) (hP2.all 0 _ _ rfl).2 (fun i b x h => by simp at h)
 have hgne : w.heap.size ≠ g := by omega
 have hW : w.grownBy w2 (some g) := grown_trans (growBelow hb1) hgr
 clear k0_0 k0_1 k0_2 kf0 k1_0 k1_1 k1_2 kf1
 rcases hh with ⟨f, r, A2, c2, rfl, hf, rfl, hrf, hC⟩ | ⟨hn, rfl, hC⟩
 ·dsimp only
  obtain ⟨m, hm⟩ : ∃ m, f = fL m ∧ Cln m := by
   rcases hc.head.1 with ⟨x, rfl⟩ | ⟨x, rfl⟩ | ⟨x, hx⟩
   ·exact absurd hf (by simp)
   ·exact absurd hf (by simp)
   ·exact ⟨x, hx⟩
  obtain ⟨rfl, hcm⟩ := hm
  have hI2 := CR.grown (W0 := W0) (l := []) (bad := false) ⟨none, 0, hI, FSl.nil⟩ hgr hgne (hC.lo)
  obtain ⟨A0, c0, hI3, _⟩ := hI2
  have k0 := hI3.c 0 0
  have kf := hI3.fr 0
  repeat' (first | go_skip | go_guarded | go_step)
  go_ret
  refine ⟨w.heap.size, rfl, Nat.le_refl _, by simpa [World.setCell] using hI3.lt 0, grown_new hW (Nat.le_refl _) _, Or.inl ⟨m, r, rfl, hcm, hC.setb hlo hgne _, A2, c2, ?_, ?_⟩⟩
  ·have h9 := hI3.store 0 rfl 0 (.slice A2 (ofL m).length c2)
   rw [ofL_length] at h9
   simpa [ofL_length] using h9
  ·obtain ⟨A3, c3, csub, h1, _, _, ⟨h2, h3⟩, h4⟩ := hrf
   injection h1 with _ h1
   injection h1 with _ h1
   injection h1 with _ h1
   injection h1 with h1
   injection h1 with e1 _ e2
   subst e1 e2
   rw [show (fL m).2.2.2 = ofL m from rfl, ofL_length] at h2 h3
   have h5 := of_rep h4
   rw [show (fL m).2.2.2 = ofL m from rfl, toL_ofL] at h5
   exact ⟨h3, csub, h2, h5⟩
 ·dsimp only
  have hI2 := CR.grown (W0 := W0) (l := []) (bad := false) ⟨none, 0, hI, FSl.nil⟩ hgr hgne (hC.lo)
  obtain ⟨A0, c0, hI3, _⟩ := hI2
  have k0 := hI3.c 0 0
  have kf := hI3.fr 0
  repeat' (first | go_skip | go_guarded | go_step)
  go_ret
  exact ⟨w.heap.size, rfl, Nat.le_refl _, by simpa [World.setCell] using hI3.lt 0, grown_new hW (Nat.le_refl _) _, Or.inr ⟨hn, hC.setb hlo hgne _, none, 0, hI3.store 0 rfl 0 (.slice none 0 0), FSl.nil⟩⟩
theorem Chg.side {w w1 w2 : World} {g b lo_ hi_ nb l2 h2 : Nat} (h : Chg w w1 g b lo_ hi_) (k : Chg w1 w2 g nb l2 h2) (hn : w.heap.size ≤ nb) (hb : b < w.heap.size) (hne : b ≠ g) : Chg w w2 g b lo_ hi_ :=
 have hbb : w2.heap[b]? = w1.heap[b]? := k.block b (Nat.lt_of_lt_of_le hb h.size) hne (by omega)
 ⟨k.os.trans h.os, k.tape.trans h.tape, k.output.trans h.output, Nat.le_trans h.size k.size, fun j hj a c => (k.block j (Nat.lt_of_lt_of_le hj h.size) a (by omega)).trans (h.block j hj a c),
  fun o ho => (World.cell?_of_block (a := ⟨b, o, none⟩) hbb).trans (h.out o ho), fun o => (World.frozen?_of_block (a := ⟨b, o, none⟩) hbb).trans (h.fr o)⟩
theorem Chg.gset {w w1 : World} {g b lo_ hi_ o : Nat} (h : Chg w w1 g b lo_ hi_) (hne : b ≠ g) (v : Value) : Chg w (w1.setCell ⟨g, o, none⟩ v) g b lo_ hi_ :=
 have hbb : (w1.setCell ⟨g, o, none⟩ v).heap[b]? = w1.heap[b]? := Below.heap_setCell w1 ⟨g, o, none⟩ v b hne
 ⟨h.os, h.tape, h.output, by simpa [World.setCell] using h.size, fun k hk a c => (Below.heap_setCell w1 ⟨g, o, none⟩ v k a).trans (h.block k hk a c),
  fun x hx => (World.cell?_of_block (a := ⟨b, x, none⟩) hbb).trans (h.out x hx), fun x => (World.frozen?_of_block (a := ⟨b, x, none⟩) hbb).trans (h.fr x)⟩
theorem Tgt.chg {w w1 : World} {g b o nb l2 h2 : Nat} {cs : List Value} (h : Tgt w b o cs) (k : Chg w w1 g nb l2 h2) (h1 : b ≠ g) (h2' : b ≠ nb) : Tgt w1 b o cs :=
 ⟨Nat.lt_of_lt_of_le h.lt k.size, fun j u hu => (k.cell (p := ⟨b, o + j, none⟩) h.lt h1 h2').trans (h.at_ j u hu), fun j => (k.frozen (p := ⟨b, j, none⟩) h.lt h1 h2').trans (h.fr j)⟩
theorem Tgt.new (w : World) (cs : Array Value) (t : TypeId) : Tgt (w.alloc (.cells cs t)) w.heap.size 0 cs.toList := by
 have h := CellsAt.new w cs t
 exact ⟨h.lt, fun j u hu => by rw [Nat.zero_add]; exact h.cell j u hu, h.fr⟩
theorem Tgt.gset {w : World} {g b o o2 : Nat} {cs : List Value} (h : Tgt w b o cs) (hne : b ≠ g) (v : Value) : Tgt (w.setCell ⟨g, o2, none⟩ v) b o cs := h.grown (setCell_grown w g o2 v) hne
theorem fitB_x {x : Int} (h0 : x ≠ 0) (h1 : x ≠ 1) {r : List FV} : ¬ (∃ f r', fI x :: r = f :: r' ∧ fitB f) := by
 rintro ⟨f, r', h, h2⟩
 injection h with h3 h4
 subst h3
 rcases h2.2 with h | h
 ·exact h0 h
 ·exact h1 h
theorem fitB_no {l : List FV} (h : ¬ (∃ f r, l = f :: r ∧ fitI f)) : ¬ (∃ f r, l = f :: r ∧ fitB f) := fun ⟨f, r, h1, h2⟩ => h ⟨f, r, h1, h2.1⟩
theorem done_r (W0 w : World) (g gi : Nat) (l m : List FV) (bad bi : Bool) (h : CR W0 w g l bad) (hi : CR W0 w gi m bi) : Calls Tryz.prog 121 #[.pointer (some ⟨g, 0, none⟩), .pointer (some ⟨gi, 0, none⟩)] w fun e w' => e = .returned (.tuple #[]) ∧ w.grownBy w' (some g) ∧ CR W0 w' g l (bad || (bi || !m.isEmpty)) := by
 have c1 := h.c1
 have c2 := h.c2
 have cf := h.fr
 have k2 := hi.c2
 obtain ⟨A, c, k0⟩ : ∃ A c, w.cell? ⟨gi, 0, none⟩ = some (.slice A m.length c) := by
  obtain ⟨A, c, h, _⟩ := hi
  exact ⟨A, c, h.c 0 0⟩
 clear hi
 cases bad with
 | true =>
  go_enter Tryz.func121, Tryz.ntmps121
  repeat' (first | go_skip | go_guarded | go_step)
  refine bodyPost_ret (v := .tuple #[]) (by simp only [results, Tryz.results121]; go_simp; first | done | rfl) rfl ?_
  exact ⟨rfl, setCell_grown _ _ _ _, h.set2 _⟩
 | false =>
  cases bi with
  | true =>
   go_enter Tryz.func121, Tryz.ntmps121
   repeat' (first | go_skip | go_guarded | go_step)
   refine bodyPost_ret (v := .tuple #[]) (by simp only [results, Tryz.results121]; go_simp; first | done | rfl) rfl ?_
   exact ⟨rfl, setCell_grown _ _ _ _, h.set2 _⟩
  | false =>
   cases m with
   | nil =>
    have k0 : w.cell? ⟨gi, 0, none⟩ = some (.slice A 0 c) := k0
    go_enter Tryz.func121, Tryz.ntmps121
    repeat' (first | go_skip | go_guarded | go_step)
    refine bodyPost_ret (v := .tuple #[]) (by simp only [results, Tryz.results121]; go_simp; first | done | rfl) rfl ?_
    exact ⟨rfl, setCell_grown _ _ _ _, h.set2 _⟩
   | cons x r =>
    have k0 : w.cell? ⟨gi, 0, none⟩ = some (.slice A (r.length + 1) c) := k0
    have i1 : (0 : Int) < (r.length : Int) + 1 := by omega
    go_enter Tryz.func121, Tryz.ntmps121
    repeat' (first | go_skip | go_guarded | go_step)
    refine bodyPost_ret (v := .tuple #[]) (by simp only [results, Tryz.results121]; go_simp; first | done | rfl) rfl ?_
    exact ⟨rfl, setCell_grown _ _ _ _, h.set2 _⟩
theorem flag_r (W0 w : World) (g b o : Nat) (l : List FV) (bad : Bool) (h : CR W0 w g l bad) (hb : W0.heap.size ≤ b) (hne : b ≠ g) (hT : Tgt w b o [.bool false]) (hc : Cln l) (hl : lsz l ≤ 1000000000) :
  Calls Tryz.prog 120 #[.pointer (some ⟨g, 0, none⟩), .pointer (some ⟨b, o, none⟩)] w fun e w' => e = .returned (.tuple #[]) ∧ Chg w w' g b o (o + 1) ∧
  ((∃ x r, l = fI (if x then 1 else 0) :: r ∧ CR W0 w' g r bad ∧ Tgt w' b o [.bool x]) ∨ (¬ (∃ f r, l = f :: r ∧ fitB f) ∧ (∃ l', Cln l' ∧ lsz l' ≤ lsz l ∧ CR W0 w' g l' true) ∧ ∃ y, Tgt w' b o [.bool y])) := by
 have t0 := hT.c0
 have hlt := hT.lt
 have hglt := h.lt
 have hW := h.bel.size
 go_enter Tryz.func120, Tryz.ntmps120
 go_upto_region 1 with (fail)
 generalize hx_ : World.alloc w _ = w1
 have hbn : Below w.heap.size w w1 := by rw [← hx_]; exact (Below.refl _ _).alloc (Nat.le_refl _) _
 have hN : Tgt w1 w.heap.size 0 [.int .i64 0] := by rw [← hx_]; exact Tgt.new w #[.int .i64 0] _
 clear hx_
 replace t0 := (hbn.cell (p := ⟨b, o, none⟩) hlt).trans t0
 have n0 := hN.c0
 have nf := hN.fr
 repeat' (first | go_skip | go_guarded | go_step)
 refine (int_r W0 w1 g w.heap.size 0 l bad (h.below hbn) hW (by omega) hN hc hl).mono ?_
 rintro e w2 ⟨rfl, hch, hh⟩
 dsimp only
 have hT2 := (hT.below hbn).chg hch hne (by omega)
 have hC2 : Chg w w2 g b o (o + 1) := (Chg.of_below hbn hlt).side hch (Nat.le_refl _) hlt hne
 clear t0 n0 nf
 have t0 := hT2.c0
 have tf := hT2.fr
 rcases hh with ⟨x, r, rfl, hx, hR, hN2⟩ | ⟨hn, hR, hN2⟩
 ·have n0 := hN2.c0
  by_cases x0 : x = 0
  ·subst x0
   have c1 := hR.c1
   repeat' ((fail_if_success at_builtin); first | go_skip | go_guarded | go_step)
   go_end0
   exact ⟨rfl, hC2.set (Nat.le_refl _) (by omega) _, Or.inl ⟨false, r, rfl, hR.setb hb hne _, hT2.set1 _⟩⟩
  ·by_cases x1 : x = 1
   ·subst x1
    have c1 := hR.c1
    repeat' ((fail_if_success at_builtin); first | go_skip | go_guarded | go_step)
    go_end0
    exact ⟨rfl, hC2.set (Nat.le_refl _) (by omega) _, Or.inl ⟨true, r, rfl, hR.setb hb hne _, hT2.set1 _⟩⟩
   ·have q0 : (x == 0) = false := by simpa using x0
    have q1 : (x == 1) = false := by simpa using x1
    have p0 : (x != 0) = true := by simpa using x0
    have p1 : (x != 1) = true := by simpa using x1
    have gf := hR.fr
    have g2 := hR.c2
    have hno := fitB_x x0 x1 (r := r)
    clear x0 x1
    go_upto_region 6 with (fail)
    have hR3 := hR.set2 true
    have hC3 := hC2.gset (o := 2) hne (.bool true)
    have hT3 := hT2.gset (o2 := 2) hne (.bool true)
    have hN3 := hN2.gset (o2 := 2) (g := g) (by omega) (.bool true)
    clear gf g2 t0 tf n0
    generalize w2.setCell ⟨g, 2, none⟩ (.bool true) = w3 at *
    have c1 := hR3.c1
    have n0 := hN3.c0
    have t0 := hT3.c0
    have tf := hT3.fr
    repeat' ((fail_if_success at_builtin); first | go_skip | go_guarded | go_step)
    go_end0
    exact ⟨rfl, hC3.set (Nat.le_refl _) (by omega) _, Or.inr ⟨hno, ⟨r, hc.head.2, by rw [lsz_cons]; omega, hR3.setb hb hne _⟩, _, hT3.set1 _⟩⟩
 ·have n0 := hN2.c0
  have c1 := hR.c1
  repeat' ((fail_if_success at_builtin); first | go_skip | go_guarded | go_step)
  go_end0
  exact ⟨rfl, hC2.set (Nat.le_refl _) (by omega) _, Or.inr ⟨fitB_no hn, ⟨l, hc, Nat.le_refl _, hR.setb hb hne _⟩, _, hT2.set1 _⟩⟩
theorem u64_back {x : Int} (hx : IsInt x) : ∃ n : Nat, n < 18446744073709551616 ∧ IntKind.u64.wrap x = (n : Int) ∧ wrap64 (n : Int) = x := by
 refine ⟨(x % 18446744073709551616).toNat, by omega, ?_, ?_⟩
 ·show x % 18446744073709551616 = _
  omega
 ·unfold wrap64
  unfold IsInt at hx
  omega
theorem dig_r (W0 w : World) (g b o : Nat) (l : List FV) (bad : Bool) (h : CR W0 w g l bad) (hb : W0.heap.size ≤ b) (hne : b ≠ g) (hT : Tgt w b o [.int .u64 0]) (hc : Cln l) (hl : lsz l ≤ 1000000000) :
  Calls Tryz.prog 129 #[.pointer (some ⟨g, 0, none⟩), .pointer (some ⟨b, o, none⟩)] w fun e w' => e = .returned (.tuple #[]) ∧ Chg w w' g b o (o + 1) ∧
  ((∃ n r, n < 18446744073709551616 ∧ l = fI (wrap64 ((n : Nat) : Int)) :: r ∧ CR W0 w' g r bad ∧ Tgt w' b o [.int .u64 (n : Int)]) ∨ (¬ (∃ f r, l = f :: r ∧ fitI f) ∧ CR W0 w' g l true ∧ Tgt w' b o [.int .u64 0])) := by
 have t0 := hT.c0
 have hlt := hT.lt
 have hglt := h.lt
 have hW := h.bel.size
 go_enter Tryz.func129, Tryz.ntmps129
 go_upto_region 1 with (fail)
 generalize hx_ : World.alloc w _ = w1
 have hbn : Below w.heap.size w w1 := by rw [← hx_]; exact (Below.refl _ _).alloc (Nat.le_refl _) _
 have hN : Tgt w1 w.heap.size 0 [.int .i64 0] := by rw [← hx_]; exact Tgt.new w #[.int .i64 0] _
 clear hx_
 repeat' (first | go_skip | go_guarded | go_step)
 refine (int_r W0 w1 g w.heap.size 0 l bad (h.below hbn) hW (by omega) hN hc hl).mono ?_
 rintro e w2 ⟨rfl, hch, hh⟩
 dsimp only
 have hT2 := (hT.below hbn).chg hch hne (by omega)
 have hC2 : Chg w w2 g b o (o + 1) := (Chg.of_below hbn hlt).side hch (Nat.le_refl _) hlt hne
 clear t0
 have t0 := hT2.c0
 have tf := hT2.fr
 rcases hh with ⟨x, r, rfl, hx, hR, hN2⟩ | ⟨hn, hR, hN2⟩
 ·have n0 := hN2.c0
  have c1 := hR.c1
  obtain ⟨n, hn1, hn2, hn3⟩ := u64_back hx
  replace hn3 := Lib.hid hn3
  repeat' ((fail_if_success at_builtin); first | go_skip | go_guarded | go_step)
  go_end0
  exact ⟨rfl, hC2.set (Nat.le_refl _) (by omega) _, Or.inl ⟨n, r, hn1, by rw [hn3.out], hR.setb hb hne _, hT2.set1 _⟩⟩
 ·have n0 := hN2.c0
  have c1 := hR.c1
  repeat' ((fail_if_success at_builtin); first | go_skip | go_guarded | go_step)
  go_end0
  exact ⟨rfl, hC2.set (Nat.le_refl _) (by omega) _, Or.inr ⟨hn, hR.setb hb hne _, hT2.set1 _⟩⟩
def ReadR (W0 w w' : World) (g b o : Nat) (C : Cod) (P : FV → Prop) (l : List FV) (bad : Bool) : Prop :=
 Chg w w' g b o (o + C.sz) ∧ ∃ cs', Tgt w' b o cs' ∧ cs'.length = C.sz ∧ (∀ u ∈ cs', u.oneCell' = true) ∧
  ((∃ f r, l = f :: r ∧ P f ∧ CR W0 w' g r bad ∧ C.rp w' (Fresh w w') f cs') ∨ (¬ (∃ f r, l = f :: r ∧ P f) ∧ ∃ l', Cln l' ∧ lsz l' ≤ lsz l ∧ CR W0 w' g l' true))
def ReadN (N : Nat) (F : FuncId) (C : Cod) (P : FV → Prop) (Z : List Value) : Prop := ∀ (W0 w : World) (g b o : Nat) (l : List FV) (bad : Bool), CR W0 w g l bad → W0.heap.size ≤ b → b ≠ g → Tgt w b o Z → Cln l → lsz l ≤ N →
 Calls Tryz.prog F #[.pointer (some ⟨g, 0, none⟩), .pointer (some ⟨b, o, none⟩)] w fun e w' => e = .returned (.tuple #[]) ∧ ReadR W0 w w' g b o C P l bad
abbrev ReadC (F : FuncId) (C : Cod) (P : FV → Prop) (Z : List Value) : Prop := ReadN 1000000000 F C P Z
theorem one1 {v : Value} (h : v.oneCell' = true) : ∀ u ∈ [v], u.oneCell' = true := fun u hu => by
 simp only [List.mem_cons, List.not_mem_nil, or_false] at hu
 subst hu
 exact h
theorem int_rc : ReadC 76 Cod.int fitI [.int .i64 0] := by
 intro W0 w g b o l bad h hb hne hT hc hl
 refine (int_r W0 w g b o l bad h hb hne hT hc hl).mono ?_
 rintro e w' ⟨rfl, hch, hh⟩
 refine ⟨rfl, hch, ?_⟩
 rcases hh with ⟨x, r, rfl, hx, hR, hN⟩ | ⟨hn, hR, hN⟩
 ·exact ⟨_, hN, rfl, one1 rfl, Or.inl ⟨fI x, r, rfl, rfl, hR, x, hx, rfl, rfl⟩⟩
 ·exact ⟨_, hN, rfl, one1 rfl, Or.inr ⟨hn, l, hc, Nat.le_refl _, hR⟩⟩
theorem str_rc : ReadC 77 Cod.str fitS [.string ⟨#[]⟩] := by
 intro W0 w g b o l bad h hb hne hT hc hl
 refine (str_r W0 w g b o l bad h hb hne hT hc hl).mono ?_
 rintro e w' ⟨rfl, hch, hh⟩
 refine ⟨rfl, hch, ?_⟩
 rcases hh with ⟨x, r, rfl, hR, hN⟩ | ⟨hn, hR, hN⟩
 ·exact ⟨_, hN, rfl, one1 rfl, Or.inl ⟨fS x, r, rfl, rfl, hR, x, rfl, rfl⟩⟩
 ·exact ⟨_, hN, rfl, one1 rfl, Or.inr ⟨hn, l, hc, Nat.le_refl _, hR⟩⟩
theorem flag_rc : ReadC 120 Cod.flag fitB [.bool false] := by
 intro W0 w g b o l bad h hb hne hT hc hl
 refine (flag_r W0 w g b o l bad h hb hne hT hc hl).mono ?_
 rintro e w' ⟨rfl, hch, hh⟩
 refine ⟨rfl, hch, ?_⟩
 rcases hh with ⟨x, r, rfl, hR, hN⟩ | ⟨hn, hR, y, hN⟩
 ·exact ⟨_, hN, rfl, one1 rfl, Or.inl ⟨_, r, rfl, ⟨rfl, by cases x <;> simp⟩, hR, x, rfl, rfl⟩⟩
 ·exact ⟨_, hN, rfl, one1 rfl, Or.inr ⟨hn, hR⟩⟩
theorem dig_rc : ReadC 129 Cod.dig fitI [.int .u64 0] := by
 intro W0 w g b o l bad h hb hne hT hc hl
 refine (dig_r W0 w g b o l bad h hb hne hT hc hl).mono ?_
 rintro e w' ⟨rfl, hch, hh⟩
 refine ⟨rfl, hch, ?_⟩
 rcases hh with ⟨n, r, hn1, rfl, hR, hN⟩ | ⟨hn, hR, hN⟩
 ·exact ⟨_, hN, rfl, one1 rfl, Or.inl ⟨_, r, rfl, rfl, hR, n, hn1, rfl, rfl⟩⟩
 ·exact ⟨_, hN, rfl, one1 rfl, Or.inr ⟨hn, l, hc, Nat.le_refl _, hR⟩⟩
theorem cln_app : ∀ {a b : List FV}, Cln (a ++ b) → Cln b
 | [], _, h => h
 | _ :: _, _, h => cln_app h.2.2
theorem lsz_app (a b : List FV) : lsz b ≤ lsz (a ++ b) := by have := lsz_append a b; have := lsz_length a; omega
theorem FitL.len : ∀ {Ps : List (FV → Prop)} {fs : List FV}, FitL Ps fs → fs.length = Ps.length
 | [], [], _ => rfl
 | _ :: _, _ :: _, h => by simp [FitL.len h.2]
theorem FitL.snoc : ∀ {Ps : List (FV → Prop)} {fs : List FV} {P : FV → Prop} {f : FV}, FitL Ps fs → P f → FitL (Ps ++ [P]) (fs ++ [f])
 | [], [], _, _, _, hp => ⟨hp, trivial⟩
 | _ :: _, _ :: _, _, _, h, hp => ⟨h.1, FitL.snoc h.2 hp⟩
theorem FitL.last : ∀ {Ps : List (FV → Prop)} {fs : List FV} {P : FV → Prop}, FitL (Ps ++ [P]) fs → ∃ a f, fs = a ++ [f] ∧ FitL Ps a ∧ P f
 | [], [f], _, h => ⟨[], f, rfl, trivial, h.1⟩
 | [], _ :: _ :: _, _, h => h.2.elim
 | _ :: _, f :: fs, _, h => by
  obtain ⟨a, x, rfl, h1, h2⟩ := FitL.last h.2
  exact ⟨f :: a, x, rfl, ⟨h.1, h1⟩, h2⟩
theorem RecL.snoc {w : World} {S : Nat → Prop} {C : Cod} {f : FV} {c : List Value} (hc : C.rp w S f c) : ∀ {Cs : List Cod} {fs : List FV} {cs : List Value}, RecL Cs w S fs cs → RecL (Cs ++ [C]) w S (fs ++ [f]) (cs ++ c)
 | [], _, _, ⟨h1, h2⟩ => by subst h1 h2; exact ⟨f, [], c, [], rfl, by simp, hc, rfl, rfl⟩
 | D :: Cs, _, _, ⟨f1, fr, c1, c2, h1, h2, h3, h4⟩ => by
  subst h1 h2
  exact ⟨f1, fr ++ [f], c1, c2 ++ c, rfl, by simp, h3, RecL.snoc hc h4⟩
theorem csz_snoc (Cs : List Cod) (C : Cod) : csz (Cs ++ [C]) = csz Cs + C.sz := by simp [csz]
theorem Tgt.left {w : World} {b o : Nat} {c1 c2 : List Value} (h : Tgt w b o (c1 ++ c2)) : Tgt w b o c1 := ⟨h.lt, h.at_.left, h.fr⟩
theorem Tgt.right {w : World} {b o k : Nat} {c1 c2 : List Value} (h : Tgt w b o (c1 ++ c2)) (hk : o + c1.length = k) : Tgt w b k c2 := ⟨h.lt, h.at_.right hk, h.fr⟩
theorem Tgt.join {w : World} {b o k : Nat} {c1 c2 : List Value} (h : Tgt w b o c1) (h2 : Tgt w b k c2) (hk : o + c1.length = k) : Tgt w b o (c1 ++ c2) := ⟨h.lt, fun j u hu => by
 by_cases hj : j < c1.length
 ·rw [List.getElem?_append_left hj] at hu; exact h.at_ j u hu
 ·rw [List.getElem?_append_right (by omega)] at hu
  have := h2.at_ _ u hu
  rw [← hk] at this
  rw [← this]
  congr 2
  omega, h.fr⟩
def RSt (W0 w wk : World) (gi b o : Nat) (bad0 : Bool) (Cs : List Cod) (Ps : List (FV → Prop)) (Zr : List Value) (m : List FV) : Prop :=
 Chg w wk gi b o (o + csz Cs) ∧ ∃ cs, cs.length = csz Cs ∧ Tgt wk b o (cs ++ Zr) ∧ (∀ u ∈ cs, u.oneCell' = true) ∧
  ((∃ a r, m = a ++ r ∧ FitL Ps a ∧ CR W0 wk gi r bad0 ∧ RecL Cs wk (Fresh w wk) a cs) ∨ (¬ (∃ a r, m = a ++ r ∧ FitL Ps a) ∧ ∃ l', Cln l' ∧ lsz l' ≤ lsz m ∧ CR W0 wk gi l' true))
section
variable {W0 w wk : World} {gi b o : Nat} {bad0 : Bool} {Cs : List Cod} {Ps : List (FV → Prop)} {Zr : List Value} {m : List FV}
theorem RSt.start (hT : Tgt w b o Zr) (h : CR W0 w gi m bad0) : RSt W0 w w gi b o bad0 [] [] Zr m :=
 ⟨Chg.refl _ _ _ _ _, [], rfl, hT, (fun u hu => by cases hu), Or.inl ⟨[], m, rfl, trivial, h, rfl, rfl⟩⟩
theorem RSt.step {C : Cod} {P : FV → Prop} {Z : List Value} {w2 : World} {l : List FV} {bk : Bool} (hO : ∀ D ∈ Cs, Cod.Ok D) (hC : C.Ok) (hgi : gi < w.heap.size) (hbw : b < w.heap.size) (hne : b ≠ gi) (hZ : Z.length = C.sz)
  (hch : Chg w wk gi b o (o + csz Cs)) {cs : List Value} (hcl : cs.length = csz Cs) (hT : Tgt wk b o (cs ++ (Z ++ Zr))) (h1 : ∀ u ∈ cs, u.oneCell' = true)
  (hR : ReadR W0 wk w2 gi b (o + csz Cs) C P l bk) (hcn : Cln l)
  (hst : (∃ a, m = a ++ l ∧ FitL Ps a ∧ bk = bad0 ∧ RecL Cs wk (Fresh w wk) a cs) ∨ (¬ (∃ a r, m = a ++ r ∧ FitL Ps a) ∧ lsz l ≤ lsz m ∧ bk = true)) : RSt W0 w w2 gi b o bad0 (Cs ++ [C]) (Ps ++ [P]) Zr m := by
 obtain ⟨hch2, cs', hT2, hl2, h12, hh⟩ := hR
 have hcell : ∀ x, x < o + csz Cs ∨ o + csz Cs + C.sz ≤ x → w2.cell? ⟨b, x, none⟩ = wk.cell? ⟨b, x, none⟩ := hch2.out
 have hA : Tgt w2 b o cs := ⟨Nat.lt_of_lt_of_le hT.lt hch2.size, fun j u hu => by
  have hj := (List.getElem?_eq_some_iff.1 hu).1
  exact (hcell (o + j) (Or.inl (by omega))).trans (hT.left.at_ j u hu), hT2.fr⟩
 have hB : Tgt w2 b (o + csz Cs + C.sz) Zr := ⟨Nat.lt_of_lt_of_le hT.lt hch2.size, fun j u hu => (hcell _ (Or.inr (by omega))).trans (((hT.right (k := o + csz Cs) (by omega)).right (k := o + csz Cs + C.sz) (by omega)).at_ j u hu), hT2.fr⟩
 have hCh : Chg w w2 gi b o (o + csz (Cs ++ [C])) := by
  rw [csz_snoc]
  have hk1 : Chg w wk gi b o (o + (csz Cs + C.sz)) := ⟨hch.os, hch.tape, hch.output, hch.size, hch.block, fun x hx => hch.out x (by omega), hch.fr⟩
  exact hk1.trans hch2 (Or.inl rfl) (by omega) (by omega)
 have hsz := hch.size
 refine ⟨hCh, cs ++ cs', by rw [csz_snoc, List.length_append]; omega, ?_, fun u hu => (List.mem_append.1 hu).elim (h1 u) (h12 u), ?_⟩
 ·rw [List.append_assoc]
  exact hA.join (hT2.join hB (by omega)) (by omega)
 ·rcases hst with ⟨a, rfl, hfa, rfl, hrec⟩ | ⟨hno, hlz, rfl⟩
  ·rcases hh with ⟨f, r, rfl, hP, hCR, hrp⟩ | ⟨hn, l', hcl', hz', hCR⟩
   ·refine Or.inl ⟨a ++ [f], r, by simp, hfa.snoc hP, hCR, RecL.snoc (hC.map _ _ _ _ _ _ (fun _ _ => rfl) (fun x hx => ⟨by have := hx.1; omega, hx.2⟩) hrp) ?_⟩
    exact hrec.map hO (fun p hp => hch2.cell hp.2 (by have := hp.1; omega) (by have := hp.1; omega)) (fun x hx => ⟨hx.1, Nat.lt_of_lt_of_le hx.2 hch2.size⟩)
   ·refine Or.inr ⟨?_, l', hcl', Nat.le_trans hz' (lsz_app _ _), hCR⟩
    rintro ⟨a2, r2, he, hf2⟩
    obtain ⟨a3, f, rfl, hf3, hPf⟩ := hf2.last
    have hle : a3.length = a.length := by rw [hf3.len, hfa.len]
    rw [List.append_assoc] at he
    obtain ⟨e1, e2⟩ := List.append_inj he hle.symm
    exact hn ⟨f, r2, e2, hPf⟩
  ·have hno2 : ¬ (∃ a r, m = a ++ r ∧ FitL (Ps ++ [P]) a) := by
    rintro ⟨a2, r2, he, hf2⟩
    obtain ⟨a3, f, rfl, hf3, hPf⟩ := hf2.last
    exact hno ⟨a3, f :: r2, by rw [he]; simp, hf3⟩
   rcases hh with ⟨f, r, rfl, hP, hCR, hrp⟩ | ⟨hn, l', hcl', hz', hCR⟩
   ·exact Or.inr ⟨hno2, r, hcn.head.2, by rw [lsz_cons] at hlz; omega, hCR⟩
   ·exact Or.inr ⟨hno2, l', hcl', by omega, hCR⟩
theorem RSt.call {C : Cod} {P : FV → Prop} {Z : List Value} {F : FuncId} {k N : Nat} (hF : ReadN N F C P Z) (hO : ∀ D ∈ Cs, Cod.Ok D) (hC : C.Ok) (hgi : gi < w.heap.size) (hgW : W0.heap.size ≤ b) (hbw : b < w.heap.size) (hne : b ≠ gi) (hZ : Z.length = C.sz) (hcm : Cln m) (hlm : lsz m ≤ N)
  (h : RSt W0 w wk gi b o bad0 Cs Ps (Z ++ Zr) m) (hk : o + csz Cs = k) :
  Calls Tryz.prog F #[.pointer (some ⟨gi, 0, none⟩), .pointer (some ⟨b, k, none⟩)] wk fun e w' => e = .returned (.tuple #[]) ∧ RSt W0 w w' gi b o bad0 (Cs ++ [C]) (Ps ++ [P]) Zr m := by
 subst hk
 obtain ⟨hch, cs, hcl, hT, h1, hh⟩ := h
 have hTZ := (hT.right (k := o + csz Cs) (by omega)).left
 rcases hh with ⟨a, r, rfl, hfa, hCR, hrec⟩ | ⟨hno, l', hcl', hz', hCR⟩
 ·refine (hF W0 wk gi b (o + csz Cs) r bad0 hCR hgW hne hTZ (cln_app hcm) (Nat.le_trans (lsz_app _ _) hlm)).mono ?_
  rintro e w' ⟨rfl, hR⟩
  exact ⟨rfl, RSt.step hO hC hgi hbw hne hZ hch hcl hT h1 hR (cln_app hcm) (Or.inl ⟨a, rfl, hfa, rfl, hrec⟩)⟩
 ·refine (hF W0 wk gi b (o + csz Cs) l' true hCR hgW hne hTZ hcl' (Nat.le_trans hz' hlm)).mono ?_
  rintro e w' ⟨rfl, hR⟩
  exact ⟨rfl, RSt.step hO hC hgi hbw hne hZ hch hcl hT h1 hR hcl' (Or.inr ⟨hno, hz', rfl⟩)⟩
def ReadLN (N : Nat) (F : FuncId) (V : Value) (C : Cod) (P : FV → Prop) (Z : List Value) : Prop := ∀ (W0 w : World) (g b o : Nat) (l : List FV) (bad : Bool), CR W0 w g l bad → W0.heap.size ≤ b → b ≠ g → Tgt w b o Z → Cln l → lsz l ≤ N →
 Calls Tryz.prog F #[.pointer (some ⟨g, 0, none⟩), .pointer (some ⟨b, o, none⟩), V] w fun e w' => e = .returned (.tuple #[]) ∧ ReadR W0 w w' g b o C P l bad
abbrev ReadL (F : FuncId) (V : Value) (C : Cod) (P : FV → Prop) (Z : List Value) : Prop := ReadLN 1000000000 F V C P Z
theorem RSt.callL {C : Cod} {P : FV → Prop} {Z : List Value} {F : FuncId} {V : Value} {k N : Nat} (hF : ReadLN N F V C P Z) (hO : ∀ D ∈ Cs, Cod.Ok D) (hC : C.Ok) (hgi : gi < w.heap.size) (hgW : W0.heap.size ≤ b) (hbw : b < w.heap.size) (hne : b ≠ gi) (hZ : Z.length = C.sz) (hcm : Cln m) (hlm : lsz m ≤ N)
  (h : RSt W0 w wk gi b o bad0 Cs Ps (Z ++ Zr) m) (hk : o + csz Cs = k) :
  Calls Tryz.prog F #[.pointer (some ⟨gi, 0, none⟩), .pointer (some ⟨b, k, none⟩), V] wk fun e w' => e = .returned (.tuple #[]) ∧ RSt W0 w w' gi b o bad0 (Cs ++ [C]) (Ps ++ [P]) Zr m := by
 subst hk
 obtain ⟨hch, cs, hcl, hT, h1, hh⟩ := h
 have hTZ := (hT.right (k := o + csz Cs) (by omega)).left
 rcases hh with ⟨a, r, rfl, hfa, hCR, hrec⟩ | ⟨hno, l', hcl', hz', hCR⟩
 ·refine (hF W0 wk gi b (o + csz Cs) r bad0 hCR hgW hne hTZ (cln_app hcm) (Nat.le_trans (lsz_app _ _) hlm)).mono ?_
  rintro e w' ⟨rfl, hR⟩
  exact ⟨rfl, RSt.step hO hC hgi hbw hne hZ hch hcl hT h1 hR (cln_app hcm) (Or.inl ⟨a, rfl, hfa, rfl, hrec⟩)⟩
 ·refine (hF W0 wk gi b (o + csz Cs) l' true hCR hgW hne hTZ hcl' (Nat.le_trans hz' hlm)).mono ?_
  rintro e w' ⟨rfl, hR⟩
  exact ⟨rfl, RSt.step hO hC hgi hbw hne hZ hch hcl hT h1 hR hcl' (Or.inr ⟨hno, hz', rfl⟩)⟩
structure RIn (W0 w w1 : World) (g gi b o : Nat) (l : List FV) (bad : Bool) (m r0 : List FV) (b0 : Bool) : Prop where
 out : CR W0 w1 g r0 b0
 ch : Chg w w1 g b o o
 lo : w.heap.size ≤ gi
 gl : g < w.heap.size
 bl : b < w.heap.size
 bg : b ≠ g
 bW : W0.heap.size ≤ b
 gW : W0.heap.size ≤ g
 lt : gi < w1.heap.size
 cm : Cln m
 lm : lsz m ≤ 1000000000
 lm2 : m ≠ [] → lsz m < lsz l
 cl : Cln r0
 lz : lsz r0 ≤ lsz l
 how : (l = fL m :: r0 ∧ b0 = bad) ∨ (¬ (∃ f r, l = f :: r ∧ f.1 = 2) ∧ b0 = true)
theorem inner_rS {g : Nat} {l : List FV} {bad : Bool} {Z : List Value} (h : CR W0 w g l bad) (hb : W0.heap.size ≤ b) (hne : b ≠ g) (hT : Tgt w b o Z) (hc : Cln l) (hl : lsz l ≤ 1000000000) :
  Calls Tryz.prog 119 #[.pointer (some ⟨g, 0, none⟩)] w fun e w' => ∃ gi m r0 b0, e = .returned (.pointer (some ⟨gi, 0, none⟩)) ∧ RIn W0 w w' g gi b o l bad m r0 b0 ∧ RSt W0 w' w' gi b o false [] [] Z m := by
 refine (inner_r W0 w g l bad h hc hl).mono ?_
 rintro e w' ⟨gi, rfl, h1, h2, h3, hh⟩
 have hT1 := hT.grown h3 hne
 have hch : Chg w w' g b o o := Chg.of_grown h3 hT.lt hne
 rcases hh with ⟨m, r, rfl, hcm, hC, hI⟩ | ⟨hn, hC, hI⟩
 ·have hz : lsz (fL m :: r) = lsz m + lsz r + 1 := by rw [lsz_cons, fsz_fL]
  exact ⟨gi, m, r, bad, rfl, ⟨hC, hch, h1, h.lt, hT.lt, hne, hb, h.lo, h2, hcm, by omega, (fun _ => by omega), hc.head.2, by omega, Or.inl ⟨rfl, rfl⟩⟩, RSt.start hT1 hI⟩
 ·exact ⟨gi, [], l, true, rfl, ⟨hC, hch, h1, h.lt, hT.lt, hne, hb, h.lo, h2, trivial, by decide, (fun h => absurd rfl h), hc, Nat.le_refl _, Or.inr ⟨hn, rfl⟩⟩, RSt.start hT1 hI⟩
theorem RIn.fin {w1 w2 : World} {g : Nat} {l r0 : List FV} {bad b0 : Bool} (hI : RIn W0 w w1 g gi b o l bad m r0 b0) (hO : ∀ D ∈ Cs, Cod.Ok D) (hlen : Ps.length = Cs.length) (hS : RSt W0 w1 w2 gi b o false Cs Ps [] m) :
  ∃ li bi, CR W0 w2 g r0 b0 ∧ CR W0 w2 gi li bi ∧ ∀ w', w2.grownBy w' (some g) → CR W0 w' g r0 (b0 || (bi || !li.isEmpty)) → ReadR W0 w w' g b o (Cod.recd Cs) (fitR Ps) l bad := by
 obtain ⟨hch, cs, hcl, hT, h1, hh⟩ := hS
 have hgi : g ≠ gi := by have := hI.lo; have := hI.gl; omega
 have hbgi : b ≠ gi := by have := hI.lo; have := hI.bl; omega
 have hs1 := hI.ch.size
 have hgiW : W0.heap.size ≤ gi := by have := hI.lo; have := hI.gW; have := hI.gl; omega
 have hout : CR W0 w2 g r0 b0 := hI.out.chg hch hgi (fun e => hI.bg e.symm) hgiW hI.bW
 have hall : ∀ w', w2.grownBy w' (some g) → Chg w w' g b o (o + csz Cs) ∧ Tgt w' b o cs := fun w' hg => by
  have a1 : Chg w w1 g b o (o + csz Cs) := ⟨hI.ch.os, hI.ch.tape, hI.ch.output, hI.ch.size, hI.ch.block, fun x hx => hI.ch.out x (by omega), hI.ch.fr⟩
  have a2 := a1.trans hch (Or.inr hI.lo) (Nat.le_refl _) (Nat.le_refl _)
  have hb2 : b < w2.heap.size := Nat.lt_of_lt_of_le hI.bl a2.size
  exact ⟨a2.trans (Chg.of_grown (lo := o) (hi := o) hg hb2 hI.bg) (Or.inl rfl) (Nat.le_refl _) (by omega), (by rw [List.append_nil] at hT; exact hT.grown hg hI.bg)⟩
 rcases hh with ⟨a, r, rfl, hfa, hCR, hrec⟩ | ⟨hno, l', hcl', hz', hCR⟩
 ·refine ⟨r, false, hout, hCR, fun w' hg hC => ?_⟩
  obtain ⟨k1, k2⟩ := hall w' hg
  refine ⟨k1, cs, k2, hcl, h1, ?_⟩
  rcases hI.how with ⟨rfl, rfl⟩ | ⟨hn, rfl⟩
  ·cases r with
   | nil =>
    rw [List.append_nil]
    refine Or.inl ⟨_, r0, rfl, fitR_mk.2 hfa, by simpa using hC, a, rfl, ?_⟩
    exact hrec.map hO (fun p hp => World.cell?_of_block (hg.block _ hp.2 (fun e => by injection e with e; have := hp.1; have := hI.gl; omega))) (fun x hx => ⟨by have := hx.1; omega, Nat.lt_of_lt_of_le hx.2 hg.size⟩)
   | cons x r =>
    refine Or.inr ⟨?_, r0, hI.cl, hI.lz, by simpa using hC⟩
    rintro ⟨f, r', h, hf⟩
    injection h with h3 h4
    subst h3
    have := (fitR_mk.1 hf).len
    rw [List.length_append, hfa.len] at this
    simp at this
  ·refine Or.inr ⟨fun ⟨f, r', h, hf⟩ => hn ⟨f, r', h, hf.1⟩, r0, hI.cl, hI.lz, by simpa using hC⟩
 ·refine ⟨l', true, hout, hCR, fun w' hg hC => ?_⟩
  obtain ⟨k1, k2⟩ := hall w' hg
  refine ⟨k1, cs, k2, hcl, h1, Or.inr ⟨?_, r0, hI.cl, hI.lz, by simpa using hC⟩⟩
  rintro ⟨f, r', h, hf⟩
  rcases hI.how with ⟨rfl, rfl⟩ | ⟨hn, rfl⟩
  ·injection h with h3 h4
   subst h3
   exact hno ⟨m, [], by simp, fitR_mk.1 hf⟩
  ·exact hn ⟨f, r', h, hf.1⟩
end
end Go.Proofs.YtgdapkglofchjaaGreatDoor
