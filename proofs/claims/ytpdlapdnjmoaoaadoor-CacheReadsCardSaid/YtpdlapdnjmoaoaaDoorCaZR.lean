/- Cache: the document's Touch. -/
import Derived.Test.YtpdlapdnjmoaoaaDoorCaZ
import Derived.Test.YtpdlapdnjmoaoaaDoorCaR
namespace Go.Proofs.YtpdlapdnjmoaoaaDoor
open Go.RowKit
structure UIn (w wx : World) (z : Int) (A : Option Addr) (n c : Nat) (l : List Ent) (s : Scp) : Prop where
  seq : Seq wx w.heap.size 8 A n (entsC l)
  below : Below w.heap.size w wx
  size : w.heap.size + 3 ≤ wx.heap.size
  c0 : wx.cell? ⟨w.heap.size, 0, none⟩ = some (.int .i64 z)
  c1 : wx.cell? ⟨w.heap.size, 1, none⟩ = some (.slice A n c)
  s0 : wx.cell? ⟨w.heap.size + 1, 0, none⟩ = some (.string s.prj)
  s1 : wx.cell? ⟨w.heap.size + 1, 1, none⟩ = some (.int .i64 s.trust)
  s2 : wx.cell? ⟨w.heap.size + 1, 2, none⟩ = some (.string s.ref)
  r0 : wx.cell? ⟨w.heap.size + 2, 0, none⟩ = some (.int .i64 0)
  r1 : wx.cell? ⟨w.heap.size + 2, 1, none⟩ = some (.slice none 0 0)
  f2 : ∀ j, wx.frozen? ⟨w.heap.size + 2, j, none⟩ = false
theorem UIn.at {w wx wy : World} {z : Int} {A : Option Addr} {n c : Nat} {l : List Ent} {s : Scp} (h : UIn w wx z A n c l s) (hb : Below wx.heap.size wx wy) : UIn w wy z A n c l s := by
  have hs := h.size
  have k : ∀ g j, g < w.heap.size + 3 → wy.cell? ⟨g, j, none⟩ = wx.cell? ⟨g, j, none⟩ := fun g j hg => hb.cell (p := ⟨g, j, none⟩) (by show g < _; omega)
  exact ⟨h.seq.below (hb.mono h.below.size), h.below.trans (hb.mono h.below.size), Nat.le_trans h.size hb.size,
    (k _ _ (by omega)).trans h.c0, (k _ _ (by omega)).trans h.c1, (k _ _ (by omega)).trans h.s0, (k _ _ (by omega)).trans h.s1, (k _ _ (by omega)).trans h.s2, (k _ _ (by omega)).trans h.r0, (k _ _ (by omega)).trans h.r1,
    fun j => (hb.frozen (p := ⟨w.heap.size + 2, j, none⟩) (by show w.heap.size + 2 < _; omega)).trans (h.f2 j)⟩
theorem UIn.ret {w wx : World} {z : Int} {A : Option Addr} {n c : Nat} {l : List Ent} {s : Scp} (h : UIn w wx z A n c l s) (hn : n = l.length) (u v : Value) :
    RetC w z l (.returned (cval z A n c)) ((wx.setCell ⟨w.heap.size + 2, 0, none⟩ u).setCell ⟨w.heap.size + 2, 1, none⟩ v) := by
  have hb2 := (h.below.setCell (p := ⟨w.heap.size + 2, 0, none⟩) (by show w.heap.size ≤ w.heap.size + 2; omega) u).setCell (p := ⟨w.heap.size + 2, 1, none⟩) (by show w.heap.size ≤ w.heap.size + 2; omega) v
  refine ⟨A, n, c, rfl, hn, ?_, hb2⟩
  have := h.size
  exact (h.seq.keep (fun p hp => by rw [World.cell?_setCell_far _ _ _ _ (by show w.heap.size + 2 ≠ _; omega), World.cell?_setCell_far _ _ _ _ (by show w.heap.size + 2 ≠ _; omega)])).more (by simp [World.setCell]; omega)
set_option maxRecDepth 100000 in
set_option maxHeartbeats 8000000 in
theorem refTouch_any (z : Int) (l : List Ent) (s : Scp) (k : ByteArray) (now : Int) (A : Option Addr) (n c : Nat) (w : World) (hn : n = l.length) (hs : Seq w w.heap.size 8 A n (entsC l)) (hl : n ≤ 1000000) (hf : ∀ y ∈ l, y.fit) :
    Calls Tryd.prog 29 #[cval z A n c, .agg (pcells s), .string k, .int .i64 now] w (RetC w z (touchL z l s k now)) := by
  obtain ⟨w1, hw1⟩ : ∃ w1 : World, w1 = ((w.alloc (.cells #[.int .i64 z, .slice A n c] 24)).alloc (.cells (pcells s) 38)).alloc (.cells #[.int .i64 0, .slice none 0 0] 24) := ⟨_, rfl⟩
  have hb0 : Below w.heap.size w w1 := by rw [hw1]; exact (((Below.refl w.heap.size w).alloc (Nat.le_refl _) _).alloc (by simp) _).alloc (by simp; omega) _
  have hI : UIn w w1 z A n c l s := by
    refine ⟨hs.below hb0, hb0, by rw [hw1]; simp, ?_, ?_, ?_, ?_, ?_, ?_, ?_, ?_⟩
    · rw [hw1]; simp [go_sem]
    · rw [hw1]; simp [go_sem]
    · rw [hw1]; simp [go_sem]
    · rw [hw1]; simp [go_sem]
    · rw [hw1]; simp [go_sem]
    · rw [hw1]; simp [go_sem]
    · rw [hw1]; simp [go_sem]
    · intro j; rw [hw1]; simp [go_sem]
  have hfd := refFind_any s k l A n c w1 hn ((hs.below hb0).more hb0.size) (by omega)
  replace hw1 := Lib.hid hw1
  replace hn := Lib.hid hn
  replace hf := Lib.hid hf
  replace hfd := Lib.hid hfd
  replace hI := Lib.hid hI
  clear hs
  go_enter Tryd.func29, Tryd.ntmps29
  repeat' ((fail_if_success at_builtin); (first | go_skip | go_guarded | go_step))
  rw [← hw1.out]
  refine hfd.out.mono ?_
  rintro e w4 ⟨rfl, hb4⟩
  dsimp only
  replace hI := hI.out.at hb4
  clear hfd hb4 hb0 hw1
  have c0 := hI.c0
  have c1 := hI.c1
  have r0 := hI.r0
  have r1 := hI.r1
  have f20 := hI.f2 0
  have f21 := hI.f2 1
  have s0 := hI.s0
  have s1 := hI.s1
  have s2 := hI.s2
  have lz := hI.size
  have l0 : w.heap.size < w4.heap.size := by omega
  have l1 : w.heap.size + 1 < w4.heap.size := by omega
  have l2 : w.heap.size + 2 < w4.heap.size := by omega
  have hV := refValid_any z l A n c w4 hn.out (hI.seq.more (by omega)) (by omega) hf.out
  replace hV := Lib.hid hV
  replace hI := Lib.hid hI
  repeat' ((fail_if_success at_builtin); (first | go_skip | go_guarded | go_step))
  refine hV.out.mono ?_
  rintro e w5 ⟨rfl, hb5⟩
  dsimp only
  replace hI := hI.out.at hb5
  clear hV hb5 c0 c1 r0 r1 f20 f21 s0 s1 s2 lz l0 l1 l2
  have c0 := hI.c0
  have c1 := hI.c1
  have r0 := hI.r0
  have r1 := hI.r1
  have f20 := hI.f2 0
  have f21 := hI.f2 1
  have s0 := hI.s0
  have s1 := hI.s1
  have s2 := hI.s2
  have lz := hI.size
  have l0 : w.heap.size < w5.heap.size := by omega
  have l1 : w.heap.size + 1 < w5.heap.size := by omega
  have l2 : w.heap.size + 2 < w5.heap.size := by omega
  cases hv : validS z l with
  | false =>
    have hLf : touchL z l s k now = l := by unfold touchL tOk; rw [hv]; simp
    rw [show errV z l = 1 from errV_bad hv]
    replace hLf := Lib.hid hLf
    have hd := cells2 (u := .int .i64 z) (v := .slice A n c) hI.r0 hI.r1
    have hK := hI.ret hn.out (.int .i64 z) (.slice A n c)
    replace hK := Lib.hid hK
    replace hd := Lib.hid hd
    replace hI := Lib.hid hI
    repeat' ((fail_if_success at_builtin); (first | go_skip | go_guarded | go_step))
    replace hd := hd.out
    generalize (World.setCell (World.setCell w5 _ _) _ _) = wf at *
    obtain ⟨d0, d1⟩ := hd
    refine bodyPost_ret (v := cval z A n c) (by simp only [results, Tryd.results29]; go_simp; try first | rfl | exact ⟨rfl, rfl⟩) rfl ?_
    rw [hLf.out]
    exact hK.out
  | true =>
    rw [show errV z l = 0 from by unfold errV; rw [hv]; rfl]
    replace hI := Lib.hid hI
    repeat' ((fail_if_success at_builtin); (first | go_skip | go_guarded | go_step))
    refine (inside_any _ _ _ _).mono ?_
    rintro e w6 ⟨rfl, rfl⟩
    dsimp only
    replace hI := hI.out
    cases hT : inR now 0 1125899906842624 with
    | false =>
      have hLf : touchL z l s k now = l := by unfold touchL tOk; rw [hT]; simp
      replace hLf := Lib.hid hLf
      have hd := cells2 (u := .int .i64 z) (v := .slice A n c) hI.r0 hI.r1
      have hK := hI.ret hn.out (.int .i64 z) (.slice A n c)
      replace hK := Lib.hid hK
      replace hd := Lib.hid hd
      replace hI := Lib.hid hI
      repeat' ((fail_if_success at_builtin); (first | go_skip | go_guarded | go_step))
      replace hd := hd.out
      generalize (World.setCell (World.setCell w6 _ _) _ _) = wf at *
      obtain ⟨d0, d1⟩ := hd
      refine bodyPost_ret (v := cval z A n c) (by simp only [results, Tryd.results29]; go_simp; try first | rfl | exact ⟨rfl, rfl⟩) rfl ?_
      rw [hLf.out]
      exact hK.out
    | true =>
      by_cases hF : 0 ≤ findI s k l
      · have hFd : decide (0 ≤ findI s k l) = true := decide_eq_true hF
        obtain ⟨m, hm, hml⟩ := find_nat hF
        have hx : l[m]? = some l[m] := List.getElem?_eq_getElem hml
        have hLf : touchL z l s k now = l.set m (withU l[m] (max l[m].used now)) := by
          unfold touchL tOk
          rw [hFd, hv, hT, if_pos (by rfl), hm, Int.toNat_natCast]
          unfold setU
          rw [hx]
          rfl
        generalize l[m] = x at *
        have m0 : (0 : Int) ≤ (m : Int) := by omega
        have m1 : (m : Int) < (n : Int) := by have := hn.out; omega
        have hF2 : ¬ ((m : Int) < 0) := by omega
        have hsq := hI.seq
        have hby : (0 + n) * 88 ≤ 140737488355328 := by omega
        rw [hm]
        replace hLf := Lib.hid hLf
        replace hx := Lib.hid hx
        replace hI := Lib.hid hI
        clear hF hFd hm
        repeat' ((fail_if_success at_builtin); (first | go_skip | go_guarded | go_step))
        refine wp_appS (Own.nil_ w6 42 8) Tryd.underlying22 ent_info hsq (ents_one l) hby ?_
        intro v w7 ho hg
        rw [Nat.zero_add, List.nil_append] at ho
        obtain ⟨A2, c2, rfl⟩ := ho.slice_form
        replace hI := hI.out.at ho.2
        have lz6 : w.heap.size + 3 ≤ w6.heap.size := lz
        clear hg hsq c0 c1 r0 r1 f20 f21 s0 s1 s2 lz l0 l1 l2
        have c0 := hI.c0
        have c1 := hI.c1
        have r0 := hI.r0
        have r1 := hI.r1
        have f20 := hI.f2 0
        have f21 := hI.f2 1
        have s0 := hI.s0
        have s1 := hI.s1
        have s2 := hI.s2
        have lz := hI.size
        have l0 : w.heap.size < w7.heap.size := by omega
        have l1 : w.heap.size + 1 < w7.heap.size := by omega
        have l2 : w.heap.size + 2 < w7.heap.size := by omega
        obtain ⟨g, rfl, hgb, hgl, hgc, hgf⟩ := own_head' ho.1 (by have := hn.out; omega)
        have c7 := hgc _ _ (flat8 (x := x) (j := 7) (u := .int .i64 x.used) hx.out rfl)
        have cf := hgf (m * 8 + 7)
        have ho2 := ho.store hgb (m * 8 + 7) (.int .i64 (max x.used now))
        rw [← entsC_set l m x (max x.used now) hx.out] at ho2
        have hs3 := hI.size
        have hne : ¬ (g = w.heap.size) := by omega
        have hne3 : ¬ (g = w.heap.size + 2) := by omega
        replace ho2 := Lib.hid ho2
        replace hI := Lib.hid hI
        clear hgc hgf
        repeat' ((fail_if_success at_builtin); (first | go_skip | go_guarded | go_step))
        have hK : RetC w z (l.set m (withU x (max x.used now))) (.returned (cval z (some ⟨g, 0, none⟩) n c2)) (((w7.setCell ⟨g, m * 8 + 7, none⟩ (.int .i64 (max x.used now))).setCell ⟨w.heap.size + 2, 0, none⟩ (.int .i64 z)).setCell ⟨w.heap.size + 2, 1, none⟩ (.slice (some ⟨g, 0, none⟩) n c2)) := by
          refine ⟨some ⟨g, 0, none⟩, n, c2, rfl, by rw [List.length_set]; exact hn.out, ?_, ?_⟩
          · have := Seq.of_own (ownsRow_setCell_below (ownsRow_setCell_below ho2.out.1 (a := ⟨w.heap.size + 2, 0, none⟩) (by show w.heap.size + 2 < _; omega) (.int .i64 z)) (a := ⟨w.heap.size + 2, 1, none⟩) (by show w.heap.size + 2 < _; omega) (.slice (some ⟨g, 0, none⟩) n c2))
            exact this
          · exact ((hI.out.below.setCell (p := ⟨g, m * 8 + 7, none⟩) (by show w.heap.size ≤ g; omega) _).setCell (p := ⟨w.heap.size + 2, 0, none⟩) (by show w.heap.size ≤ w.heap.size + 2; omega) _).setCell (p := ⟨w.heap.size + 2, 1, none⟩) (by show w.heap.size ≤ w.heap.size + 2; omega) _
        have hd := cells2 (w := w7.setCell ⟨g, m * 8 + 7, none⟩ (.int .i64 (max x.used now))) (b := w.heap.size + 2) (u := .int .i64 z) (v := .slice (some ⟨g, 0, none⟩) n c2) ((World.cell?_setCell_far _ _ _ _ hne3).trans r0) ((World.cell?_setCell_far _ _ _ _ hne3).trans r1)
        generalize (World.setCell (World.setCell (World.setCell w7 _ _) _ _) _ _) = wf at *
        obtain ⟨d0, d1⟩ := hd
        refine bodyPost_ret (v := cval z (some ⟨g, 0, none⟩) n c2) (by simp only [results, Tryd.results29]; go_simp; try first | rfl | exact ⟨rfl, rfl⟩) rfl ?_
        rw [hLf.out]
        exact hK
      · have hLf : touchL z l s k now = l := by unfold touchL tOk; rw [decide_eq_false hF]; simp
        have hF2 : findI s k l < 0 := by omega
        replace hLf := Lib.hid hLf
        have hd := cells2 (u := .int .i64 z) (v := .slice A n c) hI.r0 hI.r1
        have hK := hI.ret hn.out (.int .i64 z) (.slice A n c)
        replace hK := Lib.hid hK
        replace hd := Lib.hid hd
        replace hI := Lib.hid hI
        repeat' ((fail_if_success at_builtin); (first | go_skip | go_guarded | go_step))
        replace hd := hd.out
        generalize (World.setCell (World.setCell w6 _ _) _ _) = wf at *
        obtain ⟨d0, d1⟩ := hd
        refine bodyPost_ret (v := cval z A n c) (by simp only [results, Tryd.results29]; go_simp; try first | rfl | exact ⟨rfl, rfl⟩) rfl ?_
        rw [hLf.out]
        exact hK.out
end Go.Proofs.YtpdlapdnjmoaoaaDoor
