/- Cache: Save: what it says; the program's walk. -/
import Derived.Test.YtpdlapdnjmoaoaaDoorCaW
namespace Go.Proofs.YtpdlapdnjmoaoaaDoor
open Go.RowKit
theorem cells2 {w : World} {b : Nat} {x y u v : Value} (h0 : w.cell? ⟨b, 0, none⟩ = some x) (h1 : w.cell? ⟨b, 1, none⟩ = some y) :
    ((w.setCell ⟨b, 0, none⟩ u).setCell ⟨b, 1, none⟩ v).cell? ⟨b, 0, none⟩ = some u ∧ ((w.setCell ⟨b, 0, none⟩ u).setCell ⟨b, 1, none⟩ v).cell? ⟨b, 1, none⟩ = some v := by
  refine ⟨?_, ?_⟩
  · rw [World.cell?_setCell_other (w.setCell ⟨b, 0, none⟩ u) _ _ _ (by simp), World.cell?_setCell_same w _ _ h0]
  · refine World.cell?_setCell_same (w.setCell ⟨b, 0, none⟩ u) _ _ (?_ : _ = some y)
    rw [World.cell?_setCell_other w _ _ _ (by simp)]; exact h1
theorem roomF_len : ∀ (k : Nat) (z s : Int) (l : List Ent), (roomF k z s l).length ≤ l.length
  | 0, _, _, _ => Nat.le_refl _
  | k + 1, z, s, l => by
    unfold roomF
    split
    · exact Nat.le_trans (roomF_len k z s _) (List.length_eraseIdx_le _ _)
    · exact Nat.le_refl _
def lastOk (l : List Ent) (now : Int) : Bool := match l.getLast? with
  | some y => !decide (now < y.created)
  | none => true
def saveE (z : Int) (l : List Ent) (x : Ent) (now : Int) : Int :=
  if !validS z l || !namedS x then 1
  else if !inR x.size 0 1099511627776 || !inR now 0 1125899906842624 then 2
  else if !lastOk l now then 22
  else if 0 ≤ findI x.sc x.key l then 7
  else if z < x.size then 15 else 0
def stamp (x : Ent) (now : Int) : Ent := { x with created := now, used := now }
def saveL (z : Int) (l : List Ent) (x : Ent) (now : Int) : List Ent := if saveE z l x now = 0 then roomS z x.size l ++ [stamp x now] else l
/-- what Save returns -/
def RetS (w : World) (z : Int) (l : List Ent) (r : Int) (e : Ending) (w' : World) : Prop := ∃ A n c, e = .returned (.tuple #[cval z A n c, .int .i64 r]) ∧ n = l.length ∧ Seq w' w'.heap.size 8 A n (entsC l) ∧ Below w.heap.size w w'
structure SInv (w wx : World) (z : Int) (A : Option Addr) (n c : Nat) (l : List Ent) (x : Ent) : Prop where
  own : wx.ownsRow (w.heap.size + 3) 42 8 (.slice A n c) n (entsC l)
  below : Below w.heap.size w wx
  size : w.heap.size + 3 ≤ wx.heap.size
  c0 : wx.cell? ⟨w.heap.size, 0, none⟩ = some (.int .i64 z)
  c1 : wx.cell? ⟨w.heap.size, 1, none⟩ = some (.slice A n c)
  x : CellsE wx (w.heap.size + 1) 0 x
  r0 : wx.cell? ⟨w.heap.size + 2, 0, none⟩ = some (.int .i64 0)
  r1 : wx.cell? ⟨w.heap.size + 2, 1, none⟩ = some (.slice none 0 0)
  f0 : ∀ j, wx.frozen? ⟨w.heap.size, j, none⟩ = false
  f2 : ∀ j, wx.frozen? ⟨w.heap.size + 2, j, none⟩ = false
theorem SInv.at {w wx wy : World} {z : Int} {A : Option Addr} {n c : Nat} {l : List Ent} {x : Ent} (h : SInv w wx z A n c l x) (hb : Below wx.heap.size wx wy) : SInv w wy z A n c l x := by
  have hs := h.size
  exact ⟨h.own.kept (row := none) (Below.grownB hb none) (by cases hv : (Value.slice A n c).ownBlock <;> simp), h.below.trans (hb.mono h.below.size), Nat.le_trans h.size hb.size,
    (hb.cell (p := ⟨w.heap.size, 0, none⟩) (by show w.heap.size < _; omega)).trans h.c0, (hb.cell (p := ⟨w.heap.size, 1, none⟩) (by show w.heap.size < _; omega)).trans h.c1,
    h.x.map (fun j => hb.cell (p := ⟨w.heap.size + 1, 0 + j, none⟩) (by show w.heap.size + 1 < _; omega)),
    (hb.cell (p := ⟨w.heap.size + 2, 0, none⟩) (by show w.heap.size + 2 < _; omega)).trans h.r0, (hb.cell (p := ⟨w.heap.size + 2, 1, none⟩) (by show w.heap.size + 2 < _; omega)).trans h.r1,
    fun j => (hb.frozen (p := ⟨w.heap.size, j, none⟩) (by show w.heap.size < _; omega)).trans (h.f0 j), fun j => (hb.frozen (p := ⟨w.heap.size + 2, j, none⟩) (by show w.heap.size + 2 < _; omega)).trans (h.f2 j)⟩
theorem SInv.ret {w wx : World} {z : Int} {A : Option Addr} {n c : Nat} {l : List Ent} {x : Ent} (h : SInv w wx z A n c l x) (hn : n = l.length) (r : Int) (u v : Value) :
    RetS w z l r (.returned (.tuple #[cval z A n c, .int .i64 r])) ((wx.setCell ⟨w.heap.size + 2, 0, none⟩ u).setCell ⟨w.heap.size + 2, 1, none⟩ v) := by
  refine ⟨A, n, c, rfl, hn, ?_, ?_⟩
  · exact Seq.of_own (ownsRow_setCell_below (ownsRow_setCell_below h.own (a := ⟨w.heap.size + 2, 0, none⟩) (by show w.heap.size + 2 < _; omega) u) (a := ⟨w.heap.size + 2, 1, none⟩) (by show w.heap.size + 2 < _; omega) v)
  · exact (h.below.setCell (p := ⟨w.heap.size + 2, 0, none⟩) (by show w.heap.size ≤ w.heap.size + 2; omega) u).setCell (p := ⟨w.heap.size + 2, 1, none⟩) (by show w.heap.size ≤ w.heap.size + 2; omega) v
theorem SInv.same {w wx wy : World} {z : Int} {A : Option Addr} {n c : Nat} {l : List Ent} {x : Ent} (h : SInv w wx z A n c l x) (he : wy = wx) : SInv w wy z A n c l x := he ▸ h
theorem valid_sizes {z : Int} {l : List Ent} (h : validS z l = true) : SizeOk l ∧ z ≤ 1099511627776 := by
  unfold validS at h
  simp only [Bool.and_eq_true, decide_eq_true_eq] at h
  obtain ⟨⟨⟨h1, h2⟩, h3⟩, _⟩ := h
  refine ⟨⟨h2, fun x hx => ?_⟩, by unfold inR at h1; simp at h1; exact h1.2⟩
  obtain ⟨i, hi, rfl⟩ := List.mem_iff_getElem.1 hx
  unfold allGood at h3
  rw [List.all_eq_true] at h3
  have := h3 i (List.mem_range.2 hi)
  rw [List.getElem?_eq_getElem hi] at this
  dsimp only at this
  unfold goodAt rightS inR at this
  simp only [Bool.and_eq_true, decide_eq_true_eq] at this
  exact this.1.1.1.1.2
set_option maxRecDepth 100000 in
set_option maxHeartbeats 8000000 in
theorem save_any (z : Int) (l : List Ent) (x : Ent) (now : Int) (A0 : Option Addr) (n c0 : Nat) (w : World) (hR : Ready w) (hn : n = l.length) (hs : Seq w w.heap.size 8 A0 n (entsC l)) (hl : n ≤ 1000000) (hf : ∀ y ∈ l, y.fit) (hx : x.fit) :
    Calls Tryd.prog 20 #[cval z A0 n c0, .agg (ent8 x), .int .i64 now] w (RetS w z (saveL z l x now) (saveE z l x now)) := by
  obtain ⟨w1, hw1⟩ : ∃ w1 : World, w1 = ((w.alloc (.cells #[.int .i64 z, .slice A0 n c0] 24)).alloc (.cells (ent8 x) 42)).alloc (.cells #[.int .i64 0, .slice none 0 0] 24) := ⟨_, rfl⟩
  have hb0 : Below w.heap.size w w1 := by rw [hw1]; exact (((Below.refl w.heap.size w).alloc (Nat.le_refl _) _).alloc (by simp) _).alloc (by simp; omega) _
  have hz1 : w1.heap.size = w.heap.size + 3 := by rw [hw1]; simp
  have z0 : w1.cell? ⟨w.heap.size, 0, none⟩ = some (.int .i64 z) := by rw [hw1]; simp [go_sem]
  have z1 : w1.cell? ⟨w.heap.size, 1, none⟩ = some (.slice A0 n c0) := by rw [hw1]; simp [go_sem]
  have zx : CellsE w1 (w.heap.size + 1) 0 x := by rw [hw1]; exact ⟨by simp [go_sem], by simp [go_sem], by simp [go_sem], by simp [go_sem], by simp [go_sem], by simp [go_sem], by simp [go_sem], by simp [go_sem]⟩
  have zr0 : w1.cell? ⟨w.heap.size + 2, 0, none⟩ = some (.int .i64 0) := by rw [hw1]; simp [go_sem]
  have zr1 : w1.cell? ⟨w.heap.size + 2, 1, none⟩ = some (.slice none 0 0) := by rw [hw1]; simp [go_sem]
  have zf0 : ∀ j, w1.frozen? ⟨w.heap.size, j, none⟩ = false := fun j => by rw [hw1]; simp [go_sem]
  have zf2 : ∀ j, w1.frozen? ⟨w.heap.size + 2, j, none⟩ = false := fun j => by rw [hw1]; simp [go_sem]
  have C := copied_any z l A0 n c0 w1 hn ((hs.below hb0).more hb0.size) hl
  replace C := Lib.hid C
  replace hw1 := Lib.hid hw1
  replace hn := Lib.hid hn
  replace hf := Lib.hid hf
  clear hs
  go_enter Tryd.func20, Tryd.ntmps20
  repeat' ((fail_if_success at_builtin); (first | go_skip | go_guarded | go_step))
  rw [← hw1.out]
  refine C.out.mono ?_
  rintro e w2 ⟨A, c, rfl, ho⟩
  dsimp only
  have hb2 := ho.2
  have y0 := (hb2.cell (p := ⟨w.heap.size, 0, none⟩) (by show w.heap.size < _; omega)).trans z0
  have y1 := (hb2.cell (p := ⟨w.heap.size, 1, none⟩) (by show w.heap.size < _; omega)).trans z1
  have yf := fun j => (hb2.frozen (p := ⟨w.heap.size, j, none⟩) (by show w.heap.size < _; omega)).trans (zf0 j)
  have lz2' : w.heap.size < w2.heap.size := by have := hb2.size; omega
  have hI : SInv w ((w2.setCell ⟨w.heap.size, 0, none⟩ (.int .i64 z)).setCell ⟨w.heap.size, 1, none⟩ (.slice A n c)) z A n c l x := by
    have hbw : Below w.heap.size w w2 := hb0.trans (hb2.mono hb0.size)
    obtain ⟨d0, d1⟩ := cells2 (u := .int .i64 z) (v := .slice A n c) y0 y1
    have far : ∀ p : Addr, p.block ≠ w.heap.size → ((w2.setCell ⟨w.heap.size, 0, none⟩ (.int .i64 z)).setCell ⟨w.heap.size, 1, none⟩ (.slice A n c)).cell? p = w2.cell? p := fun p hp => by rw [World.cell?_setCell_far _ _ _ _ (fun e => hp e.symm), World.cell?_setCell_far _ _ _ _ (fun e => hp e.symm)]
    refine ⟨?_, ?_, ?_, d0, d1, ?_, ?_, ?_, ?_, ?_⟩
    · have := ownsRow_setCell_below (ownsRow_setCell_below ho.1 (a := ⟨w.heap.size, 0, none⟩) (by show w.heap.size < _; omega) (.int .i64 z)) (a := ⟨w.heap.size, 1, none⟩) (by show w.heap.size < _; omega) (.slice A n c)
      rw [hz1, ← hn.out] at this
      exact this
    · exact (hbw.setCell (p := ⟨w.heap.size, 0, none⟩) (Nat.le_refl _) _).setCell (p := ⟨w.heap.size, 1, none⟩) (Nat.le_refl _) _
    · have := hb2.size
      simp [World.setCell]
      omega
    · exact zx.map (fun j => (far _ (by show w.heap.size + 1 ≠ _; omega)).trans (hb2.cell (by show w.heap.size + 1 < _; omega)))
    · exact (far _ (by show w.heap.size + 2 ≠ _; omega)).trans ((hb2.cell (by show w.heap.size + 2 < _; omega)).trans zr0)
    · exact (far _ (by show w.heap.size + 2 ≠ _; omega)).trans ((hb2.cell (by show w.heap.size + 2 < _; omega)).trans zr1)
    · intro j; rw [World.frozen?_setCell, World.frozen?_setCell]; exact yf j
    · intro j; rw [World.frozen?_setCell, World.frozen?_setCell]; exact (hb2.frozen (p := ⟨w.heap.size + 2, j, none⟩) (by show w.heap.size + 2 < _; omega)).trans (zf2 j)
  replace hI := Lib.hid hI
  clear C ho z0 z1 zx zr0 zr1 zf0 zf2 hb2 hb0 hz1 hw1
  have yf0 := yf 0
  have yf1 := yf 1
  repeat' ((fail_if_success at_builtin); (first | go_skip | go_guarded | go_step))
  generalize (w2.setCell ⟨w.heap.size, 0, none⟩ (.int .i64 z)).setCell ⟨w.heap.size, 1, none⟩ (.slice A n c) = w3 at *
  replace hI := hI.out
  clear y0 y1 yf yf0 yf1 lz2'
  have hV := valid_any z l A n c w3 (hR.below hI.below) hn.out (Seq.of_own hI.own) (by omega) hf.out
  refine hV.mono ?_
  rintro e w4 ⟨rfl, hb4⟩
  dsimp only
  replace hI := hI.at hb4
  clear hV hb4
  obtain ⟨b0, b1⟩ : w4.cell? ⟨w.heap.size, 0, none⟩ = some (.int .i64 z) ∧ w4.cell? ⟨w.heap.size, 1, none⟩ = some (.slice A n c) := ⟨hI.c0, hI.c1⟩
  obtain ⟨x0, x1, x2, x3, x4, x5, x6, x7⟩ := hI.x
  simp only [Nat.zero_add] at x1 x2 x3 x4 x5 x6 x7
  have r0 := hI.r0
  have r1 := hI.r1
  have f0 := hI.f0
  have f2 := hI.f2
  have hsz := hI.size
  have lz0 : w.heap.size < w4.heap.size := by omega
  have lz1 : w.heap.size + 1 < w4.heap.size := by omega
  have lz2 : w.heap.size + 2 < w4.heap.size := by omega
  cases hv : validS z l with
  | false =>
    have hev : errV z l = 1 := errV_bad hv
    rw [hev]
    have hE : saveE z l x now = 1 := by unfold saveE; rw [hv]; rfl
    have hK := hI.ret hn.out 1 (.int .i64 z) (.slice A n c)
    have hd := cells2 (u := .int .i64 z) (v := .slice A n c) r0 r1
    have hL : saveL z l x now = l := by unfold saveL; rw [hE, if_neg (by omega)]
    replace hE := Lib.hid hE
    replace hK := Lib.hid hK
    replace hL := Lib.hid hL
    clear hI
    repeat' ((fail_if_success at_builtin); (first | go_skip | go_guarded | go_step))
    generalize (w4.setCell ⟨w.heap.size + 2, 0, none⟩ (.int .i64 z)).setCell ⟨w.heap.size + 2, 1, none⟩ (.slice A n c) = wf at *
    obtain ⟨d0, d1⟩ := hd
    refine bodyPost_ret (v := .tuple #[cval z A n c, .int .i64 1]) (by simp only [results, Tryd.results20]; go_simp; try rfl) rfl ?_
    rw [hL.out, hE.out]
    exact hK.out
  | true =>
    have hev : errV z l = 0 := by unfold errV; rw [hv]; rfl
    rw [hev]
    obtain ⟨hok, hz40⟩ := valid_sizes hv
    have CN := named_any x w4 (hR.below hI.below) hx.p hx.r
    replace CN := Lib.hid CN
    replace hI := Lib.hid hI
    repeat' ((fail_if_success at_builtin); (first | go_skip | go_guarded | go_step))
    refine CN.out.mono ?_
    rintro e w5 ⟨rfl, hb5⟩
    dsimp only
    replace hI := hI.out.at hb5
    clear CN hb5 b0 b1 x0 x1 x2 x3 x4 x5 x6 x7 r0 r1 f0 f2
    obtain ⟨b0, b1⟩ : w5.cell? ⟨w.heap.size, 0, none⟩ = some (.int .i64 z) ∧ w5.cell? ⟨w.heap.size, 1, none⟩ = some (.slice A n c) := ⟨hI.c0, hI.c1⟩
    obtain ⟨x0, x1, x2, x3, x4, x5, x6, x7⟩ := hI.x
    simp only [Nat.zero_add] at x1 x2 x3 x4 x5 x6 x7
    have r0 := hI.r0
    have r1 := hI.r1
    have f0 := hI.f0
    have f2 := hI.f2
    have hsz := hI.size
    have lz0 : w.heap.size < w5.heap.size := by omega
    have lz1 : w.heap.size + 1 < w5.heap.size := by omega
    have lz2 : w.heap.size + 2 < w5.heap.size := by omega
    cases hN : namedS x with
    | false =>
      have hE : saveE z l x now = 1 := by unfold saveE; rw [hN]; simp
      have hK := hI.ret hn.out 1 (.int .i64 z) (.slice A n c)
      have hd := cells2 (u := .int .i64 z) (v := .slice A n c) r0 r1
      have hL : saveL z l x now = l := by unfold saveL; rw [hE, if_neg (by omega)]
      replace hE := Lib.hid hE
      replace hK := Lib.hid hK
      replace hL := Lib.hid hL
      clear hI
      repeat' ((fail_if_success at_builtin); (first | go_skip | go_guarded | go_step))
      generalize (w5.setCell ⟨w.heap.size + 2, 0, none⟩ (.int .i64 z)).setCell ⟨w.heap.size + 2, 1, none⟩ (.slice A n c) = wf at *
      obtain ⟨d0, d1⟩ := hd
      refine bodyPost_ret (v := .tuple #[cval z A n c, .int .i64 1]) (by simp only [results, Tryd.results20]; go_simp; try rfl) rfl ?_
      rw [hL.out, hE.out]
      exact hK.out
    | true =>
      replace hI := Lib.hid hI
      repeat' ((fail_if_success at_builtin); (first | go_skip | go_guarded | go_step))
      refine (within_any _ _ _ _).mono ?_
      rintro e w6 ⟨rfl, rfl⟩
      dsimp only
      replace hI := hI.out
      cases hZ : inR x.size 0 1099511627776 with
      | false =>
        have hE : saveE z l x now = 2 := by unfold saveE; rw [hv, hN, hZ]; rfl
        have hK := hI.ret hn.out 2 (.int .i64 z) (.slice A n c)
        have hd := cells2 (u := .int .i64 z) (v := .slice A n c) r0 r1
        have hL : saveL z l x now = l := by unfold saveL; rw [hE, if_neg (by omega)]
        replace hE := Lib.hid hE
        replace hK := Lib.hid hK
        replace hL := Lib.hid hL
        clear hI
        repeat' ((fail_if_success at_builtin); (first | go_skip | go_guarded | go_step))
        generalize (w6.setCell ⟨w.heap.size + 2, 0, none⟩ (.int .i64 z)).setCell ⟨w.heap.size + 2, 1, none⟩ (.slice A n c) = wf at *
        obtain ⟨d0, d1⟩ := hd
        refine bodyPost_ret (v := .tuple #[cval z A n c, .int .i64 2]) (by simp only [results, Tryd.results20]; go_simp; try rfl) rfl ?_
        rw [hL.out, hE.out]
        exact hK.out
      | true =>
        replace hI := Lib.hid hI
        repeat' ((fail_if_success at_builtin); (first | go_skip | go_guarded | go_step))
        refine (within_any _ _ _ _).mono ?_
        rintro e w7 ⟨rfl, rfl⟩
        dsimp only
        replace hI := hI.out
        cases hT : inR now 0 1125899906842624 with
        | false =>
          have hE : saveE z l x now = 2 := by unfold saveE; rw [hv, hN, hZ, hT]; rfl
          have hK := hI.ret hn.out 2 (.int .i64 z) (.slice A n c)
          have hd := cells2 (u := .int .i64 z) (v := .slice A n c) r0 r1
          have hL : saveL z l x now = l := by unfold saveL; rw [hE, if_neg (by omega)]
          replace hE := Lib.hid hE
          replace hK := Lib.hid hK
          replace hL := Lib.hid hL
          clear hI
          repeat' ((fail_if_success at_builtin); (first | go_skip | go_guarded | go_step))
          generalize (w7.setCell ⟨w.heap.size + 2, 0, none⟩ (.int .i64 z)).setCell ⟨w.heap.size + 2, 1, none⟩ (.slice A n c) = wf at *
          obtain ⟨d0, d1⟩ := hd
          refine bodyPost_ret (v := .tuple #[cval z A n c, .int .i64 2]) (by simp only [results, Tryd.results20]; go_simp; try rfl) rfl ?_
          rw [hL.out, hE.out]
          exact hK.out
        | true =>
          have hsq := Seq.of_own hI.own
          have hlo : ∀ k, n = k + 1 → ∃ (y : Ent) (b o : Nat), A = some ⟨b, o, none⟩ ∧ w7.cell? ⟨b, o + k * 8 + 6, none⟩ = some (.int .i64 y.created) ∧ lastOk l now = !decide (now < y.created) := by
            intro k hk
            have hkl : k < l.length := by have := hn.out; omega
            have hy : l[k]? = some l[k] := List.getElem?_eq_getElem hkl
            obtain ⟨b, o, rfl, _, hc⟩ := ent_at hsq hn.out hy
            refine ⟨l[k], b, o, rfl, hc.c6, ?_⟩
            unfold lastOk
            rw [List.getLast?_eq_getElem?, show l.length - 1 = k from by have := hn.out; omega, hy]
          have hl0 : n = 0 → lastOk l now = true := by
            intro h0
            have : l = [] := List.eq_nil_of_length_eq_zero (by have := hn.out; omega)
            subst this
            rfl
          cases n with
          | zero =>
            have hLk := hl0 rfl
            clear hlo hl0 hsq
            replace hLk := Lib.hid hLk
            have hfd := find_any x.sc x.key l A 0 c w7 hn.out (Seq.of_own hI.own) (by omega)
            replace hfd := Lib.hid hfd
            replace hI := Lib.hid hI
            repeat' ((fail_if_success at_builtin); (first | go_skip | go_guarded | go_step))
            refine hfd.out.mono ?_
            rintro e w8 ⟨rfl, hb8⟩
            dsimp only
            replace hI := hI.out.at hb8
            clear hfd hb8 b0 b1 x0 x1 x2 x3 x4 x5 x6 x7 r0 r1 f0 f2
            obtain ⟨b0, b1⟩ : w8.cell? ⟨w.heap.size, 0, none⟩ = some (.int .i64 z) ∧ w8.cell? ⟨w.heap.size, 1, none⟩ = some (.slice A 0 c) := ⟨hI.c0, hI.c1⟩
            obtain ⟨x0, x1, x2, x3, x4, x5, x6, x7⟩ := hI.x
            simp only [Nat.zero_add] at x1 x2 x3 x4 x5 x6 x7
            have r0 := hI.r0
            have r1 := hI.r1
            have f0 := hI.f0
            have f2 := hI.f2
            have hsz := hI.size
            have lz0 : w.heap.size < w8.heap.size := by omega
            have lz1 : w.heap.size + 1 < w8.heap.size := by omega
            have lz2 : w.heap.size + 2 < w8.heap.size := by omega
            by_cases hF : 0 ≤ findI x.sc x.key l
            · have hEf : saveE z l x now = 7 := by unfold saveE; rw [hv, hN, hZ, hT, hLk.out, if_pos hF]; rfl
              have hE : saveE z l x now = 7 := by exact hEf
              have hK := hI.ret hn.out 7 (.int .i64 z) (.slice A 0 c)
              have hd := cells2 (u := .int .i64 z) (v := .slice A 0 c) r0 r1
              have hL : saveL z l x now = l := by unfold saveL; rw [hE, if_neg (by omega)]
              replace hE := Lib.hid hE
              replace hK := Lib.hid hK
              replace hL := Lib.hid hL
              clear hI
              repeat' ((fail_if_success at_builtin); (first | go_skip | go_guarded | go_step))
              generalize (w8.setCell ⟨w.heap.size + 2, 0, none⟩ (.int .i64 z)).setCell ⟨w.heap.size + 2, 1, none⟩ (.slice A 0 c) = wf at *
              obtain ⟨d0, d1⟩ := hd
              refine bodyPost_ret (v := .tuple #[cval z A 0 c, .int .i64 7]) (by simp only [results, Tryd.results20]; go_simp; try rfl) rfl ?_
              rw [hL.out, hE.out]
              exact hK.out
            · by_cases hG : z < x.size
              · have hEf : saveE z l x now = 15 := by unfold saveE; rw [hv, hN, hZ, hT, hLk.out, if_neg hF, if_pos hG]; rfl
                have hE : saveE z l x now = 15 := by exact hEf
                have hK := hI.ret hn.out 15 (.int .i64 z) (.slice A 0 c)
                have hd := cells2 (u := .int .i64 z) (v := .slice A 0 c) r0 r1
                have hL : saveL z l x now = l := by unfold saveL; rw [hE, if_neg (by omega)]
                replace hE := Lib.hid hE
                replace hK := Lib.hid hK
                replace hL := Lib.hid hL
                clear hI
                repeat' ((fail_if_success at_builtin); (first | go_skip | go_guarded | go_step))
                generalize (w8.setCell ⟨w.heap.size + 2, 0, none⟩ (.int .i64 z)).setCell ⟨w.heap.size + 2, 1, none⟩ (.slice A 0 c) = wf at *
                obtain ⟨d0, d1⟩ := hd
                refine bodyPost_ret (v := .tuple #[cval z A 0 c, .int .i64 15]) (by simp only [results, Tryd.results20]; go_simp; try rfl) rfl ?_
                rw [hL.out, hE.out]
                exact hK.out
              · have hEf : saveE z l x now = 0 := by unfold saveE; rw [hv, hN, hZ, hT, hLk.out, if_neg hF, if_neg hG]; rfl
                have hxs : 0 ≤ x.size := by unfold inR at hZ; simp at hZ; exact hZ.1
                have C := room_any z x.size l (w.heap.size + 3) w.heap.size 0 c A w8 hI.own hn.out (by omega) hI.size hI.c0 hI.c1 hI.f0 hok hxs (by omega) hz40
                have hlr : (roomS z x.size l).length ≤ l.length := roomF_len _ _ _ _
                have hLf : saveL z l x now = roomS z x.size l ++ [stamp x now] := by unfold saveL; rw [hEf, if_pos rfl]
                generalize roomS z x.size l = l2 at *
                replace hEf := Lib.hid hEf
                replace hLf := Lib.hid hLf
                have hl1024 := hok.len
                have hbel := hI.below
                have hxc := hI.x
                replace C := Lib.hid C
                clear hI
                repeat' ((fail_if_success at_builtin); (first | go_skip | go_guarded | go_step))
                refine C.out.mono ?_
                rintro e w9 ⟨rfl, A2, n2, c2, hn2, ho2, d0, d1, hf9, hkb⟩
                dsimp only
                have hs9 := hkb.size
                have g0 := (hkb.cell (p := ⟨w.heap.size + 1, 0, none⟩) (by show w.heap.size + 1 < _; omega) (by show w.heap.size + 1 ≠ _; omega)).trans x0
                have g1 := (hkb.cell (p := ⟨w.heap.size + 1, 1, none⟩) (by show w.heap.size + 1 < _; omega) (by show w.heap.size + 1 ≠ _; omega)).trans x1
                have g2 := (hkb.cell (p := ⟨w.heap.size + 1, 2, none⟩) (by show w.heap.size + 1 < _; omega) (by show w.heap.size + 1 ≠ _; omega)).trans x2
                have g3 := (hkb.cell (p := ⟨w.heap.size + 1, 3, none⟩) (by show w.heap.size + 1 < _; omega) (by show w.heap.size + 1 ≠ _; omega)).trans x3
                have g4 := (hkb.cell (p := ⟨w.heap.size + 1, 4, none⟩) (by show w.heap.size + 1 < _; omega) (by show w.heap.size + 1 ≠ _; omega)).trans x4
                have g5 := (hkb.cell (p := ⟨w.heap.size + 1, 5, none⟩) (by show w.heap.size + 1 < _; omega) (by show w.heap.size + 1 ≠ _; omega)).trans x5
                have g6 := (hkb.cell (p := ⟨w.heap.size + 1, 6, none⟩) (by show w.heap.size + 1 < _; omega) (by show w.heap.size + 1 ≠ _; omega)).trans x6
                have g7 := (hkb.cell (p := ⟨w.heap.size + 1, 7, none⟩) (by show w.heap.size + 1 < _; omega) (by show w.heap.size + 1 ≠ _; omega)).trans x7
                have q0 := (hkb.cell (p := ⟨w.heap.size + 2, 0, none⟩) (by show w.heap.size + 2 < _; omega) (by show w.heap.size + 2 ≠ _; omega)).trans r0
                have q1 := (hkb.cell (p := ⟨w.heap.size + 2, 1, none⟩) (by show w.heap.size + 2 < _; omega) (by show w.heap.size + 2 ≠ _; omega)).trans r1
                have qf := fun j => (hkb.frozen (p := ⟨w.heap.size + 2, j, none⟩) (by show w.heap.size + 2 < _; omega) (by show w.heap.size + 2 ≠ _; omega)).trans (f2 j)
                have hbel9 : Below w.heap.size w w9 := hbel.trans (hkb.toBelow (Nat.le_refl _) (by omega))
                obtain ⟨W0, hW0, hO⟩ := own_any ho2 (by omega)
                have hby : (n2 + 1) * 88 ≤ 140737488355328 := by have := hn.out; omega
                have l90 : w.heap.size < w9.heap.size := by omega
                have l91 : w.heap.size + 1 < w9.heap.size := by omega
                replace hn2 := Lib.hid hn2
                clear C hkb ho2 b0 b1 x0 x1 x2 x3 x4 x5 x6 x7 r0 r1 f0 f2 hxc hbel
                repeat' ((fail_if_success at_builtin); (first | go_skip | go_guarded | go_step))
                refine wp_app1 hO Tryd.underlying22 ent_info hby ?_
                intro v w10 hO10 hg10
                obtain ⟨A3, c3, rfl⟩ := hO10.slice_form
                have far : ∀ p : Addr, p.block < w.heap.size + 3 → w10.cell? p = w9.cell? p := fun p hp => (hg10.cell (by simp; omega) (hO.old (by rw [hW0]; exact hp))).trans (((Below.refl w9.heap.size w9).alloc (Nat.le_refl _) _).cell (by omega))
                have farf : ∀ p : Addr, p.block < w.heap.size + 3 → w10.frozen? p = w9.frozen? p := fun p hp => (hg10.frozen (by simp; omega) (hO.old (by rw [hW0]; exact hp))).trans (((Below.refl w9.heap.size w9).alloc (Nat.le_refl _) _).frozen (by omega))
                have hs10 : w9.heap.size ≤ w10.heap.size := by have := hg10.by_.size; simp at this; omega
                have h10 : Below w.heap.size w w10 := hbel9.trans ⟨hg10.by_.os, hg10.by_.tape, hg10.by_.output, hs10, fun k hk => (hg10.by_.block k (by simp; omega) (hO.old (by rw [hW0]; omega))).trans (((Below.refl w9.heap.size w9).alloc (Nat.le_refl _) _).block k (by omega))⟩
                have hI11 : SInv w (w10.setCell ⟨w.heap.size, 1, none⟩ (.slice A3 (n2 + 1) c3)) z A3 (n2 + 1) c3 (l2 ++ [stamp x now]) x := by
                  have fr : ∀ p : Addr, p.block ≠ w.heap.size → (w10.setCell ⟨w.heap.size, 1, none⟩ (.slice A3 (n2 + 1) c3)).cell? p = w10.cell? p := fun p hp => World.cell?_setCell_far _ _ _ _ (fun e => hp e.symm)
                  refine ⟨?_, ?_, ?_, ?_, ?_, ?_, ?_, ?_, ?_, ?_⟩
                  · have := ownsRow_setCell_below hO10.1 (a := ⟨w.heap.size, 1, none⟩) (by show w.heap.size < _; omega) (.slice A3 (n2 + 1) c3)
                    rw [hW0] at this
                    rw [entsC_app]
                    exact this
                  · exact h10.setCell (p := ⟨w.heap.size, 1, none⟩) (Nat.le_refl _) _
                  · simp [World.setCell]; omega
                  · rw [World.cell?_setCell_other w10 _ _ _ (by simp)]; exact (far _ (by show w.heap.size < _; omega)).trans d0
                  · exact World.cell?_setCell_same w10 _ _ ((far _ (by show w.heap.size < _; omega)).trans d1)
                  · have fx : ∀ j, (w10.setCell ⟨w.heap.size, 1, none⟩ (.slice A3 (n2 + 1) c3)).cell? ⟨w.heap.size + 1, j, none⟩ = w9.cell? ⟨w.heap.size + 1, j, none⟩ := fun j => (fr ⟨w.heap.size + 1, j, none⟩ (by show w.heap.size + 1 ≠ _; omega)).trans (far _ (by show w.heap.size + 1 < _; omega))
                    exact ⟨(fx 0).trans g0, (fx 1).trans g1, (fx 2).trans g2, (fx 3).trans g3, (fx 4).trans g4, (fx 5).trans g5, (fx 6).trans g6, (fx 7).trans g7⟩
                  · exact (fr _ (by show w.heap.size + 2 ≠ _; omega)).trans ((far _ (by show w.heap.size + 2 < _; omega)).trans q0)
                  · exact (fr _ (by show w.heap.size + 2 ≠ _; omega)).trans ((far _ (by show w.heap.size + 2 < _; omega)).trans q1)
                  · intro j; rw [World.frozen?_setCell]; exact (farf _ (by show w.heap.size < _; omega)).trans (hf9 j)
                  · intro j; rw [World.frozen?_setCell]; exact (farf _ (by show w.heap.size + 2 < _; omega)).trans (qf j)
                have t0 := (far ⟨w.heap.size, 0, none⟩ (by show w.heap.size < _; omega)).trans d0
                have t1 := (far ⟨w.heap.size, 1, none⟩ (by show w.heap.size < _; omega)).trans d1
                have tf := (farf ⟨w.heap.size, 1, none⟩ (by show w.heap.size < _; omega)).trans (hf9 1)
                have tl : w.heap.size < w10.heap.size := by omega
                have hlen : n2 + 1 = (l2 ++ [stamp x now]).length := by rw [List.length_append, hn2.out]; rfl
                have u0 := (far ⟨w.heap.size + 2, 0, none⟩ (by show w.heap.size + 2 < _; omega)).trans q0
                have u1 := (far ⟨w.heap.size + 2, 1, none⟩ (by show w.heap.size + 2 < _; omega)).trans q1
                have uf0 := (farf ⟨w.heap.size + 2, 0, none⟩ (by show w.heap.size + 2 < _; omega)).trans (qf 0)
                have uf1 := (farf ⟨w.heap.size + 2, 1, none⟩ (by show w.heap.size + 2 < _; omega)).trans (qf 1)
                have ul : w.heap.size + 2 < w10.heap.size := by omega
                have hd := cells2 (u := .int .i64 z) (v := .slice A3 (n2 + 1) c3) hI11.r0 hI11.r1
                have hK := hI11.ret hlen 0 (.int .i64 z) (.slice A3 (n2 + 1) c3)
                replace hK := Lib.hid hK
                replace hd := Lib.hid hd
                clear far farf h10 hO10 hg10 hO d0 d1 hf9 g0 g1 g2 g3 g4 g5 g6 g7 q0 q1 qf hbel9 hI11 hlen
                repeat' ((fail_if_success at_builtin); (first | go_skip | go_guarded | go_step))
                replace hd := hd.out
                generalize (World.setCell (World.setCell (World.setCell w10 _ _) _ _) _ _) = wf at *
                obtain ⟨d0, d1⟩ := hd
                refine bodyPost_ret (v := .tuple #[cval z A3 (n2 + 1) c3, .int .i64 0]) (by simp only [results, Tryd.results20]; go_simp; try rfl) rfl ?_
                rw [hLf.out, hEf.out]
                exact hK.out
          | succ k =>
            obtain ⟨y, b, o, rfl, hyc, hlk⟩ := hlo k rfl
            have s0 : (0 : Int) < (k : Int) + 1 := by omega
            have s1 : IntKind.i64.wrap ((k : Int) + 1 - 1) = (k : Int) := by rw [show (k : Int) + 1 - 1 = (k : Int) from by omega]; exact IntWalk.i64_in _ (by omega)
            have s2 : IntKind.i64.wrap (k : Int) = (k : Int) := IntWalk.i64_in _ (by omega)
            have s3 : (0 : Int) ≤ (k : Int) := by omega
            have s4 : (k : Int) < (k : Int) + 1 := by omega
            clear hlo hl0 hsq
            by_cases hlt : now < y.created
            · have hLk : lastOk l now = false := by rw [hlk, decide_eq_true hlt]; rfl
              clear hlk
              have hE : saveE z l x now = 22 := by unfold saveE; rw [hv, hN, hZ, hT, hLk]; rfl
              have hK := hI.ret hn.out 22 (.int .i64 z) (.slice (some ⟨b, o, none⟩) (k + 1) c)
              have hd := cells2 (u := .int .i64 z) (v := .slice (some ⟨b, o, none⟩) (k + 1) c) r0 r1
              have hL : saveL z l x now = l := by unfold saveL; rw [hE, if_neg (by omega)]
              replace hE := Lib.hid hE
              replace hK := Lib.hid hK
              replace hL := Lib.hid hL
              clear hI
              repeat' ((fail_if_success at_builtin); (first | go_skip | go_guarded | go_step))
              generalize (w7.setCell ⟨w.heap.size + 2, 0, none⟩ (.int .i64 z)).setCell ⟨w.heap.size + 2, 1, none⟩ (.slice (some ⟨b, o, none⟩) (k + 1) c) = wf at *
              obtain ⟨d0, d1⟩ := hd
              refine bodyPost_ret (v := .tuple #[cval z (some ⟨b, o, none⟩) (k + 1) c, .int .i64 22]) (by simp only [results, Tryd.results20]; go_simp; try rfl) rfl ?_
              rw [hL.out, hE.out]
              exact hK.out
            · have hLk : lastOk l now = true := by rw [hlk, decide_eq_false hlt]; rfl
              clear hlk
              replace hLk := Lib.hid hLk
              have hfd := find_any x.sc x.key l (some ⟨b, o, none⟩) (k + 1) c w7 hn.out (Seq.of_own hI.own) (by omega)
              replace hfd := Lib.hid hfd
              replace hI := Lib.hid hI
              repeat' ((fail_if_success at_builtin); (first | go_skip | go_guarded | go_step))
              refine hfd.out.mono ?_
              rintro e w8 ⟨rfl, hb8⟩
              dsimp only
              replace hI := hI.out.at hb8
              clear hfd hb8 b0 b1 x0 x1 x2 x3 x4 x5 x6 x7 r0 r1 f0 f2
              obtain ⟨b0, b1⟩ : w8.cell? ⟨w.heap.size, 0, none⟩ = some (.int .i64 z) ∧ w8.cell? ⟨w.heap.size, 1, none⟩ = some (.slice (some ⟨b, o, none⟩) (k + 1) c) := ⟨hI.c0, hI.c1⟩
              obtain ⟨x0, x1, x2, x3, x4, x5, x6, x7⟩ := hI.x
              simp only [Nat.zero_add] at x1 x2 x3 x4 x5 x6 x7
              have r0 := hI.r0
              have r1 := hI.r1
              have f0 := hI.f0
              have f2 := hI.f2
              have hsz := hI.size
              have lz0 : w.heap.size < w8.heap.size := by omega
              have lz1 : w.heap.size + 1 < w8.heap.size := by omega
              have lz2 : w.heap.size + 2 < w8.heap.size := by omega
              by_cases hF : 0 ≤ findI x.sc x.key l
              · have hEf : saveE z l x now = 7 := by unfold saveE; rw [hv, hN, hZ, hT, hLk.out, if_pos hF]; rfl
                have hE : saveE z l x now = 7 := by exact hEf
                have hK := hI.ret hn.out 7 (.int .i64 z) (.slice (some ⟨b, o, none⟩) (k + 1) c)
                have hd := cells2 (u := .int .i64 z) (v := .slice (some ⟨b, o, none⟩) (k + 1) c) r0 r1
                have hL : saveL z l x now = l := by unfold saveL; rw [hE, if_neg (by omega)]
                replace hE := Lib.hid hE
                replace hK := Lib.hid hK
                replace hL := Lib.hid hL
                clear hI
                repeat' ((fail_if_success at_builtin); (first | go_skip | go_guarded | go_step))
                generalize (w8.setCell ⟨w.heap.size + 2, 0, none⟩ (.int .i64 z)).setCell ⟨w.heap.size + 2, 1, none⟩ (.slice (some ⟨b, o, none⟩) (k + 1) c) = wf at *
                obtain ⟨d0, d1⟩ := hd
                refine bodyPost_ret (v := .tuple #[cval z (some ⟨b, o, none⟩) (k + 1) c, .int .i64 7]) (by simp only [results, Tryd.results20]; go_simp; try rfl) rfl ?_
                rw [hL.out, hE.out]
                exact hK.out
              · by_cases hG : z < x.size
                · have hEf : saveE z l x now = 15 := by unfold saveE; rw [hv, hN, hZ, hT, hLk.out, if_neg hF, if_pos hG]; rfl
                  have hE : saveE z l x now = 15 := by exact hEf
                  have hK := hI.ret hn.out 15 (.int .i64 z) (.slice (some ⟨b, o, none⟩) (k + 1) c)
                  have hd := cells2 (u := .int .i64 z) (v := .slice (some ⟨b, o, none⟩) (k + 1) c) r0 r1
                  have hL : saveL z l x now = l := by unfold saveL; rw [hE, if_neg (by omega)]
                  replace hE := Lib.hid hE
                  replace hK := Lib.hid hK
                  replace hL := Lib.hid hL
                  clear hI
                  repeat' ((fail_if_success at_builtin); (first | go_skip | go_guarded | go_step))
                  generalize (w8.setCell ⟨w.heap.size + 2, 0, none⟩ (.int .i64 z)).setCell ⟨w.heap.size + 2, 1, none⟩ (.slice (some ⟨b, o, none⟩) (k + 1) c) = wf at *
                  obtain ⟨d0, d1⟩ := hd
                  refine bodyPost_ret (v := .tuple #[cval z (some ⟨b, o, none⟩) (k + 1) c, .int .i64 15]) (by simp only [results, Tryd.results20]; go_simp; try rfl) rfl ?_
                  rw [hL.out, hE.out]
                  exact hK.out
                · have hEf : saveE z l x now = 0 := by unfold saveE; rw [hv, hN, hZ, hT, hLk.out, if_neg hF, if_neg hG]; rfl
                  have hxs : 0 ≤ x.size := by unfold inR at hZ; simp at hZ; exact hZ.1
                  have C := room_any z x.size l (w.heap.size + 3) w.heap.size (k + 1) c (some ⟨b, o, none⟩) w8 hI.own hn.out (by omega) hI.size hI.c0 hI.c1 hI.f0 hok hxs (by omega) hz40
                  have hlr : (roomS z x.size l).length ≤ l.length := roomF_len _ _ _ _
                  have hLf : saveL z l x now = roomS z x.size l ++ [stamp x now] := by unfold saveL; rw [hEf, if_pos rfl]
                  generalize roomS z x.size l = l2 at *
                  replace hEf := Lib.hid hEf
                  replace hLf := Lib.hid hLf
                  have hl1024 := hok.len
                  have hbel := hI.below
                  have hxc := hI.x
                  replace C := Lib.hid C
                  clear hI
                  repeat' ((fail_if_success at_builtin); (first | go_skip | go_guarded | go_step))
                  refine C.out.mono ?_
                  rintro e w9 ⟨rfl, A2, n2, c2, hn2, ho2, d0, d1, hf9, hkb⟩
                  dsimp only
                  have hs9 := hkb.size
                  have g0 := (hkb.cell (p := ⟨w.heap.size + 1, 0, none⟩) (by show w.heap.size + 1 < _; omega) (by show w.heap.size + 1 ≠ _; omega)).trans x0
                  have g1 := (hkb.cell (p := ⟨w.heap.size + 1, 1, none⟩) (by show w.heap.size + 1 < _; omega) (by show w.heap.size + 1 ≠ _; omega)).trans x1
                  have g2 := (hkb.cell (p := ⟨w.heap.size + 1, 2, none⟩) (by show w.heap.size + 1 < _; omega) (by show w.heap.size + 1 ≠ _; omega)).trans x2
                  have g3 := (hkb.cell (p := ⟨w.heap.size + 1, 3, none⟩) (by show w.heap.size + 1 < _; omega) (by show w.heap.size + 1 ≠ _; omega)).trans x3
                  have g4 := (hkb.cell (p := ⟨w.heap.size + 1, 4, none⟩) (by show w.heap.size + 1 < _; omega) (by show w.heap.size + 1 ≠ _; omega)).trans x4
                  have g5 := (hkb.cell (p := ⟨w.heap.size + 1, 5, none⟩) (by show w.heap.size + 1 < _; omega) (by show w.heap.size + 1 ≠ _; omega)).trans x5
                  have g6 := (hkb.cell (p := ⟨w.heap.size + 1, 6, none⟩) (by show w.heap.size + 1 < _; omega) (by show w.heap.size + 1 ≠ _; omega)).trans x6
                  have g7 := (hkb.cell (p := ⟨w.heap.size + 1, 7, none⟩) (by show w.heap.size + 1 < _; omega) (by show w.heap.size + 1 ≠ _; omega)).trans x7
                  have q0 := (hkb.cell (p := ⟨w.heap.size + 2, 0, none⟩) (by show w.heap.size + 2 < _; omega) (by show w.heap.size + 2 ≠ _; omega)).trans r0
                  have q1 := (hkb.cell (p := ⟨w.heap.size + 2, 1, none⟩) (by show w.heap.size + 2 < _; omega) (by show w.heap.size + 2 ≠ _; omega)).trans r1
                  have qf := fun j => (hkb.frozen (p := ⟨w.heap.size + 2, j, none⟩) (by show w.heap.size + 2 < _; omega) (by show w.heap.size + 2 ≠ _; omega)).trans (f2 j)
                  have hbel9 : Below w.heap.size w w9 := hbel.trans (hkb.toBelow (Nat.le_refl _) (by omega))
                  obtain ⟨W0, hW0, hO⟩ := own_any ho2 (by omega)
                  have hby : (n2 + 1) * 88 ≤ 140737488355328 := by have := hn.out; omega
                  have l90 : w.heap.size < w9.heap.size := by omega
                  have l91 : w.heap.size + 1 < w9.heap.size := by omega
                  replace hn2 := Lib.hid hn2
                  clear C hkb ho2 b0 b1 x0 x1 x2 x3 x4 x5 x6 x7 r0 r1 f0 f2 hxc hbel
                  repeat' ((fail_if_success at_builtin); (first | go_skip | go_guarded | go_step))
                  refine wp_app1 hO Tryd.underlying22 ent_info hby ?_
                  intro v w10 hO10 hg10
                  obtain ⟨A3, c3, rfl⟩ := hO10.slice_form
                  have far : ∀ p : Addr, p.block < w.heap.size + 3 → w10.cell? p = w9.cell? p := fun p hp => (hg10.cell (by simp; omega) (hO.old (by rw [hW0]; exact hp))).trans (((Below.refl w9.heap.size w9).alloc (Nat.le_refl _) _).cell (by omega))
                  have farf : ∀ p : Addr, p.block < w.heap.size + 3 → w10.frozen? p = w9.frozen? p := fun p hp => (hg10.frozen (by simp; omega) (hO.old (by rw [hW0]; exact hp))).trans (((Below.refl w9.heap.size w9).alloc (Nat.le_refl _) _).frozen (by omega))
                  have hs10 : w9.heap.size ≤ w10.heap.size := by have := hg10.by_.size; simp at this; omega
                  have h10 : Below w.heap.size w w10 := hbel9.trans ⟨hg10.by_.os, hg10.by_.tape, hg10.by_.output, hs10, fun k hk => (hg10.by_.block k (by simp; omega) (hO.old (by rw [hW0]; omega))).trans (((Below.refl w9.heap.size w9).alloc (Nat.le_refl _) _).block k (by omega))⟩
                  have hI11 : SInv w (w10.setCell ⟨w.heap.size, 1, none⟩ (.slice A3 (n2 + 1) c3)) z A3 (n2 + 1) c3 (l2 ++ [stamp x now]) x := by
                    have fr : ∀ p : Addr, p.block ≠ w.heap.size → (w10.setCell ⟨w.heap.size, 1, none⟩ (.slice A3 (n2 + 1) c3)).cell? p = w10.cell? p := fun p hp => World.cell?_setCell_far _ _ _ _ (fun e => hp e.symm)
                    refine ⟨?_, ?_, ?_, ?_, ?_, ?_, ?_, ?_, ?_, ?_⟩
                    · have := ownsRow_setCell_below hO10.1 (a := ⟨w.heap.size, 1, none⟩) (by show w.heap.size < _; omega) (.slice A3 (n2 + 1) c3)
                      rw [hW0] at this
                      rw [entsC_app]
                      exact this
                    · exact h10.setCell (p := ⟨w.heap.size, 1, none⟩) (Nat.le_refl _) _
                    · simp [World.setCell]; omega
                    · rw [World.cell?_setCell_other w10 _ _ _ (by simp)]; exact (far _ (by show w.heap.size < _; omega)).trans d0
                    · exact World.cell?_setCell_same w10 _ _ ((far _ (by show w.heap.size < _; omega)).trans d1)
                    · have fx : ∀ j, (w10.setCell ⟨w.heap.size, 1, none⟩ (.slice A3 (n2 + 1) c3)).cell? ⟨w.heap.size + 1, j, none⟩ = w9.cell? ⟨w.heap.size + 1, j, none⟩ := fun j => (fr ⟨w.heap.size + 1, j, none⟩ (by show w.heap.size + 1 ≠ _; omega)).trans (far _ (by show w.heap.size + 1 < _; omega))
                      exact ⟨(fx 0).trans g0, (fx 1).trans g1, (fx 2).trans g2, (fx 3).trans g3, (fx 4).trans g4, (fx 5).trans g5, (fx 6).trans g6, (fx 7).trans g7⟩
                    · exact (fr _ (by show w.heap.size + 2 ≠ _; omega)).trans ((far _ (by show w.heap.size + 2 < _; omega)).trans q0)
                    · exact (fr _ (by show w.heap.size + 2 ≠ _; omega)).trans ((far _ (by show w.heap.size + 2 < _; omega)).trans q1)
                    · intro j; rw [World.frozen?_setCell]; exact (farf _ (by show w.heap.size < _; omega)).trans (hf9 j)
                    · intro j; rw [World.frozen?_setCell]; exact (farf _ (by show w.heap.size + 2 < _; omega)).trans (qf j)
                  have t0 := (far ⟨w.heap.size, 0, none⟩ (by show w.heap.size < _; omega)).trans d0
                  have t1 := (far ⟨w.heap.size, 1, none⟩ (by show w.heap.size < _; omega)).trans d1
                  have tf := (farf ⟨w.heap.size, 1, none⟩ (by show w.heap.size < _; omega)).trans (hf9 1)
                  have tl : w.heap.size < w10.heap.size := by omega
                  have hlen : n2 + 1 = (l2 ++ [stamp x now]).length := by rw [List.length_append, hn2.out]; rfl
                  have u0 := (far ⟨w.heap.size + 2, 0, none⟩ (by show w.heap.size + 2 < _; omega)).trans q0
                  have u1 := (far ⟨w.heap.size + 2, 1, none⟩ (by show w.heap.size + 2 < _; omega)).trans q1
                  have uf0 := (farf ⟨w.heap.size + 2, 0, none⟩ (by show w.heap.size + 2 < _; omega)).trans (qf 0)
                  have uf1 := (farf ⟨w.heap.size + 2, 1, none⟩ (by show w.heap.size + 2 < _; omega)).trans (qf 1)
                  have ul : w.heap.size + 2 < w10.heap.size := by omega
                  have hd := cells2 (u := .int .i64 z) (v := .slice A3 (n2 + 1) c3) hI11.r0 hI11.r1
                  have hK := hI11.ret hlen 0 (.int .i64 z) (.slice A3 (n2 + 1) c3)
                  replace hK := Lib.hid hK
                  replace hd := Lib.hid hd
                  clear far farf h10 hO10 hg10 hO d0 d1 hf9 g0 g1 g2 g3 g4 g5 g6 g7 q0 q1 qf hbel9 hI11 hlen
                  repeat' ((fail_if_success at_builtin); (first | go_skip | go_guarded | go_step))
                  replace hd := hd.out
                  generalize (World.setCell (World.setCell (World.setCell w10 _ _) _ _) _ _) = wf at *
                  obtain ⟨d0, d1⟩ := hd
                  refine bodyPost_ret (v := .tuple #[cval z A3 (n2 + 1) c3, .int .i64 0]) (by simp only [results, Tryd.results20]; go_simp; try rfl) rfl ?_
                  rw [hLf.out, hEf.out]
                  exact hK.out
end Go.Proofs.YtpdlapdnjmoaoaaDoor
