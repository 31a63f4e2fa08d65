/- Cache: Touch: what it says, the program's walk. -/
import Derived.Test.YtpdlapdnjmoaoaaDoorCaT
import Derived.Test.YtpdlapdnjmoaoaaDoorCaP
namespace Go.Proofs.YtpdlapdnjmoaoaaDoor
open Go.RowKit
def withU (x : Ent) (v : Int) : Ent := ⟨x.sc, x.key, x.dig, x.size, x.created, v⟩
def usedAt (x : Ent) (now : Int) : Ent := (withU x (max x.used now))
def tOk (z : Int) (l : List Ent) (s : Scp) (k : ByteArray) (now : Int) : Bool := decide (0 ≤ findI s k l) && (validS z l && inR now 0 1125899906842624)
def setU (l : List Ent) (m : Nat) (now : Int) : List Ent := match l[m]? with
  | some x => l.set m (usedAt x now)
  | none => l
def touchL (z : Int) (l : List Ent) (s : Scp) (k : ByteArray) (now : Int) : List Ent := if tOk z l s k now then setU l (findI s k l).toNat now else l
def RetC (w : World) (z : Int) (l : List Ent) (e : Ending) (w' : World) : Prop := ∃ A n c, e = .returned (cval z A n c) ∧ n = l.length ∧ Seq w' w'.heap.size 8 A n (entsC l) ∧ Below w.heap.size w w'
theorem find_nat {s : Scp} {k : ByteArray} {l : List Ent} (h : 0 ≤ findI s k l) : ∃ m : Nat, findI s k l = (m : Int) ∧ m < l.length := by
  unfold findI at h ⊢
  split at h
  · rename_i hl; exact ⟨_, by rw [if_pos hl], hl⟩
  · omega
theorem entsC_set : ∀ (l : List Ent) (m : Nat) (x : Ent) (v : Int), l[m]? = some x → entsC (l.set m (withU x v)) = (entsC l).set (m * 8 + 7) (.int .i64 v)
  | [], m, x, v, h => by simp at h
  | y :: l, 0, x, v, h => by
    simp at h
    subst h
    rfl
  | y :: l, m + 1, x, v, h => by
    have h' : l[m]? = some x := by simpa using h
    have ih := entsC_set l m x v h'
    have e1 : entsC ((y :: l).set (m + 1) (withU x v)) = (ent8 y).toList ++ entsC (l.set m (withU x v)) := rfl
    have e2 : entsC (y :: l) = (ent8 y).toList ++ entsC l := rfl
    rw [e1, e2, ih, List.set_append_right _ _ (by show 8 ≤ _; omega)]
    congr 2
    show m * 8 + 7 = (m + 1) * 8 + 7 - 8
    omega
structure TIn (w wx : World) (z : Int) (A : Option Addr) (n c : Nat) (l : List Ent) (s : Scp) : Prop where
  own : wx.ownsRow (w.heap.size + 3) 42 8 (.slice A n c) n (entsC l)
  below : Below w.heap.size w wx
  size : w.heap.size + 3 ≤ wx.heap.size
  c0 : wx.cell? ⟨w.heap.size, 0, none⟩ = some (.int .i64 z)
  c1 : wx.cell? ⟨w.heap.size, 1, none⟩ = some (.slice A n c)
  s0 : wx.cell? ⟨w.heap.size + 1, 0, none⟩ = some (.string s.prj)
  s1 : wx.cell? ⟨w.heap.size + 1, 1, none⟩ = some (.int .i64 s.trust)
  s2 : wx.cell? ⟨w.heap.size + 1, 2, none⟩ = some (.string s.ref)
  r0 : wx.cell? ⟨w.heap.size + 2, 0, none⟩ = some (.int .i64 0)
  r1 : wx.cell? ⟨w.heap.size + 2, 1, none⟩ = some (.slice none 0 0)
  f0 : ∀ j, wx.frozen? ⟨w.heap.size, j, none⟩ = false
  f2 : ∀ j, wx.frozen? ⟨w.heap.size + 2, j, none⟩ = false
theorem TIn.at {w wx wy : World} {z : Int} {A : Option Addr} {n c : Nat} {l : List Ent} {s : Scp} (h : TIn w wx z A n c l s) (hb : Below wx.heap.size wx wy) : TIn w wy z A n c l s := by
  have hs := h.size
  have k : ∀ g j, g < w.heap.size + 3 → wy.cell? ⟨g, j, none⟩ = wx.cell? ⟨g, j, none⟩ := fun g j hg => hb.cell (p := ⟨g, j, none⟩) (by show g < _; omega)
  exact ⟨h.own.kept (row := none) (Below.grownB hb none) (by cases hv : (Value.slice A n c).ownBlock <;> simp), h.below.trans (hb.mono h.below.size), Nat.le_trans h.size hb.size,
    (k _ _ (by omega)).trans h.c0, (k _ _ (by omega)).trans h.c1, (k _ _ (by omega)).trans h.s0, (k _ _ (by omega)).trans h.s1, (k _ _ (by omega)).trans h.s2, (k _ _ (by omega)).trans h.r0, (k _ _ (by omega)).trans h.r1,
    fun j => (hb.frozen (p := ⟨w.heap.size, j, none⟩) (by show w.heap.size < _; omega)).trans (h.f0 j), fun j => (hb.frozen (p := ⟨w.heap.size + 2, j, none⟩) (by show w.heap.size + 2 < _; omega)).trans (h.f2 j)⟩
theorem TIn.ret {w wx : World} {z : Int} {A : Option Addr} {n c : Nat} {l : List Ent} {s : Scp} (h : TIn w wx z A n c l s) (hn : n = l.length) (u v : Value) :
    RetC w z l (.returned (cval z A n c)) ((wx.setCell ⟨w.heap.size + 2, 0, none⟩ u).setCell ⟨w.heap.size + 2, 1, none⟩ v) := by
  refine ⟨A, n, c, rfl, hn, ?_, ?_⟩
  · exact Seq.of_own (ownsRow_setCell_below (ownsRow_setCell_below h.own (a := ⟨w.heap.size + 2, 0, none⟩) (by show w.heap.size + 2 < _; omega) u) (a := ⟨w.heap.size + 2, 1, none⟩) (by show w.heap.size + 2 < _; omega) v)
  · exact (h.below.setCell (p := ⟨w.heap.size + 2, 0, none⟩) (by show w.heap.size ≤ w.heap.size + 2; omega) u).setCell (p := ⟨w.heap.size + 2, 1, none⟩) (by show w.heap.size ≤ w.heap.size + 2; omega) v
theorem TIn.store {w wx : World} {z : Int} {g n c : Nat} {l : List Ent} {s : Scp} (h : TIn w wx z (some ⟨g, 0, none⟩) n c l s) (hg : w.heap.size + 3 ≤ g) {m : Nat} {x : Ent} (hx : l[m]? = some x) (v : Int) :
    TIn w (wx.setCell ⟨g, m * 8 + 7, none⟩ (.int .i64 v)) z (some ⟨g, 0, none⟩) n c (l.set m (withU x v)) s := by
  have fc : ∀ b j, b < w.heap.size + 3 → (wx.setCell ⟨g, m * 8 + 7, none⟩ (.int .i64 v)).cell? ⟨b, j, none⟩ = wx.cell? ⟨b, j, none⟩ := fun b j hb => World.cell?_setCell_far _ _ _ _ (by show g ≠ b; omega)
  refine ⟨?_, h.below.setCell (p := ⟨g, m * 8 + 7, none⟩) (by show w.heap.size ≤ g; omega) _, by simp [World.setCell]; exact h.size, (fc _ _ (by omega)).trans h.c0, (fc _ _ (by omega)).trans h.c1, (fc _ _ (by omega)).trans h.s0, (fc _ _ (by omega)).trans h.s1, (fc _ _ (by omega)).trans h.s2, (fc _ _ (by omega)).trans h.r0, (fc _ _ (by omega)).trans h.r1,
    fun j => by rw [World.frozen?_setCell]; exact h.f0 j, fun j => by rw [World.frozen?_setCell]; exact h.f2 j⟩
  rw [entsC_set l m x v hx]
  exact (h.own.stored (m * 8 + 7) (.int .i64 v)).1
theorem own_head' {w : World} {base n c : Nat} {A : Option Addr} {xs : List Value} {e : TypeId} {sz : Nat} (h : w.ownsRow base e sz (.slice A n c) n xs) (hn : 0 < n) :
    ∃ g, A = some ⟨g, 0, none⟩ ∧ base ≤ g ∧ g < w.heap.size ∧ (∀ j u, xs[j]? = some u → w.cell? ⟨g, j, none⟩ = some u) ∧ (∀ j, w.frozen? ⟨g, j, none⟩ = false) := by
  rcases h.2 with ⟨hv, h0⟩ | ⟨g, cap, cur, hv, hb, hg, hnc, _, hcs, ht⟩
  · omega
  · injection hv with hA _ hc
    subst hA hc
    refine ⟨g, rfl, hb, (Array.getElem?_eq_some_iff.1 hg).1, fun j u hu => ?_, fun j => h.frozenAt j⟩
    have := h.cells (g := g) rfl j u hu
    rw [Addr.add_lit, Nat.zero_add] at this
    exact this
set_option maxRecDepth 100000 in
set_option maxHeartbeats 8000000 in
theorem touch_any (z : Int) (l : List Ent) (s : Scp) (k : ByteArray) (now : Int) (A0 : Option Addr) (n c0 : Nat) (w : World) (hR : Ready w) (hn : n = l.length) (hs : Seq w w.heap.size 8 A0 n (entsC l)) (hl : n ≤ 1000000) (hf : ∀ y ∈ l, y.fit) :
    Calls Tryd.prog 28 #[cval z A0 n c0, .agg (pcells s), .string k, .int .i64 now] w (RetC w z (touchL z l s k now)) := by
  obtain ⟨w1, hw1⟩ : ∃ w1 : World, w1 = ((w.alloc (.cells #[.int .i64 z, .slice A0 n c0] 24)).alloc (.cells (pcells s) 38)).alloc (.cells #[.int .i64 0, .slice none 0 0] 24) := ⟨_, rfl⟩
  have hb0 : Below w.heap.size w w1 := by rw [hw1]; exact (((Below.refl w.heap.size w).alloc (Nat.le_refl _) _).alloc (by simp) _).alloc (by simp; omega) _
  have hz1 : w1.heap.size = w.heap.size + 3 := by rw [hw1]; simp
  have z0 : w1.cell? ⟨w.heap.size, 0, none⟩ = some (.int .i64 z) := by rw [hw1]; simp [go_sem]
  have z1 : w1.cell? ⟨w.heap.size, 1, none⟩ = some (.slice A0 n c0) := by rw [hw1]; simp [go_sem]
  have zs0 : w1.cell? ⟨w.heap.size + 1, 0, none⟩ = some (.string s.prj) := by rw [hw1]; simp [go_sem]
  have zs1 : w1.cell? ⟨w.heap.size + 1, 1, none⟩ = some (.int .i64 s.trust) := by rw [hw1]; simp [go_sem]
  have zs2 : w1.cell? ⟨w.heap.size + 1, 2, none⟩ = some (.string s.ref) := by rw [hw1]; simp [go_sem]
  have zr0 : w1.cell? ⟨w.heap.size + 2, 0, none⟩ = some (.int .i64 0) := by rw [hw1]; simp [go_sem]
  have zr1 : w1.cell? ⟨w.heap.size + 2, 1, none⟩ = some (.slice none 0 0) := by rw [hw1]; simp [go_sem]
  have zf0 : ∀ j, w1.frozen? ⟨w.heap.size, j, none⟩ = false := fun j => by rw [hw1]; simp [go_sem]
  have zf2 : ∀ j, w1.frozen? ⟨w.heap.size + 2, j, none⟩ = false := fun j => by rw [hw1]; simp [go_sem]
  have C := copied_any z l A0 n c0 w1 hn ((hs.below hb0).more hb0.size) hl
  replace C := Lib.hid C
  replace hw1 := Lib.hid hw1
  replace hn := Lib.hid hn
  replace hf := Lib.hid hf
  clear hs
  go_enter Tryd.func28, Tryd.ntmps28
  repeat' ((fail_if_success at_builtin); (first | go_skip | go_guarded | go_step))
  rw [← hw1.out]
  refine C.out.mono ?_
  rintro e w2 ⟨A, c, rfl, ho⟩
  dsimp only
  have hb2 := ho.2
  have y0 := (hb2.cell (p := ⟨w.heap.size, 0, none⟩) (by show w.heap.size < _; omega)).trans z0
  have y1 := (hb2.cell (p := ⟨w.heap.size, 1, none⟩) (by show w.heap.size < _; omega)).trans z1
  have yf := fun j => (hb2.frozen (p := ⟨w.heap.size, j, none⟩) (by show w.heap.size < _; omega)).trans (zf0 j)
  have lz2' : w.heap.size < w2.heap.size := by have := hb2.size; omega
  have hI : TIn w ((w2.setCell ⟨w.heap.size, 0, none⟩ (.int .i64 z)).setCell ⟨w.heap.size, 1, none⟩ (.slice A n c)) z A n c l s := by
    have hbw : Below w.heap.size w w2 := hb0.trans (hb2.mono hb0.size)
    obtain ⟨d0, d1⟩ := cells2 (u := .int .i64 z) (v := .slice A n c) y0 y1
    have far : ∀ p : Addr, p.block ≠ w.heap.size → p.block < w.heap.size + 3 → ((w2.setCell ⟨w.heap.size, 0, none⟩ (.int .i64 z)).setCell ⟨w.heap.size, 1, none⟩ (.slice A n c)).cell? p = w1.cell? p := fun p hp hq => by rw [World.cell?_setCell_far _ _ _ _ (fun e => hp e.symm), World.cell?_setCell_far _ _ _ _ (fun e => hp e.symm)]; exact hb2.cell (by omega)
    refine ⟨?_, ?_, ?_, d0, d1, ?_, ?_, ?_, ?_, ?_, ?_, ?_⟩
    · have := ownsRow_setCell_below (ownsRow_setCell_below ho.1 (a := ⟨w.heap.size, 0, none⟩) (by show w.heap.size < _; omega) (.int .i64 z)) (a := ⟨w.heap.size, 1, none⟩) (by show w.heap.size < _; omega) (.slice A n c)
      rw [hz1, ← hn.out] at this
      exact this
    · exact (hbw.setCell (p := ⟨w.heap.size, 0, none⟩) (Nat.le_refl _) _).setCell (p := ⟨w.heap.size, 1, none⟩) (Nat.le_refl _) _
    · have := hb2.size
      simp [World.setCell]
      omega
    · exact (far _ (by show w.heap.size + 1 ≠ _; omega) (by show w.heap.size + 1 < _; omega)).trans zs0
    · exact (far _ (by show w.heap.size + 1 ≠ _; omega) (by show w.heap.size + 1 < _; omega)).trans zs1
    · exact (far _ (by show w.heap.size + 1 ≠ _; omega) (by show w.heap.size + 1 < _; omega)).trans zs2
    · exact (far _ (by show w.heap.size + 2 ≠ _; omega) (by show w.heap.size + 2 < _; omega)).trans zr0
    · exact (far _ (by show w.heap.size + 2 ≠ _; omega) (by show w.heap.size + 2 < _; omega)).trans zr1
    · intro j; rw [World.frozen?_setCell, World.frozen?_setCell]; exact yf j
    · intro j; rw [World.frozen?_setCell, World.frozen?_setCell]; exact (hb2.frozen (p := ⟨w.heap.size + 2, j, none⟩) (by show w.heap.size + 2 < _; omega)).trans (zf2 j)
  have hs0 := hI.s0
  have hs1 := hI.s1
  have hs2 := hI.s2
  have hc1 := hI.c1
  have hlz : w.heap.size + 1 < ((w2.setCell ⟨w.heap.size, 0, none⟩ (.int .i64 z)).setCell ⟨w.heap.size, 1, none⟩ (.slice A n c)).heap.size := by have := hI.size; omega
  replace hI := Lib.hid hI
  clear C ho z0 z1 zs0 zs1 zs2 zr0 zr1 zf0 zf2 hb2 hb0 hz1 hw1
  have yf0 := yf 0
  have yf1 := yf 1
  repeat' ((fail_if_success at_builtin); (first | go_skip | go_guarded | go_step))
  generalize (w2.setCell ⟨w.heap.size, 0, none⟩ (.int .i64 z)).setCell ⟨w.heap.size, 1, none⟩ (.slice A n c) = w3 at *
  replace hI := hI.out
  clear y0 y1 yf yf0 yf1 lz2' hs0 hs1 hs2 hc1 hlz
  have hfd := find_any s k l A n c w3 hn.out (Seq.of_own hI.own) (by omega)
  refine hfd.mono ?_
  rintro e w4 ⟨rfl, hb4⟩
  dsimp only
  replace hI := hI.at hb4
  clear hfd hb4
  have c0 := hI.c0
  have c1 := hI.c1
  have r0 := hI.r0
  have r1 := hI.r1
  have f00 := hI.f0 0
  have f01 := hI.f0 1
  have f20 := hI.f2 0
  have f21 := hI.f2 1
  have s0 := hI.s0
  have s1 := hI.s1
  have s2 := hI.s2
  have lz := hI.size
  have l0 : w.heap.size < w4.heap.size := by omega
  have l1 : w.heap.size + 1 < w4.heap.size := by omega
  have l2 : w.heap.size + 2 < w4.heap.size := by omega
  by_cases hF : 0 ≤ findI s k l
  · have hV := valid_any z l A n c w4 (hR.below hI.below) hn.out (Seq.of_own hI.own) (by omega) hf.out
    replace hV := Lib.hid hV
    replace hI := Lib.hid hI
    have hFd : decide (0 ≤ findI s k l) = true := decide_eq_true hF
    repeat' ((fail_if_success at_builtin); (first | go_skip | go_guarded | go_step))
    refine hV.out.mono ?_
    rintro e w5 ⟨rfl, hb5⟩
    dsimp only
    replace hI := hI.out.at hb5
    clear hV hb5 c0 c1 r0 r1 f00 f01 f20 f21 s0 s1 s2 lz l0 l1 l2
    have c0 := hI.c0
    have c1 := hI.c1
    have r0 := hI.r0
    have r1 := hI.r1
    have f00 := hI.f0 0
    have f01 := hI.f0 1
    have f20 := hI.f2 0
    have f21 := hI.f2 1
    have s0 := hI.s0
    have s1 := hI.s1
    have s2 := hI.s2
    have lz := hI.size
    have l0 : w.heap.size < w5.heap.size := by omega
    have l1 : w.heap.size + 1 < w5.heap.size := by omega
    have l2 : w.heap.size + 2 < w5.heap.size := by omega
    cases hv : validS z l with
    | false =>
      have hLf : touchL z l s k now = l := by unfold touchL tOk; rw [hv]; simp
      rw [show errV z l = 1 from errV_bad hv]
      replace hLf := Lib.hid hLf
      have hd := cells2 (u := .int .i64 z) (v := .slice A n c) hI.r0 hI.r1
      have hK := hI.ret hn.out (.int .i64 z) (.slice A n c)
      replace hK := Lib.hid hK
      replace hd := Lib.hid hd
      replace hI := Lib.hid hI
      repeat' ((fail_if_success at_builtin); (first | go_skip | go_guarded | go_step))
      replace hd := hd.out
      generalize (World.setCell (World.setCell w5 _ _) _ _) = wf at *
      obtain ⟨d0, d1⟩ := hd
      refine bodyPost_ret (v := cval z A n c) (by simp only [results, Tryd.results28]; go_simp; try first | rfl | exact ⟨rfl, rfl⟩) rfl ?_
      rw [hLf.out]
      exact hK.out
    | true =>
      rw [show errV z l = 0 from by unfold errV; rw [hv]; rfl]
      replace hI := Lib.hid hI
      repeat' ((fail_if_success at_builtin); (first | go_skip | go_guarded | go_step))
      refine (within_any _ _ _ _).mono ?_
      rintro e w6 ⟨rfl, rfl⟩
      dsimp only
      replace hI := hI.out
      cases hT : inR now 0 1125899906842624 with
      | false =>
        have hLf : touchL z l s k now = l := by unfold touchL tOk; rw [hT]; simp
        replace hLf := Lib.hid hLf
        have hd := cells2 (u := .int .i64 z) (v := .slice A n c) hI.r0 hI.r1
        have hK := hI.ret hn.out (.int .i64 z) (.slice A n c)
        replace hK := Lib.hid hK
        replace hd := Lib.hid hd
        replace hI := Lib.hid hI
        repeat' ((fail_if_success at_builtin); (first | go_skip | go_guarded | go_step))
        replace hd := hd.out
        generalize (World.setCell (World.setCell w6 _ _) _ _) = wf at *
        obtain ⟨d0, d1⟩ := hd
        refine bodyPost_ret (v := cval z A n c) (by simp only [results, Tryd.results28]; go_simp; try first | rfl | exact ⟨rfl, rfl⟩) rfl ?_
        rw [hLf.out]
        exact hK.out
      | true =>
        obtain ⟨m, hm, hml⟩ := find_nat hF
        have hx : l[m]? = some l[m] := List.getElem?_eq_getElem hml
        have hLf : touchL z l s k now = l.set m (withU l[m] (max l[m].used now)) := by
          unfold touchL tOk
          rw [hFd, hv, hT, if_pos (by rfl), hm, Int.toNat_natCast]
          unfold setU
          rw [hx]
          rfl
        generalize l[m] = x at *
        obtain ⟨g, rfl, hgb, hgl, hgc, hgf⟩ := own_head' hI.own (by have := hn.out; omega)
        have c7 := hgc _ _ (flat8 (x := x) (j := 7) (u := .int .i64 x.used) hx rfl)
        have cf := hgf (m * 8 + 7)
        have hI2 := (hI.store hgb hx (max x.used now)).at (Below.refl _ _).drew
        have m0 : (0 : Int) ≤ (m : Int) := by omega
        have m1 : (m : Int) < (n : Int) := by have := hn.out; omega
        have hne : ¬ (g = w.heap.size) := by omega
        have hne2 : ¬ (w.heap.size = g) := by omega
        rw [hm]
        replace hLf := Lib.hid hLf
        replace hI2 := Lib.hid hI2
        replace hx := Lib.hid hx
        clear hgc hgf hI hF hFd hm
        repeat' ((fail_if_success at_builtin); (first | go_skip | go_guarded | go_step))
        refine wp_region_held_drew (S := fun _ => True) (by kernel_rfl) trivial (fun hHeld => ?_)
        refine wpAnyH_take (i := 0) (v := ?v527) rfl (by kernel_rfl) (by kernel_rfl) (by kernel_rfl) (fun _ _ _ h => h) (Or.inl ⟨by rfl, ?hy527⟩) (by assumption) ?rest527
        case hy527 => (intro w hSw; (try dsimp only at hSw); go_simp; try with_reducible rfl)
        simp only [Act.put, List.getElem_toArray, List.getElem_cons_zero, List.setIfInBounds_toArray, List.set_cons_zero, List.set_cons_succ]
        refine wpAnyH_take (i := 2) (v := ?v528) rfl (by kernel_rfl) (by kernel_rfl) (by kernel_rfl) (fun _ _ _ h => h) (Or.inl ⟨by rfl, ?hy528⟩) (by assumption) ?rest528
        case hy528 => (intro w hSw; (try dsimp only at hSw); go_simp; try with_reducible rfl)
        simp only [Act.put, List.getElem_toArray, List.getElem_cons_zero, List.getElem_cons_succ, List.setIfInBounds_toArray, List.set_cons_zero, List.set_cons_succ]
        refine wpAnyH_take (i := 3) (v := ?v529) rfl (by kernel_rfl) (by kernel_rfl) (by kernel_rfl) (fun _ _ _ h => h) (Or.inl ⟨by rfl, ?hy529⟩) (by assumption) ?rest529
        case hy529 => (intro w hSw; (try dsimp only at hSw); go_simp; try with_reducible rfl)
        simp only [Act.put, List.getElem_toArray, List.getElem_cons_zero, List.getElem_cons_succ, List.setIfInBounds_toArray, List.set_cons_zero, List.set_cons_succ]
        refine wpAnyH_take (i := 5) (v := ?v530) rfl (by kernel_rfl) (by kernel_rfl) (by kernel_rfl) (fun _ _ _ h => h) (Or.inl ⟨by rfl, ?hy530⟩) (by assumption) ?rest530
        case hy530 => (intro w hSw; (try dsimp only at hSw); go_simp; try with_reducible rfl)
        simp only [Act.put, List.getElem_toArray, List.getElem_cons_zero, List.getElem_cons_succ, List.setIfInBounds_toArray, List.set_cons_zero, List.set_cons_succ]
        refine wpAnyH_take (i := 9) (v := ?v531) rfl (by kernel_rfl) (by kernel_rfl) (by kernel_rfl) (fun _ _ _ h => h) (Or.inl ⟨by rfl, ?hy531⟩) (by assumption) ?rest531
        case hy531 => (intro w hSw; (try dsimp only at hSw); go_simp; try with_reducible rfl)
        simp only [Act.put, List.getElem_toArray, List.getElem_cons_zero, List.getElem_cons_succ, List.setIfInBounds_toArray, List.set_cons_zero, List.set_cons_succ]
        refine wpAnyH_ready (rs := [1, 4]) (by kernel_rfl) (by simp) ?_
        refine AllReadyH.cons rfl (fun K hK => ?_) ?_
        · go_simp
          refine hK.out _ _ trivial (fun hHeld => ?_)
          clear hK K
          try simp only [Act.put, List.getElem_toArray, List.getElem_cons_zero, List.getElem_cons_succ, List.setIfInBounds_toArray, List.set_cons_zero, List.set_cons_succ]
          refine wpAnyH_ready (rs := [4]) (by kernel_rfl) (by simp) ?_
          refine AllReadyH.cons rfl (fun K hK => ?_) ?_
          · go_simp
            refine hK.out _ _ trivial (fun hHeld => ?_)
            clear hK K
            try simp only [Act.put, List.getElem_toArray, List.getElem_cons_zero, List.getElem_cons_succ, List.setIfInBounds_toArray, List.set_cons_zero, List.set_cons_succ]
            refine wpAnyH_take (i := 6) (v := ?v532) rfl (by kernel_rfl) (by kernel_rfl) (by kernel_rfl) (fun _ _ _ h => h) (Or.inl ⟨by rfl, ?hy532⟩) (by assumption) ?rest532
            case hy532 => (intro w hSw; (try dsimp only at hSw); go_simp; try with_reducible rfl)
            simp only [Act.put, List.getElem_toArray, List.getElem_cons_zero, List.getElem_cons_succ, List.setIfInBounds_toArray, List.set_cons_zero, List.set_cons_succ]
            refine wpAnyH_take (i := 7) (v := ?v533) rfl (by kernel_rfl) (by kernel_rfl) (by kernel_rfl) (fun _ _ _ h => h) (Or.inl ⟨by rfl, ?hy533⟩) (by assumption) ?rest533
            case hy533 => (intro w hSw; (try dsimp only at hSw); go_simp; try with_reducible rfl)
            simp only [Act.put, List.getElem_toArray, List.getElem_cons_zero, List.getElem_cons_succ, List.setIfInBounds_toArray, List.set_cons_zero, List.set_cons_succ]
            refine wpAnyH_ready (rs := [8]) (by kernel_rfl) (by simp) ?_
            refine AllReadyH.cons rfl (fun K hK => ?_) ?_
            · go_simp
              refine hK.out _ _ trivial (fun hHeld => ?_)
              clear hK K
              try simp only [Act.put, List.getElem_toArray, List.getElem_cons_zero, List.getElem_cons_succ, List.setIfInBounds_toArray, List.set_cons_zero, List.set_cons_succ]
              refine wpAnyH_take (i := 10) (v := ?v534) rfl (by kernel_rfl) (by kernel_rfl) (by kernel_rfl) (fun _ _ _ h => h) (Or.inl ⟨by rfl, ?hy534⟩) (by assumption) ?rest534
              case hy534 => (intro w hSw; (try dsimp only at hSw); go_simp; try with_reducible rfl)
              simp only [Act.put, List.getElem_toArray, List.getElem_cons_zero, List.getElem_cons_succ, List.setIfInBounds_toArray, List.set_cons_zero, List.set_cons_succ]
              refine wpAnyH_take (i := 11) (v := ?v535) rfl (by kernel_rfl) (by kernel_rfl) (by kernel_rfl) (fun _ _ _ h => h) (Or.inl ⟨by rfl, ?hy535⟩) (by assumption) ?rest535
              case hy535 => (intro w hSw; (try dsimp only at hSw); go_simp; try with_reducible rfl)
              simp only [Act.put, List.getElem_toArray, List.getElem_cons_zero, List.getElem_cons_succ, List.setIfInBounds_toArray, List.set_cons_zero, List.set_cons_succ]
              refine wpAnyH_take (i := 12) (v := ?v536) rfl (by kernel_rfl) (by kernel_rfl) (by kernel_rfl) (fun _ _ _ h => h) (Or.inl ⟨by rfl, ?hy536⟩) (by assumption) ?rest536
              case hy536 => (intro w hSw; (try dsimp only at hSw); go_simp; try with_reducible rfl)
              simp only [Act.put, List.getElem_toArray, List.getElem_cons_zero, List.getElem_cons_succ, List.setIfInBounds_toArray, List.set_cons_zero, List.set_cons_succ]
              refine wpAnyH_ready (rs := [13]) (by kernel_rfl) (by simp) ?_
              refine AllReadyH.cons rfl (fun K hK => ?_) ?_
              · go_simp
                refine hK.out _ _ trivial (fun hHeld => ?_)
                clear hK K
                try simp only [Act.put, List.getElem_toArray, List.getElem_cons_zero, List.getElem_cons_succ, List.setIfInBounds_toArray, List.set_cons_zero, List.set_cons_succ]
                refine wpAnyH_done (by kernel_rfl) ?_ _
                replace hI := hI2.out
                clear c0 c1 r0 r1 f00 f01 f20 f21 s0 s1 s2 lz l0 l1 l2
                generalize World.drew (World.setCell w6 _ _) = w7 at *
                have c0 := hI.c0
                have c1 := hI.c1
                have r0 := hI.r0
                have r1 := hI.r1
                have f00 := hI.f0 0
                have f01 := hI.f0 1
                have f20 := hI.f2 0
                have f21 := hI.f2 1
                have s0 := hI.s0
                have s1 := hI.s1
                have s2 := hI.s2
                have lz := hI.size
                have l0 : w.heap.size < w7.heap.size := by omega
                have l1 : w.heap.size + 1 < w7.heap.size := by omega
                have l2 : w.heap.size + 2 < w7.heap.size := by omega
                have hd := cells2 (u := .int .i64 z) (v := .slice (some ⟨g, 0, none⟩) n c) hI.r0 hI.r1
                have hK := hI.ret (by rw [List.length_set]; exact hn.out) (.int .i64 z) (.slice (some ⟨g, 0, none⟩) n c)
                replace hK := Lib.hid hK
                replace hd := Lib.hid hd
                replace hI := Lib.hid hI
                repeat' ((fail_if_success at_builtin); (first | go_skip | go_guarded | go_step))
                replace hd := hd.out
                generalize (World.setCell (World.setCell w7 _ _) _ _) = wf at *
                obtain ⟨d0, d1⟩ := hd
                refine bodyPost_ret (v := cval z (some ⟨g, 0, none⟩) n c) (by simp only [results, Tryd.results28]; go_simp; try first | rfl | exact ⟨rfl, rfl⟩) rfl ?_
                rw [hLf.out]
                exact hK.out
              exact AllReadyH.nil
            exact AllReadyH.nil
          exact AllReadyH.nil
        refine AllReadyH.cons rfl (fun K hK => ?_) ?_
        · go_simp
          refine hK.out _ _ trivial (fun hHeld => ?_)
          clear hK K
          try simp only [Act.put, List.getElem_toArray, List.getElem_cons_zero, List.getElem_cons_succ, List.setIfInBounds_toArray, List.set_cons_zero, List.set_cons_succ]
          refine wpAnyH_take (i := 6) (v := ?v537) rfl (by kernel_rfl) (by kernel_rfl) (by kernel_rfl) (fun _ _ _ h => h) (Or.inl ⟨by rfl, ?hy537⟩) (by assumption) ?rest537
          case hy537 => (intro w hSw; (try dsimp only at hSw); go_simp; try with_reducible rfl)
          simp only [Act.put, List.getElem_toArray, List.getElem_cons_zero, List.getElem_cons_succ, List.setIfInBounds_toArray, List.set_cons_zero, List.set_cons_succ]
          refine wpAnyH_take (i := 7) (v := ?v538) rfl (by kernel_rfl) (by kernel_rfl) (by kernel_rfl) (fun _ _ _ h => h) (Or.inl ⟨by rfl, ?hy538⟩) (by assumption) ?rest538
          case hy538 => (intro w hSw; (try dsimp only at hSw); go_simp; try with_reducible rfl)
          simp only [Act.put, List.getElem_toArray, List.getElem_cons_zero, List.getElem_cons_succ, List.setIfInBounds_toArray, List.set_cons_zero, List.set_cons_succ]
          refine wpAnyH_ready (rs := [1, 8]) (by kernel_rfl) (by simp) ?_
          refine AllReadyH.cons rfl (fun K hK => ?_) ?_
          · go_simp
            refine hK.out _ _ trivial (fun hHeld => ?_)
            clear hK K
            try simp only [Act.put, List.getElem_toArray, List.getElem_cons_zero, List.getElem_cons_succ, List.setIfInBounds_toArray, List.set_cons_zero, List.set_cons_succ]
            refine wpAnyH_ready (rs := [8]) (by kernel_rfl) (by simp) ?_
            refine AllReadyH.cons rfl (fun K hK => ?_) ?_
            · go_simp
              refine hK.out _ _ trivial (fun hHeld => ?_)
              clear hK K
              try simp only [Act.put, List.getElem_toArray, List.getElem_cons_zero, List.getElem_cons_succ, List.setIfInBounds_toArray, List.set_cons_zero, List.set_cons_succ]
              refine wpAnyH_take (i := 10) (v := ?v539) rfl (by kernel_rfl) (by kernel_rfl) (by kernel_rfl) (fun _ _ _ h => h) (Or.inl ⟨by rfl, ?hy539⟩) (by assumption) ?rest539
              case hy539 => (intro w hSw; (try dsimp only at hSw); go_simp; try with_reducible rfl)
              simp only [Act.put, List.getElem_toArray, List.getElem_cons_zero, List.getElem_cons_succ, List.setIfInBounds_toArray, List.set_cons_zero, List.set_cons_succ]
              refine wpAnyH_take (i := 11) (v := ?v540) rfl (by kernel_rfl) (by kernel_rfl) (by kernel_rfl) (fun _ _ _ h => h) (Or.inl ⟨by rfl, ?hy540⟩) (by assumption) ?rest540
              case hy540 => (intro w hSw; (try dsimp only at hSw); go_simp; try with_reducible rfl)
              simp only [Act.put, List.getElem_toArray, List.getElem_cons_zero, List.getElem_cons_succ, List.setIfInBounds_toArray, List.set_cons_zero, List.set_cons_succ]
              refine wpAnyH_take (i := 12) (v := ?v541) rfl (by kernel_rfl) (by kernel_rfl) (by kernel_rfl) (fun _ _ _ h => h) (Or.inl ⟨by rfl, ?hy541⟩) (by assumption) ?rest541
              case hy541 => (intro w hSw; (try dsimp only at hSw); go_simp; try with_reducible rfl)
              simp only [Act.put, List.getElem_toArray, List.getElem_cons_zero, List.getElem_cons_succ, List.setIfInBounds_toArray, List.set_cons_zero, List.set_cons_succ]
              refine wpAnyH_ready (rs := [13]) (by kernel_rfl) (by simp) ?_
              refine AllReadyH.cons rfl (fun K hK => ?_) ?_
              · go_simp
                refine hK.out _ _ trivial (fun hHeld => ?_)
                clear hK K
                try simp only [Act.put, List.getElem_toArray, List.getElem_cons_zero, List.getElem_cons_succ, List.setIfInBounds_toArray, List.set_cons_zero, List.set_cons_succ]
                refine wpAnyH_done (by kernel_rfl) ?_ _
                replace hI := hI2.out
                clear c0 c1 r0 r1 f00 f01 f20 f21 s0 s1 s2 lz l0 l1 l2
                generalize World.drew (World.setCell w6 _ _) = w7 at *
                have c0 := hI.c0
                have c1 := hI.c1
                have r0 := hI.r0
                have r1 := hI.r1
                have f00 := hI.f0 0
                have f01 := hI.f0 1
                have f20 := hI.f2 0
                have f21 := hI.f2 1
                have s0 := hI.s0
                have s1 := hI.s1
                have s2 := hI.s2
                have lz := hI.size
                have l0 : w.heap.size < w7.heap.size := by omega
                have l1 : w.heap.size + 1 < w7.heap.size := by omega
                have l2 : w.heap.size + 2 < w7.heap.size := by omega
                have hd := cells2 (u := .int .i64 z) (v := .slice (some ⟨g, 0, none⟩) n c) hI.r0 hI.r1
                have hK := hI.ret (by rw [List.length_set]; exact hn.out) (.int .i64 z) (.slice (some ⟨g, 0, none⟩) n c)
                replace hK := Lib.hid hK
                replace hd := Lib.hid hd
                replace hI := Lib.hid hI
                repeat' ((fail_if_success at_builtin); (first | go_skip | go_guarded | go_step))
                replace hd := hd.out
                generalize (World.setCell (World.setCell w7 _ _) _ _) = wf at *
                obtain ⟨d0, d1⟩ := hd
                refine bodyPost_ret (v := cval z (some ⟨g, 0, none⟩) n c) (by simp only [results, Tryd.results28]; go_simp; try first | rfl | exact ⟨rfl, rfl⟩) rfl ?_
                rw [hLf.out]
                exact hK.out
              exact AllReadyH.nil
            exact AllReadyH.nil
          refine AllReadyH.cons rfl (fun K hK => ?_) ?_
          · go_simp
            refine hK.out _ _ trivial (fun hHeld => ?_)
            clear hK K
            try simp only [Act.put, List.getElem_toArray, List.getElem_cons_zero, List.getElem_cons_succ, List.setIfInBounds_toArray, List.set_cons_zero, List.set_cons_succ]
            refine wpAnyH_take (i := 10) (v := ?v542) rfl (by kernel_rfl) (by kernel_rfl) (by kernel_rfl) (fun _ _ _ h => h) (Or.inl ⟨by rfl, ?hy542⟩) (by assumption) ?rest542
            case hy542 => (intro w hSw; (try dsimp only at hSw); go_simp; try with_reducible rfl)
            simp only [Act.put, List.getElem_toArray, List.getElem_cons_zero, List.getElem_cons_succ, List.setIfInBounds_toArray, List.set_cons_zero, List.set_cons_succ]
            refine wpAnyH_ready (rs := [1]) (by kernel_rfl) (by simp) ?_
            refine AllReadyH.cons rfl (fun K hK => ?_) ?_
            · go_simp
              refine hK.out _ _ trivial (fun hHeld => ?_)
              clear hK K
              try simp only [Act.put, List.getElem_toArray, List.getElem_cons_zero, List.getElem_cons_succ, List.setIfInBounds_toArray, List.set_cons_zero, List.set_cons_succ]
              refine wpAnyH_take (i := 11) (v := ?v543) rfl (by kernel_rfl) (by kernel_rfl) (by kernel_rfl) (fun _ _ _ h => h) (Or.inl ⟨by rfl, ?hy543⟩) (by assumption) ?rest543
              case hy543 => (intro w hSw; (try dsimp only at hSw); go_simp; try with_reducible rfl)
              simp only [Act.put, List.getElem_toArray, List.getElem_cons_zero, List.getElem_cons_succ, List.setIfInBounds_toArray, List.set_cons_zero, List.set_cons_succ]
              refine wpAnyH_take (i := 12) (v := ?v544) rfl (by kernel_rfl) (by kernel_rfl) (by kernel_rfl) (fun _ _ _ h => h) (Or.inl ⟨by rfl, ?hy544⟩) (by assumption) ?rest544
              case hy544 => (intro w hSw; (try dsimp only at hSw); go_simp; try with_reducible rfl)
              simp only [Act.put, List.getElem_toArray, List.getElem_cons_zero, List.getElem_cons_succ, List.setIfInBounds_toArray, List.set_cons_zero, List.set_cons_succ]
              refine wpAnyH_ready (rs := [13]) (by kernel_rfl) (by simp) ?_
              refine AllReadyH.cons rfl (fun K hK => ?_) ?_
              · go_simp
                refine hK.out _ _ trivial (fun hHeld => ?_)
                clear hK K
                try simp only [Act.put, List.getElem_toArray, List.getElem_cons_zero, List.getElem_cons_succ, List.setIfInBounds_toArray, List.set_cons_zero, List.set_cons_succ]
                refine wpAnyH_done (by kernel_rfl) ?_ _
                replace hI := hI2.out
                clear c0 c1 r0 r1 f00 f01 f20 f21 s0 s1 s2 lz l0 l1 l2
                generalize World.drew (World.setCell w6 _ _) = w7 at *
                have c0 := hI.c0
                have c1 := hI.c1
                have r0 := hI.r0
                have r1 := hI.r1
                have f00 := hI.f0 0
                have f01 := hI.f0 1
                have f20 := hI.f2 0
                have f21 := hI.f2 1
                have s0 := hI.s0
                have s1 := hI.s1
                have s2 := hI.s2
                have lz := hI.size
                have l0 : w.heap.size < w7.heap.size := by omega
                have l1 : w.heap.size + 1 < w7.heap.size := by omega
                have l2 : w.heap.size + 2 < w7.heap.size := by omega
                have hd := cells2 (u := .int .i64 z) (v := .slice (some ⟨g, 0, none⟩) n c) hI.r0 hI.r1
                have hK := hI.ret (by rw [List.length_set]; exact hn.out) (.int .i64 z) (.slice (some ⟨g, 0, none⟩) n c)
                replace hK := Lib.hid hK
                replace hd := Lib.hid hd
                replace hI := Lib.hid hI
                repeat' ((fail_if_success at_builtin); (first | go_skip | go_guarded | go_step))
                replace hd := hd.out
                generalize (World.setCell (World.setCell w7 _ _) _ _) = wf at *
                obtain ⟨d0, d1⟩ := hd
                refine bodyPost_ret (v := cval z (some ⟨g, 0, none⟩) n c) (by simp only [results, Tryd.results28]; go_simp; try first | rfl | exact ⟨rfl, rfl⟩) rfl ?_
                rw [hLf.out]
                exact hK.out
              exact AllReadyH.nil
            exact AllReadyH.nil
          exact AllReadyH.nil
        exact AllReadyH.nil
  · have hLf : touchL z l s k now = l := by unfold touchL tOk; rw [decide_eq_false hF]; simp
    have hFd : decide (0 ≤ findI s k l) = false := decide_eq_false hF
    replace hLf := Lib.hid hLf
    have hd := cells2 (u := .int .i64 z) (v := .slice A n c) hI.r0 hI.r1
    have hK := hI.ret hn.out (.int .i64 z) (.slice A n c)
    replace hK := Lib.hid hK
    replace hd := Lib.hid hd
    replace hI := Lib.hid hI
    repeat' ((fail_if_success at_builtin); (first | go_skip | go_guarded | go_step))
    replace hd := hd.out
    generalize (World.setCell (World.setCell w4 _ _) _ _) = wf at *
    obtain ⟨d0, d1⟩ := hd
    refine bodyPost_ret (v := cval z A n c) (by simp only [results, Tryd.results28]; go_simp; try first | rfl | exact ⟨rfl, rfl⟩) rfl ?_
    rw [hLf.out]
    exact hK.out
end Go.Proofs.YtpdlapdnjmoaoaaDoor
