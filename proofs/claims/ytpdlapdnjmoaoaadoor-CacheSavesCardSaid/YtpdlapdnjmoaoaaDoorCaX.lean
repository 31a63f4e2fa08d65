/- Cache: the document's Save: the walk. -/
import Derived.Test.YtpdlapdnjmoaoaaDoorCaU
namespace Go.Proofs.YtpdlapdnjmoaoaaDoor
open Go.RowKit
structure DInv (w wx : World) (z : Int) (A : Option Addr) (n c : Nat) (l : List Ent) (x : Ent) : Prop where
  seq : Seq wx w.heap.size 8 A n (entsC l)
  below : Below w.heap.size w wx
  size : w.heap.size + 3 ≤ wx.heap.size
  c0 : wx.cell? ⟨w.heap.size, 0, none⟩ = some (.int .i64 z)
  c1 : wx.cell? ⟨w.heap.size, 1, none⟩ = some (.slice A n c)
  x : CellsE wx (w.heap.size + 1) 0 x
  r0 : wx.cell? ⟨w.heap.size + 2, 0, none⟩ = some (.int .i64 0)
  r1 : wx.cell? ⟨w.heap.size + 2, 1, none⟩ = some (.slice none 0 0)
  f0 : ∀ j, wx.frozen? ⟨w.heap.size + 1, j, none⟩ = false
  f2 : ∀ j, wx.frozen? ⟨w.heap.size + 2, j, none⟩ = false
theorem DInv.at {w wx wy : World} {z : Int} {A : Option Addr} {n c : Nat} {l : List Ent} {x : Ent} (h : DInv w wx z A n c l x) (hb : Below wx.heap.size wx wy) : DInv w wy z A n c l x := by
  have hs := h.size
  exact ⟨h.seq.below (hb.mono (by omega)), h.below.trans (hb.mono h.below.size), Nat.le_trans h.size hb.size,
    (hb.cell (p := ⟨w.heap.size, 0, none⟩) (by show w.heap.size < _; omega)).trans h.c0, (hb.cell (p := ⟨w.heap.size, 1, none⟩) (by show w.heap.size < _; omega)).trans h.c1,
    h.x.map (fun j => hb.cell (p := ⟨w.heap.size + 1, 0 + j, none⟩) (by show w.heap.size + 1 < _; omega)),
    (hb.cell (p := ⟨w.heap.size + 2, 0, none⟩) (by show w.heap.size + 2 < _; omega)).trans h.r0, (hb.cell (p := ⟨w.heap.size + 2, 1, none⟩) (by show w.heap.size + 2 < _; omega)).trans h.r1,
    fun j => (hb.frozen (p := ⟨w.heap.size + 1, j, none⟩) (by show w.heap.size + 1 < _; omega)).trans (h.f0 j), fun j => (hb.frozen (p := ⟨w.heap.size + 2, j, none⟩) (by show w.heap.size + 2 < _; omega)).trans (h.f2 j)⟩
theorem DInv.ret {w wx : World} {z : Int} {A : Option Addr} {n c : Nat} {l : List Ent} {x : Ent} (h : DInv w wx z A n c l x) (hn : n = l.length) (r : Int) (u v : Value) :
    RetS w z l r (.returned (.tuple #[cval z A n c, .int .i64 r])) ((wx.setCell ⟨w.heap.size + 2, 0, none⟩ u).setCell ⟨w.heap.size + 2, 1, none⟩ v) := by
  have hb := ((Below.refl w.heap.size wx).setCell (p := ⟨w.heap.size + 2, 0, none⟩) (by show w.heap.size ≤ w.heap.size + 2; omega) u).setCell (p := ⟨w.heap.size + 2, 1, none⟩) (by show w.heap.size ≤ w.heap.size + 2; omega) v
  exact ⟨A, n, c, rfl, hn, (h.seq.below hb).more (Nat.le_trans h.below.size hb.size), h.below.trans hb⟩
/-- the loop that removes: the cache that is made lies in block ob -/
structure LInv (w wx : World) (ob : Nat) (z : Int) (A : Option Addr) (n c : Nat) (l : List Ent) (x : Ent) : Prop where
  seq : SeqP wx (fun b => b < w.heap.size ∨ (ob < b ∧ b < wx.heap.size)) 8 A n (entsC l)
  hc : n ≤ c
  len : n = l.length
  below : Below w.heap.size w wx
  so : w.heap.size + 3 ≤ ob
  lo : ob < wx.heap.size
  c0 : wx.cell? ⟨w.heap.size, 0, none⟩ = some (.int .i64 z)
  x : CellsE wx (w.heap.size + 1) 0 x
  r0 : wx.cell? ⟨w.heap.size + 2, 0, none⟩ = some (.int .i64 0)
  r1 : wx.cell? ⟨w.heap.size + 2, 1, none⟩ = some (.slice none 0 0)
  o0 : wx.cell? ⟨ob, 0, none⟩ = some (.int .i64 z)
  o1 : wx.cell? ⟨ob, 1, none⟩ = some (.slice A n c)
  f1 : ∀ j, wx.frozen? ⟨w.heap.size + 1, j, none⟩ = false
  f2 : ∀ j, wx.frozen? ⟨w.heap.size + 2, j, none⟩ = false
  fo : ∀ j, wx.frozen? ⟨ob, j, none⟩ = false
theorem LInv.seq' {w wx : World} {ob : Nat} {z : Int} {A : Option Addr} {n c : Nat} {l : List Ent} {x : Ent} (h : LInv w wx ob z A n c l x) : Seq wx wx.heap.size 8 A n (entsC l) := SeqP.imp h.seq (fun b hb => by
  have := h.so
  have := h.lo
  rcases hb with hb | hb
  · omega
  · exact hb.2)
theorem LInv.at {w wx wy : World} {ob : Nat} {z : Int} {A : Option Addr} {n c : Nat} {l : List Ent} {x : Ent} (h : LInv w wx ob z A n c l x) (hb : Below wx.heap.size wx wy) : LInv w wy ob z A n c l x := by
  have h1 := h.so
  have h2 := h.lo
  have h3 := hb.size
  exact ⟨SeqP.map h.seq (fun p hp => hb.cell (by rcases hp with hp | hp <;> omega)) (fun b hp => by rcases hp with hp | hp <;> omega), h.hc, h.len, h.below.trans (hb.mono h.below.size), h.so, by omega,
    (hb.cell (p := ⟨w.heap.size, 0, none⟩) (by show w.heap.size < _; omega)).trans h.c0,
    h.x.map (fun j => hb.cell (p := ⟨w.heap.size + 1, 0 + j, none⟩) (by show w.heap.size + 1 < _; omega)),
    (hb.cell (p := ⟨w.heap.size + 2, 0, none⟩) (by show w.heap.size + 2 < _; omega)).trans h.r0, (hb.cell (p := ⟨w.heap.size + 2, 1, none⟩) (by show w.heap.size + 2 < _; omega)).trans h.r1,
    (hb.cell (p := ⟨ob, 0, none⟩) h2).trans h.o0, (hb.cell (p := ⟨ob, 1, none⟩) h2).trans h.o1,
    fun j => (hb.frozen (p := ⟨w.heap.size + 1, j, none⟩) (by show w.heap.size + 1 < _; omega)).trans (h.f1 j), fun j => (hb.frozen (p := ⟨w.heap.size + 2, j, none⟩) (by show w.heap.size + 2 < _; omega)).trans (h.f2 j), fun j => (hb.frozen (p := ⟨ob, j, none⟩) h2).trans (h.fo j)⟩
/-- another list is put into the cache that is made -/
theorem LInv.put {w wx : World} {ob : Nat} {z : Int} {A A' : Option Addr} {n n' c c' : Nat} {l l' : List Ent} {x : Ent} (h : LInv w wx ob z A n c l x) (hs : SeqP wx (fun b => b < w.heap.size ∨ (ob < b ∧ b < wx.heap.size)) 8 A' n' (entsC l')) (hc : n' ≤ c') (hn : n' = l'.length) : LInv w (wx.setCell ⟨ob, 1, none⟩ (.slice A' n' c')) ob z A' n' c' l' x := by
  have h1 := h.so
  have h2 := h.lo
  have far : ∀ p : Addr, p.block ≠ ob → (wx.setCell ⟨ob, 1, none⟩ (.slice A' n' c')).cell? p = wx.cell? p := fun p hp => World.cell?_setCell_far _ _ _ _ (fun e => hp e.symm)
  have hsz : (wx.setCell ⟨ob, 1, none⟩ (.slice A' n' c')).heap.size = wx.heap.size := by simp [World.setCell]
  refine ⟨?_, hc, hn, h.below.setCell (p := ⟨ob, 1, none⟩) (by show w.heap.size ≤ ob; omega) _, h1, by rw [hsz]; exact h2, ?_, ?_, ?_, ?_, ?_, ?_, ?_, ?_, ?_⟩
  · exact SeqP.map hs (fun p hp => far p (by rcases hp with hp | hp <;> omega)) (fun b hp => by rw [hsz]; exact hp)
  · exact (far _ (by show w.heap.size ≠ _; omega)).trans h.c0
  · exact h.x.map (fun j => far _ (by show w.heap.size + 1 ≠ _; omega))
  · exact (far _ (by show w.heap.size + 2 ≠ _; omega)).trans h.r0
  · exact (far _ (by show w.heap.size + 2 ≠ _; omega)).trans h.r1
  · rw [World.cell?_setCell_other wx _ _ _ (by simp)]; exact h.o0
  · exact World.cell?_setCell_same wx _ _ h.o1
  · intro j; rw [World.frozen?_setCell]; exact h.f1 j
  · intro j; rw [World.frozen?_setCell]; exact h.f2 j
  · intro j; rw [World.frozen?_setCell]; exact h.fo j
theorem LInv.stamp {w wx : World} {ob : Nat} {z : Int} {A : Option Addr} {n c : Nat} {l : List Ent} {x : Ent} (h : LInv w wx ob z A n c l x) (now : Int) : LInv w ((wx.setCell ⟨w.heap.size + 1, 6, none⟩ (.int .i64 now)).setCell ⟨w.heap.size + 1, 7, none⟩ (.int .i64 now)) ob z A n c l (stamp x now) := by
  have h1 := h.so
  have h2 := h.lo
  generalize hwy : (wx.setCell ⟨w.heap.size + 1, 6, none⟩ (.int .i64 now)).setCell ⟨w.heap.size + 1, 7, none⟩ (.int .i64 now) = wy
  have far : ∀ p : Addr, p.block ≠ w.heap.size + 1 → wy.cell? p = wx.cell? p := fun p hp => by rw [← hwy, World.cell?_setCell_far _ _ _ _ (fun e => hp e.symm), World.cell?_setCell_far _ _ _ _ (fun e => hp e.symm)]
  have fr : ∀ p : Addr, wy.frozen? p = wx.frozen? p := fun p => by rw [← hwy, World.frozen?_setCell, World.frozen?_setCell]
  have hsz : wy.heap.size = wx.heap.size := by rw [← hwy]; simp [World.setCell]
  have hx := h.x
  have o : ∀ j, j ≠ 6 → j ≠ 7 → wy.cell? ⟨w.heap.size + 1, j, none⟩ = wx.cell? ⟨w.heap.size + 1, j, none⟩ := fun j h6 h7 => by
    rw [← hwy, World.cell?_setCell_other _ _ _ _ (by intro e; injection e with _ e; exact h7 e.symm), World.cell?_setCell_other _ _ _ _ (by intro e; injection e with _ e; exact h6 e.symm)]
  have c6 : wy.cell? ⟨w.heap.size + 1, 6, none⟩ = some (.int .i64 now) := by
    rw [← hwy, World.cell?_setCell_other _ _ _ _ (by simp)]
    exact World.cell?_setCell_same wx _ _ (by simpa using hx.c6)
  have c7 : wy.cell? ⟨w.heap.size + 1, 7, none⟩ = some (.int .i64 now) := by
    rw [← hwy]
    refine World.cell?_setCell_same (wx.setCell ⟨w.heap.size + 1, 6, none⟩ (.int .i64 now)) _ _ (?_ : _ = some (.int .i64 x.used))
    rw [World.cell?_setCell_other _ _ _ _ (by simp)]
    simpa using hx.c7
  refine ⟨?_, h.hc, h.len, ?_, h1, by rw [hsz]; exact h2, (far _ (by show w.heap.size ≠ _; omega)).trans h.c0, ?_, (far _ (by show w.heap.size + 2 ≠ _; omega)).trans h.r0, (far _ (by show w.heap.size + 2 ≠ _; omega)).trans h.r1,
    (far _ (by show ob ≠ _; omega)).trans h.o0, (far _ (by show ob ≠ _; omega)).trans h.o1, fun j => (fr _).trans (h.f1 j), fun j => (fr _).trans (h.f2 j), fun j => (fr _).trans (h.fo j)⟩
  · exact SeqP.map h.seq (fun p hp => far p (by rcases hp with hp | hp <;> omega)) (fun b hp => by rw [hsz]; exact hp)
  · rw [← hwy]
    exact (h.below.setCell (p := ⟨w.heap.size + 1, 6, none⟩) (by show w.heap.size ≤ w.heap.size + 1; omega) _).setCell (p := ⟨w.heap.size + 1, 7, none⟩) (by show w.heap.size ≤ w.heap.size + 1; omega) _
  · have s := fun j => (congrArg (fun q => wy.cell? ⟨w.heap.size + 1, q, none⟩) (Nat.zero_add j))
    exact ⟨(o 0 (by omega) (by omega)).trans hx.c0, (s 1).trans ((o 1 (by omega) (by omega)).trans (by simpa [Go.Proofs.YtpdlapdnjmoaoaaDoor.stamp] using hx.c1)), (s 2).trans ((o 2 (by omega) (by omega)).trans (by simpa [Go.Proofs.YtpdlapdnjmoaoaaDoor.stamp] using hx.c2)), (s 3).trans ((o 3 (by omega) (by omega)).trans (by simpa [Go.Proofs.YtpdlapdnjmoaoaaDoor.stamp] using hx.c3)), (s 4).trans ((o 4 (by omega) (by omega)).trans (by simpa [Go.Proofs.YtpdlapdnjmoaoaaDoor.stamp] using hx.c4)), (s 5).trans ((o 5 (by omega) (by omega)).trans (by simpa [Go.Proofs.YtpdlapdnjmoaoaaDoor.stamp] using hx.c5)), (s 6).trans c6, (s 7).trans c7⟩
theorem seqp_own {w : World} {base B : Nat} {e : TypeId} {sz n c : Nat} {A : Option Addr} {xs : List Value} (h : w.ownsRow base e sz (.slice A n c) n xs) (hB : B ≤ base) : SeqP w (fun g => B ≤ g ∧ g < w.heap.size) sz A n xs := by
  have hq := Seq.of_own h
  refine ⟨hq.1, fun hn => ?_⟩
  obtain ⟨b, o, rfl, hb, hc⟩ := hq.2 hn
  refine ⟨b, o, rfl, ⟨?_, hb⟩, hc⟩
  have := (h.lt b rfl).1
  omega
set_option maxRecDepth 100000 in
set_option maxHeartbeats 8000000 in
theorem refSave_any (z : Int) (l : List Ent) (x : Ent) (now : Int) (A : Option Addr) (n c : Nat) (w : World) (hn : n = l.length) (hs : Seq w w.heap.size 8 A n (entsC l)) (hc : n ≤ c) (hl : n ≤ 1000000) (hf : ∀ y ∈ l, y.fit) (hx : x.fit) :
    Calls Tryd.prog 21 #[cval z A n c, .agg (ent8 x), .int .i64 now] w (RetS w z (saveL z l x now) (saveE z l x now)) := by
  have hI : DInv w (((w.alloc (.cells #[.int .i64 z, .slice A n c] 24)).alloc (.cells (ent8 x) 42)).alloc (.cells #[.int .i64 0, .slice none 0 0] 24)) z A n c l x := by
    generalize hw1 : ((w.alloc (.cells #[.int .i64 z, .slice A n c] 24)).alloc (.cells (ent8 x) 42)).alloc (.cells #[.int .i64 0, .slice none 0 0] 24) = w1
    have hb0 : Below w.heap.size w w1 := by rw [← hw1]; exact (((Below.refl w.heap.size w).alloc (Nat.le_refl _) _).alloc (by simp) _).alloc (by simp; omega) _
    refine ⟨hs.below hb0, hb0, ?_, ?_, ?_, ?_, ?_, ?_, fun j => ?_, fun j => ?_⟩
    · rw [← hw1]; simp
    · rw [← hw1]; simp [go_sem]
    · rw [← hw1]; simp [go_sem]
    · rw [← hw1]; exact ⟨by simp [go_sem], by simp [go_sem], by simp [go_sem], by simp [go_sem], by simp [go_sem], by simp [go_sem], by simp [go_sem], by simp [go_sem]⟩
    · rw [← hw1]; simp [go_sem]
    · rw [← hw1]; simp [go_sem]
    · rw [← hw1]; simp [go_sem]
    · rw [← hw1]; simp [go_sem]
  replace hI := Lib.hid hI
  replace hn := Lib.hid hn
  replace hf := Lib.hid hf
  clear hs
  go_enter Tryd.func21, Tryd.ntmps21
  repeat' ((fail_if_success at_builtin); (first | go_skip | go_guarded | go_step))
  generalize World.alloc (World.alloc (World.alloc w _) _) _ = w3 at *
  replace hI := hI.out
  have hV := refValid_any z l A n c w3 hn.out (hI.seq.more hI.below.size) (by omega) hf.out
  refine hV.mono ?_
  rintro e w4 ⟨rfl, hb4⟩
  dsimp only
  replace hI := hI.at hb4
  clear hV hb4
  obtain ⟨b0, b1⟩ : w4.cell? ⟨w.heap.size, 0, none⟩ = some (.int .i64 z) ∧ w4.cell? ⟨w.heap.size, 1, none⟩ = some (.slice A n c) := ⟨hI.c0, hI.c1⟩
  obtain ⟨x0, x1, x2, x3, x4, x5, x6, x7⟩ := hI.x
  simp only [Nat.zero_add] at x1 x2 x3 x4 x5 x6 x7
  have r0 := hI.r0
  have r1 := hI.r1
  have f0 := hI.f0
  have f2 := hI.f2
  have hsz := hI.size
  have lz0 : w.heap.size < w4.heap.size := by omega
  have lz1 : w.heap.size + 1 < w4.heap.size := by omega
  have lz2 : w.heap.size + 2 < w4.heap.size := by omega
  have hnm : namedS x = (scopeS x.sc && inR x.key.size 1 512 && decide (x.dig ≠ 0)) := rfl
  cases hv : validS z l with
  | false =>
    have hev : errV z l = 1 := errV_bad hv
    rw [hev]
    have hE : saveE z l x now = 1 := by unfold saveE; rw [hv]; rfl
    have hK := hI.ret hn.out 1 (.int .i64 z) (.slice A n c)
    have hd := cells2 (u := .int .i64 z) (v := .slice A n c) r0 r1
    have hL : saveL z l x now = l := by unfold saveL; rw [hE, if_neg (by omega)]
    replace hE := Lib.hid hE
    replace hK := Lib.hid hK
    replace hL := Lib.hid hL
    clear hI
    repeat' ((fail_if_success at_builtin); (first | go_skip | go_guarded | go_step))
    generalize (w4.setCell ⟨w.heap.size + 2, 0, none⟩ (.int .i64 z)).setCell ⟨w.heap.size + 2, 1, none⟩ (.slice A n c) = wf at *
    obtain ⟨d0, d1⟩ := hd
    refine bodyPost_ret (v := .tuple #[cval z A n c, .int .i64 1]) (by simp only [results, Tryd.results21]; go_simp; try rfl) rfl ?_
    rw [hL.out, hE.out]
    exact hK.out
  | true =>
    have hev : errV z l = 0 := by unfold errV; rw [hv]; rfl
    rw [hev]
    obtain ⟨hok, hz40⟩ := valid_sizes hv
    have CN := refScope_any x.sc w4 hx.p hx.r
    replace CN := Lib.hid CN
    replace hI := Lib.hid hI
    repeat' ((fail_if_success at_builtin); (first | go_skip | go_guarded | go_step))
    refine CN.out.mono ?_
    rintro e w5 ⟨rfl, hb5⟩
    dsimp only
    replace hI := hI.out.at hb5
    clear CN hb5
    clear b0 b1 x0 x1 x2 x3 x4 x5 x6 x7 r0 r1 f0 f2
    obtain ⟨b0, b1⟩ : w5.cell? ⟨w.heap.size, 0, none⟩ = some (.int .i64 z) ∧ w5.cell? ⟨w.heap.size, 1, none⟩ = some (.slice A n c) := ⟨hI.c0, hI.c1⟩
    obtain ⟨x0, x1, x2, x3, x4, x5, x6, x7⟩ := hI.x
    simp only [Nat.zero_add] at x1 x2 x3 x4 x5 x6 x7
    have r0 := hI.r0
    have r1 := hI.r1
    have f0 := hI.f0
    have f2 := hI.f2
    have hsz := hI.size
    have lz0 : w.heap.size < w5.heap.size := by omega
    have lz1 : w.heap.size + 1 < w5.heap.size := by omega
    have lz2 : w.heap.size + 2 < w5.heap.size := by omega
    cases hSc : scopeS x.sc with
    | false =>
      have hE : saveE z l x now = 1 := by unfold saveE; rw [hnm, hSc]; simp
      have hK := hI.ret hn.out 1 (.int .i64 z) (.slice A n c)
      have hd := cells2 (u := .int .i64 z) (v := .slice A n c) r0 r1
      have hL : saveL z l x now = l := by unfold saveL; rw [hE, if_neg (by omega)]
      replace hE := Lib.hid hE
      replace hK := Lib.hid hK
      replace hL := Lib.hid hL
      clear hI
      repeat' ((fail_if_success at_builtin); (first | go_skip | go_guarded | go_step))
      generalize (w5.setCell ⟨w.heap.size + 2, 0, none⟩ (.int .i64 z)).setCell ⟨w.heap.size + 2, 1, none⟩ (.slice A n c) = wf at *
      obtain ⟨d0, d1⟩ := hd
      refine bodyPost_ret (v := .tuple #[cval z A n c, .int .i64 1]) (by simp only [results, Tryd.results21]; go_simp; try rfl) rfl ?_
      rw [hL.out, hE.out]
      exact hK.out
    | true =>
      replace hI := Lib.hid hI
      repeat' ((fail_if_success at_builtin); (first | go_skip | go_guarded | go_step))
      refine (inside_any _ _ _ _).mono ?_
      rintro e w6 ⟨rfl, rfl⟩
      dsimp only
      replace hI := hI.out
      cases hKy : inR x.key.size 1 512 with
      | false =>
        have hE : saveE z l x now = 1 := by unfold saveE; rw [hnm, hSc, hKy]; simp
        have hK := hI.ret hn.out 1 (.int .i64 z) (.slice A n c)
        have hd := cells2 (u := .int .i64 z) (v := .slice A n c) r0 r1
        have hL : saveL z l x now = l := by unfold saveL; rw [hE, if_neg (by omega)]
        replace hE := Lib.hid hE
        replace hK := Lib.hid hK
        replace hL := Lib.hid hL
        clear hI
        repeat' ((fail_if_success at_builtin); (first | go_skip | go_guarded | go_step))
        generalize (w6.setCell ⟨w.heap.size + 2, 0, none⟩ (.int .i64 z)).setCell ⟨w.heap.size + 2, 1, none⟩ (.slice A n c) = wf at *
        obtain ⟨d0, d1⟩ := hd
        refine bodyPost_ret (v := .tuple #[cval z A n c, .int .i64 1]) (by simp only [results, Tryd.results21]; go_simp; try rfl) rfl ?_
        rw [hL.out, hE.out]
        exact hK.out
      | true =>
        by_cases hdg : x.dig = 0
        · have hN : namedS x = false := by rw [hnm, hdg]; simp
          have hd0 : (x.dig == 0) = true := by simpa using hdg
          clear hdg
          have hE : saveE z l x now = 1 := by unfold saveE; rw [hN]; simp
          have hK := hI.ret hn.out 1 (.int .i64 z) (.slice A n c)
          have hd := cells2 (u := .int .i64 z) (v := .slice A n c) r0 r1
          have hL : saveL z l x now = l := by unfold saveL; rw [hE, if_neg (by omega)]
          replace hE := Lib.hid hE
          replace hK := Lib.hid hK
          replace hL := Lib.hid hL
          clear hI
          repeat' ((fail_if_success at_builtin); (first | go_skip | go_guarded | go_step))
          generalize (w6.setCell ⟨w.heap.size + 2, 0, none⟩ (.int .i64 z)).setCell ⟨w.heap.size + 2, 1, none⟩ (.slice A n c) = wf at *
          obtain ⟨d0, d1⟩ := hd
          refine bodyPost_ret (v := .tuple #[cval z A n c, .int .i64 1]) (by simp only [results, Tryd.results21]; go_simp; try rfl) rfl ?_
          rw [hL.out, hE.out]
          exact hK.out
        · have hN : namedS x = true := by rw [hnm, hSc, hKy, decide_eq_true hdg]; rfl
          have hd0 : (x.dig == 0) = false := by simpa using hdg
          clear hdg hnm
          replace hI := Lib.hid hI
          repeat' ((fail_if_success at_builtin); (first | go_skip | go_guarded | go_step))
          refine (inside_any _ _ _ _).mono ?_
          rintro e w6 ⟨rfl, rfl⟩
          dsimp only
          replace hI := hI.out
          cases hZ : inR x.size 0 1099511627776 with
          | false =>
            have hE : saveE z l x now = 2 := by unfold saveE; rw [hv, hN, hZ]; rfl
            have hK := hI.ret hn.out 2 (.int .i64 z) (.slice A n c)
            have hd := cells2 (u := .int .i64 z) (v := .slice A n c) r0 r1
            have hL : saveL z l x now = l := by unfold saveL; rw [hE, if_neg (by omega)]
            replace hE := Lib.hid hE
            replace hK := Lib.hid hK
            replace hL := Lib.hid hL
            clear hI
            repeat' ((fail_if_success at_builtin); (first | go_skip | go_guarded | go_step))
            generalize (w6.setCell ⟨w.heap.size + 2, 0, none⟩ (.int .i64 z)).setCell ⟨w.heap.size + 2, 1, none⟩ (.slice A n c) = wf at *
            obtain ⟨d0, d1⟩ := hd
            refine bodyPost_ret (v := .tuple #[cval z A n c, .int .i64 2]) (by simp only [results, Tryd.results21]; go_simp; try rfl) rfl ?_
            rw [hL.out, hE.out]
            exact hK.out
          | true =>
            replace hI := Lib.hid hI
            repeat' ((fail_if_success at_builtin); (first | go_skip | go_guarded | go_step))
            refine (inside_any _ _ _ _).mono ?_
            rintro e w7 ⟨rfl, rfl⟩
            dsimp only
            replace hI := hI.out
            cases hT : inR now 0 1125899906842624 with
            | false =>
              have hE : saveE z l x now = 2 := by unfold saveE; rw [hv, hN, hZ, hT]; rfl
              have hK := hI.ret hn.out 2 (.int .i64 z) (.slice A n c)
              have hd := cells2 (u := .int .i64 z) (v := .slice A n c) r0 r1
              have hL : saveL z l x now = l := by unfold saveL; rw [hE, if_neg (by omega)]
              replace hE := Lib.hid hE
              replace hK := Lib.hid hK
              replace hL := Lib.hid hL
              clear hI
              repeat' ((fail_if_success at_builtin); (first | go_skip | go_guarded | go_step))
              generalize (w7.setCell ⟨w.heap.size + 2, 0, none⟩ (.int .i64 z)).setCell ⟨w.heap.size + 2, 1, none⟩ (.slice A n c) = wf at *
              obtain ⟨d0, d1⟩ := hd
              refine bodyPost_ret (v := .tuple #[cval z A n c, .int .i64 2]) (by simp only [results, Tryd.results21]; go_simp; try rfl) rfl ?_
              rw [hL.out, hE.out]
              exact hK.out
            | true =>
              have hsq := hI.seq
              have hlo : ∀ k, n = k + 1 → ∃ (y : Ent) (b o : Nat), A = some ⟨b, o, none⟩ ∧ w7.cell? ⟨b, o + k * 8 + 6, none⟩ = some (.int .i64 y.created) ∧ lastOk l now = !decide (now < y.created) := by
                intro k hk
                have hkl : k < l.length := by have := hn.out; omega
                have hy : l[k]? = some l[k] := List.getElem?_eq_getElem hkl
                obtain ⟨b, o, rfl, _, hc⟩ := ent_at hsq hn.out hy
                refine ⟨l[k], b, o, rfl, hc.c6, ?_⟩
                unfold lastOk
                rw [List.getLast?_eq_getElem?, show l.length - 1 = k from by have := hn.out; omega, hy]
              have hl0 : n = 0 → lastOk l now = true := by
                intro h0
                have : l = [] := List.eq_nil_of_length_eq_zero (by have := hn.out; omega)
                subst this
                rfl
              cases n with
              | zero =>
                have hLk := hl0 rfl
                clear hlo hl0 hsq
                replace hLk := Lib.hid hLk
                have hfd := refFind_any x.sc x.key l A 0 c w7 hn.out (hI.seq.more hI.below.size) (by omega)
                replace hfd := Lib.hid hfd
                replace hI := Lib.hid hI
                repeat' ((fail_if_success at_builtin); (first | go_skip | go_guarded | go_step))
                refine hfd.out.mono ?_
                rintro e w8 ⟨rfl, hb8⟩
                dsimp only
                replace hI := hI.out.at hb8
                clear hfd hb8
                clear b0 b1 x0 x1 x2 x3 x4 x5 x6 x7 r0 r1 f0 f2
                obtain ⟨b0, b1⟩ : w8.cell? ⟨w.heap.size, 0, none⟩ = some (.int .i64 z) ∧ w8.cell? ⟨w.heap.size, 1, none⟩ = some (.slice A 0 c) := ⟨hI.c0, hI.c1⟩
                obtain ⟨x0, x1, x2, x3, x4, x5, x6, x7⟩ := hI.x
                simp only [Nat.zero_add] at x1 x2 x3 x4 x5 x6 x7
                have r0 := hI.r0
                have r1 := hI.r1
                have f0 := hI.f0
                have f2 := hI.f2
                have hsz := hI.size
                have lz0 : w.heap.size < w8.heap.size := by omega
                have lz1 : w.heap.size + 1 < w8.heap.size := by omega
                have lz2 : w.heap.size + 2 < w8.heap.size := by omega
                by_cases hF : 0 ≤ findI x.sc x.key l
                · have hEf : saveE z l x now = 7 := by unfold saveE; rw [hv, hN, hZ, hT, hLk.out, if_pos hF]; rfl
                  have hE : saveE z l x now = 7 := by exact hEf
                  have hK := hI.ret hn.out 7 (.int .i64 z) (.slice A 0 c)
                  have hd := cells2 (u := .int .i64 z) (v := .slice A 0 c) r0 r1
                  have hL : saveL z l x now = l := by unfold saveL; rw [hE, if_neg (by omega)]
                  replace hE := Lib.hid hE
                  replace hK := Lib.hid hK
                  replace hL := Lib.hid hL
                  clear hI
                  repeat' ((fail_if_success at_builtin); (first | go_skip | go_guarded | go_step))
                  generalize (w8.setCell ⟨w.heap.size + 2, 0, none⟩ (.int .i64 z)).setCell ⟨w.heap.size + 2, 1, none⟩ (.slice A 0 c) = wf at *
                  obtain ⟨d0, d1⟩ := hd
                  refine bodyPost_ret (v := .tuple #[cval z A 0 c, .int .i64 7]) (by simp only [results, Tryd.results21]; go_simp; try rfl) rfl ?_
                  rw [hL.out, hE.out]
                  exact hK.out
                · by_cases hG : z < x.size
                  · have hEf : saveE z l x now = 15 := by unfold saveE; rw [hv, hN, hZ, hT, hLk.out, if_neg hF, if_pos hG]; rfl
                    have hE : saveE z l x now = 15 := by exact hEf
                    have hK := hI.ret hn.out 15 (.int .i64 z) (.slice A 0 c)
                    have hd := cells2 (u := .int .i64 z) (v := .slice A 0 c) r0 r1
                    have hL : saveL z l x now = l := by unfold saveL; rw [hE, if_neg (by omega)]
                    replace hE := Lib.hid hE
                    replace hK := Lib.hid hK
                    replace hL := Lib.hid hL
                    clear hI
                    repeat' ((fail_if_success at_builtin); (first | go_skip | go_guarded | go_step))
                    generalize (w8.setCell ⟨w.heap.size + 2, 0, none⟩ (.int .i64 z)).setCell ⟨w.heap.size + 2, 1, none⟩ (.slice A 0 c) = wf at *
                    obtain ⟨d0, d1⟩ := hd
                    refine bodyPost_ret (v := .tuple #[cval z A 0 c, .int .i64 15]) (by simp only [results, Tryd.results21]; go_simp; try rfl) rfl ?_
                    rw [hL.out, hE.out]
                    exact hK.out
                  · have hEf : saveE z l x now = 0 := by unfold saveE; rw [hv, hN, hZ, hT, hLk.out, if_neg hF, if_neg hG]; rfl
                    have hxs : 0 ≤ x.size := by unfold inR at hZ; simp at hZ; exact hZ.1
                    have hLf : saveL z l x now = roomS z x.size l ++ [stamp x now] := by unfold saveL; rw [hEf, if_pos rfl]
                    replace hEf := Lib.hid hEf
                    replace hLf := Lib.hid hLf
                    have hL0 : LInv w (w8.alloc (.cells #[.int .i64 z, .slice A 0 c] 24)) w8.heap.size z A 0 c l x := by
                      have hba : Below w8.heap.size w8 (w8.alloc (.cells #[.int .i64 z, .slice A 0 c] 24)) := (Below.refl _ _).alloc (Nat.le_refl _) _
                      have hI2 := hI.at hba
                      exact ⟨SeqP.imp hI2.seq (fun b hb => .inl hb), hc, hn.out, hI2.below, hI.size, by simp, hI2.c0, hI2.x, hI2.r0, hI2.r1, by simp [go_sem], by simp [go_sem], hI2.f0, hI2.f2, fun j => by simp [go_sem]⟩
                    generalize hobd : w8.heap.size = ob at *
                    replace hL0 := Lib.hid hL0
                    clear hI
                    repeat' ((fail_if_success at_builtin); (first | go_skip | go_guarded | go_step))
                    go_loopw [93] (fun _ wr => ∃ (l' : List Ent) (A : Option Addr) (n c : Nat), LInv w wr ob z A n c l' x ∧ SizeOk l' ∧ roomS z x.size l = roomS z x.size l') (fun _ wr => sizeAt ob wr)
                    case atStart => exact ⟨l, A, 0, c, hL0.out, hok, rfl⟩
                    case round =>
                      clear hL0 hok
                      obtain ⟨l', A, n, c, hL, hok', hst⟩ := hrel
                      have b0 := hL.c0
                      have x5 := hL.x.c5
                      simp only [Nat.zero_add] at x5
                      have o0 := hL.o0
                      have o1 := hL.o1
                      have lob := hL.lo
                      have lso := hL.so
                      have lz0 : w.heap.size < wr.heap.size := by omega
                      have lz1 : w.heap.size + 1 < wr.heap.size := by omega
                      have hlen := hok'.len
                      rw [← hL.len] at hlen
                      obtain ⟨hu0, hu1⟩ := used_bound hok'
                      have CU := fun (w' : World) (h : Below wr.heap.size wr w') => refUsed_any z l' A n c w' hL.len (hL.at h).seq' (by omega) (fun x hx => by have := hok'.size x hx; unfold I64; omega)
                      have hfull : fullS z x.size l' = (decide (1024 ≤ n) || decide (z < usedS l' + x.size)) := by rw [hL.len]; rfl
                      generalize hus : usedS l' = us at *
                      have hxz : x.size ≤ z := by omega
                      have hw1 : IntKind.i64.wrap (us + x.size) = us + x.size := IntWalk.i64_in _ (by omega)
                      have hmeas : sizeAt ob wr = n := by unfold sizeAt; rw [o1]
                      have hnl := Lib.hid hL.len
                      replace CU := Lib.hid CU
                      replace hst := Lib.hid hst
                      replace hL := Lib.hid hL
                      replace hmeas := Lib.hid hmeas
                      clear hus
                      cases hf2 : fullS z x.size l' with
                      | false =>
                        rw [hf2] at hfull
                        have hst := Lib.hid (hst.out.trans (room_stop hf2))
                        have h1 : ¬ 1024 ≤ n := by intro h; rw [decide_eq_true h] at hfull; simp at hfull
                        have h1' : ¬ ((1024 : Int) ≤ (n : Int)) := by omega
                        have h2 : ¬ (z < us + x.size) := by intro h; rw [decide_eq_true h] at hfull; simp at hfull
                        clear hfull
                        have hS1 : Below wr.heap.size wr wr.drew ∧ wr.drew.cell? ⟨w.heap.size, 0, none⟩ = some (.int .i64 z) ∧ wr.drew.cell? ⟨w.heap.size + 1, 5, none⟩ = some (.int .i64 x.size) ∧ wr.drew.cell? ⟨ob, 0, none⟩ = some (.int .i64 z) ∧ wr.drew.cell? ⟨ob, 1, none⟩ = some (.slice A n c) := ⟨(Below.refl _ _).drew, b0, x5, o0, o1⟩
                        have keepS : ∀ w' w'', (Below wr.heap.size wr w' ∧ w'.cell? ⟨w.heap.size, 0, none⟩ = some (.int .i64 z) ∧ w'.cell? ⟨w.heap.size + 1, 5, none⟩ = some (.int .i64 x.size) ∧ w'.cell? ⟨ob, 0, none⟩ = some (.int .i64 z) ∧ w'.cell? ⟨ob, 1, none⟩ = some (.slice A n c)) → Below w'.heap.size w' w'' → (Below wr.heap.size wr w'' ∧ w''.cell? ⟨w.heap.size, 0, none⟩ = some (.int .i64 z) ∧ w''.cell? ⟨w.heap.size + 1, 5, none⟩ = some (.int .i64 x.size) ∧ w''.cell? ⟨ob, 0, none⟩ = some (.int .i64 z) ∧ w''.cell? ⟨ob, 1, none⟩ = some (.slice A n c)) := fun w' w'' h hc => ⟨h.1.trans (hc.mono h.1.size), (hc.cell (p := ⟨w.heap.size, 0, none⟩) (Nat.lt_of_lt_of_le lz0 h.1.size)).trans h.2.1, (hc.cell (p := ⟨w.heap.size + 1, 5, none⟩) (Nat.lt_of_lt_of_le lz1 h.1.size)).trans h.2.2.1, (hc.cell (p := ⟨ob, 0, none⟩) (Nat.lt_of_lt_of_le lob h.1.size)).trans h.2.2.2.1, (hc.cell (p := ⟨ob, 1, none⟩) (Nat.lt_of_lt_of_le lob h.1.size)).trans h.2.2.2.2⟩
                        replace keepS := Lib.hid keepS
                        repeat' ((fail_if_success at_builtin); (first | go_skip | go_guarded | go_step))
                        refine wp_region_held_drew (S := fun w' => Below wr.heap.size wr w' ∧ w'.cell? ⟨w.heap.size, 0, none⟩ = some (.int .i64 z) ∧ w'.cell? ⟨w.heap.size + 1, 5, none⟩ = some (.int .i64 x.size) ∧ w'.cell? ⟨ob, 0, none⟩ = some (.int .i64 z) ∧ w'.cell? ⟨ob, 1, none⟩ = some (.slice A n c)) (by kernel_rfl) ?_ (fun hHeld => ?_)
                        · (try dsimp only)
                          exact hS1
                        refine wpAnyH_take (i := 0) (v := ?v362) rfl (by kernel_rfl) (by kernel_rfl) (by kernel_rfl) (fun _ _ _ h => h) (Or.inl ⟨by rfl, ?hy362⟩) (by assumption) ?rest362
                        case hy362 => (intro w hSw; (try dsimp only at hSw); go_simp; try with_reducible rfl)
                        simp only [Act.put, List.getElem_toArray, List.getElem_cons_zero, List.setIfInBounds_toArray, List.set_cons_zero, List.set_cons_succ]
                        refine wpAnyH_take (i := 1) (v := ?v363) rfl (by kernel_rfl) (by kernel_rfl) (by kernel_rfl) (fun _ _ _ h => h) (Or.inl ⟨by rfl, ?hy363⟩) (by assumption) ?rest363
                        case hy363 => (intro w hSw; (try dsimp only at hSw); go_simp; try with_reducible rfl)
                        simp only [Act.put, List.getElem_toArray, List.getElem_cons_zero, List.getElem_cons_succ, List.setIfInBounds_toArray, List.set_cons_zero, List.set_cons_succ]
                        refine wpAnyH_take (i := 2) (v := ?v364) rfl (by kernel_rfl) (by kernel_rfl) (by kernel_rfl) (fun _ _ _ h => h) (Or.inl ⟨by rfl, ?hy364⟩) (by assumption) ?rest364
                        case hy364 => (intro w hSw; (try dsimp only at hSw); go_simp; try with_reducible rfl)
                        simp only [Act.put, List.getElem_toArray, List.getElem_cons_zero, List.getElem_cons_succ, List.setIfInBounds_toArray, List.set_cons_zero, List.set_cons_succ]
                        refine wpAnyH_take (i := 3) (v := ?v365) rfl (by kernel_rfl) (by kernel_rfl) (by kernel_rfl) (fun _ _ _ h => h) (Or.inl ⟨by rfl, ?hy365⟩) (by assumption) ?rest365
                        case hy365 => (intro w hSw; (try dsimp only at hSw); go_simp; try with_reducible rfl)
                        simp only [Act.put, List.getElem_toArray, List.getElem_cons_zero, List.getElem_cons_succ, List.setIfInBounds_toArray, List.set_cons_zero, List.set_cons_succ]
                        refine wpAnyH_take (i := 4) (v := ?v366) rfl (by kernel_rfl) (by kernel_rfl) (by kernel_rfl) (fun _ _ _ h => h) (Or.inl ⟨by rfl, ?hy366⟩) (by assumption) ?rest366
                        case hy366 => (intro w hSw; (try dsimp only at hSw); go_simp; try with_reducible rfl)
                        simp only [Act.put, List.getElem_toArray, List.getElem_cons_zero, List.getElem_cons_succ, List.setIfInBounds_toArray, List.set_cons_zero, List.set_cons_succ]
                        refine wpAnyH_take (i := 5) (v := ?v367) rfl (by kernel_rfl) (by kernel_rfl) (by kernel_rfl) (fun _ _ _ h => h) (Or.inl ⟨by rfl, ?hy367⟩) (by assumption) ?rest367
                        case hy367 => (intro w hSw; (try dsimp only at hSw); go_simp; try with_reducible rfl)
                        simp only [Act.put, List.getElem_toArray, List.getElem_cons_zero, List.getElem_cons_succ, List.setIfInBounds_toArray, List.set_cons_zero, List.set_cons_succ]
                        refine wpAnyH_take (i := 7) (v := ?v368) rfl (by kernel_rfl) (by kernel_rfl) (by kernel_rfl) (fun _ _ _ h => h) (Or.inl ⟨by rfl, ?hy368⟩) (by assumption) ?rest368
                        case hy368 => (intro w hSw; (try dsimp only at hSw); go_simp; try with_reducible rfl)
                        simp only [Act.put, List.getElem_toArray, List.getElem_cons_zero, List.getElem_cons_succ, List.setIfInBounds_toArray, List.set_cons_zero, List.set_cons_succ]
                        refine wpAnyH_take (i := 8) (v := ?v369) rfl (by kernel_rfl) (by kernel_rfl) (by kernel_rfl) (fun _ _ _ h => h) (Or.inl ⟨by rfl, ?hy369⟩) (by assumption) ?rest369
                        case hy369 => (intro w hSw; (try dsimp only at hSw); go_simp; try with_reducible rfl)
                        simp only [Act.put, List.getElem_toArray, List.getElem_cons_zero, List.getElem_cons_succ, List.setIfInBounds_toArray, List.set_cons_zero, List.set_cons_succ]
                        refine wpAnyH_take (i := 10) (v := ?v370) rfl (by kernel_rfl) (by kernel_rfl) (by kernel_rfl) (fun _ _ _ h => h) (Or.inl ⟨by rfl, ?hy370⟩) (by assumption) ?rest370
                        case hy370 => (intro w hSw; (try dsimp only at hSw); go_simp; try with_reducible rfl)
                        simp only [Act.put, List.getElem_toArray, List.getElem_cons_zero, List.getElem_cons_succ, List.setIfInBounds_toArray, List.set_cons_zero, List.set_cons_succ]
                        refine wpAnyH_take (i := 11) (v := ?v371) rfl (by kernel_rfl) (by kernel_rfl) (by kernel_rfl) (fun _ _ _ h => h) (Or.inl ⟨by rfl, ?hy371⟩) (by assumption) ?rest371
                        case hy371 => (intro w hSw; (try dsimp only at hSw); go_simp; try with_reducible rfl)
                        simp only [Act.put, List.getElem_toArray, List.getElem_cons_zero, List.getElem_cons_succ, List.setIfInBounds_toArray, List.set_cons_zero, List.set_cons_succ]
                        refine wpAnyH_ready (rs := [6]) (by kernel_rfl) (by simp) ?_
                        refine AllReadyH.cons rfl (fun K hK => ?_) AllReadyH.nil
                        go_simp
                        go_at_call 14
                        refine (CU.out _ hHeld.1).mono ?_
                        rintro e wu ⟨rfl, hbq⟩
                        dsimp only
                        refine hK.out _ _ ?_ (fun hHeld => ?_)
                        · (try dsimp only)
                          exact keepS.out _ _ hHeld hbq
                        clear hK K
                        try simp only [Act.put, List.getElem_toArray, List.getElem_cons_zero, List.getElem_cons_succ, List.setIfInBounds_toArray, List.set_cons_zero, List.set_cons_succ]
                        refine wpAnyH_take (i := 9) (v := ?v372) rfl (by kernel_rfl) (by kernel_rfl) (by kernel_rfl) (fun _ _ _ h => h) (Or.inl ⟨by rfl, ?hy372⟩) (by assumption) ?rest372
                        case hy372 => (intro w hSw; (try dsimp only at hSw); go_simp; try with_reducible rfl)
                        simp only [Act.put, List.getElem_toArray, List.getElem_cons_zero, List.getElem_cons_succ, List.setIfInBounds_toArray, List.set_cons_zero, List.set_cons_succ]
                        refine wpAnyH_take (i := 12) (v := ?v373) rfl (by kernel_rfl) (by kernel_rfl) (by kernel_rfl) (fun _ _ _ h => h) (Or.inl ⟨by rfl, ?hy373⟩) (by assumption) ?rest373
                        case hy373 => (intro w hSw; (try dsimp only at hSw); go_simp; try with_reducible rfl)
                        simp only [Act.put, List.getElem_toArray, List.getElem_cons_zero, List.getElem_cons_succ, List.setIfInBounds_toArray, List.set_cons_zero, List.set_cons_succ]
                        refine wpAnyH_take (i := 13) (v := ?v374) rfl (by kernel_rfl) (by kernel_rfl) (by kernel_rfl) (fun _ _ _ h => h) (Or.inl ⟨by rfl, ?hy374⟩) (by assumption) ?rest374
                        case hy374 => (intro w hSw; (try dsimp only at hSw); go_simp; try with_reducible rfl)
                        simp only [Act.put, List.getElem_toArray, List.getElem_cons_zero, List.getElem_cons_succ, List.setIfInBounds_toArray, List.set_cons_zero, List.set_cons_succ]
                        refine wpAnyH_done (by kernel_rfl) ?_ _
                        replace hL := hL.out.at hHeld.1
                        clear b0 x5 o0 o1 CU hS1 keepS hHeld
                        obtain ⟨x0, x1, x2, x3, x4, x5, x6, x7⟩ := hL.x
                        simp only [Nat.zero_add] at x1 x2 x3 x4 x5 x6 x7
                        have g6 := hL.f1 6
                        have g7 := hL.f1 7
                        have o1 := hL.o1
                        have lw := hL.lo
                        have lso := hL.so
                        have hLy := hL.stamp now
                        have hlr : (roomS z x.size l).length ≤ 1024 := by rw [hst.out]; exact hok'.len
                        have hby1 : (0 + n) * 88 ≤ 140737488355328 := by omega
                        have hby2 : (n + 1) * 88 ≤ 140737488355328 := by omega
                        have l61 : w.heap.size + 1 < wu.heap.size := by omega
                        replace hL := Lib.hid hL
                        replace hLy := Lib.hid hLy
                        repeat' ((fail_if_success at_builtin); (first | go_skip | go_guarded | go_step))
                        generalize (wu.setCell ⟨w.heap.size + 1, 6, none⟩ (.int .i64 now)).setCell ⟨w.heap.size + 1, 7, none⟩ (.int .i64 now) = wy at *
                        refine wp_appS (Own.nil_ wy 42 8) Tryd.underlying22 ent_info hLy.out.seq' (ents_one _) hby1 ?_
                        intro v wz ho hg
                        rw [Nat.zero_add, List.nil_append] at ho
                        obtain ⟨A2, c2, rfl⟩ := ho.slice_form
                        have hLz := hLy.out.at ho.2
                        obtain ⟨y0, y1, y2, y3, y4, y5, y6, y7⟩ := hLz.x
                        simp only [Nat.zero_add] at y1 y2 y3 y4 y5 y6 y7
                        have lz := hLz.lo
                        have l71 : w.heap.size + 1 < wz.heap.size := by omega
                        clear x0 x1 x2 x3 x4 x5 x6 x7 g6 g7 o1 hg
                        replace hLz := Lib.hid hLz
                        have hos := Lib.hid ho
                        repeat' ((fail_if_success at_builtin); (first | go_skip | go_guarded | go_step))
                        refine wp_app1 ho Tryd.underlying22 ent_info hby2 ?_
                        intro v wq ho2 hg2
                        obtain ⟨A3, c3, rfl⟩ := ho2.slice_form
                        have hLq := hLy.out.at ho2.2
                        have q0 := hLq.o0
                        have q1 := hLq.o1
                        have q2 := hLq.r0
                        have q3 := hLq.r1
                        have qf := hLq.fo 1
                        have qg0 := hLq.f2 0
                        have qg1 := hLq.f2 1
                        have lq := hLq.lo
                        have l81 : w.heap.size + 2 < wq.heap.size := by omega
                        have hne : ob ≠ w.heap.size + 2 := by omega
                        have hly := hLy.out.lo
                        have hfr : ∀ p : Addr, p.block ≠ ob → (wq.setCell ⟨ob, 1, none⟩ (.slice A3 (n + 1) c3)).cell? p = wq.cell? p := fun p hp => World.cell?_setCell_far _ _ _ _ (fun e => hp e.symm)
                        have hd := cells2 (u := .int .i64 z) (v := .slice A3 (n + 1) c3) ((hfr ⟨w.heap.size + 2, 0, none⟩ (by show w.heap.size + 2 ≠ ob; omega)).trans q2) ((hfr ⟨w.heap.size + 2, 1, none⟩ (by show w.heap.size + 2 ≠ ob; omega)).trans q3)
                        have hK : RetS w z (roomS z x.size l ++ [stamp x now]) 0 (.returned (.tuple #[cval z A3 (n + 1) c3, .int .i64 0])) (((wq.setCell ⟨ob, 1, none⟩ (.slice A3 (n + 1) c3)).setCell ⟨w.heap.size + 2, 0, none⟩ (.int .i64 z)).setCell ⟨w.heap.size + 2, 1, none⟩ (.slice A3 (n + 1) c3)) := by
                          refine ⟨A3, n + 1, c3, rfl, by rw [List.length_append, hst.out, ← hLy.out.len]; rfl, ?_, ?_⟩
                          · have := Seq.of_own (ownsRow_setCell_below (ownsRow_setCell_below (ownsRow_setCell_below ho2.1 (a := ⟨ob, 1, none⟩) hly (.slice A3 (n + 1) c3)) (a := ⟨w.heap.size + 2, 0, none⟩) (by show w.heap.size + 2 < _; omega) (.int .i64 z)) (a := ⟨w.heap.size + 2, 1, none⟩) (by show w.heap.size + 2 < _; omega) (.slice A3 (n + 1) c3))
                            rw [entsC_app, hst.out]
                            exact this
                          · exact ((hLq.below.setCell (p := ⟨ob, 1, none⟩) (by show w.heap.size ≤ ob; omega) _).setCell (p := ⟨w.heap.size + 2, 0, none⟩) (by show w.heap.size ≤ w.heap.size + 2; omega) _).setCell (p := ⟨w.heap.size + 2, 1, none⟩) (by show w.heap.size ≤ w.heap.size + 2; omega) _
                        replace hK := Lib.hid hK
                        replace hd := Lib.hid hd
                        clear hLq hfr ho2 hg2 y0 y1 y2 y3 y4 y5 y6 y7 ho
                        repeat' ((fail_if_success at_builtin); (first | go_skip | go_guarded | go_step))
                        replace hd := hd.out
                        generalize (World.setCell (World.setCell (World.setCell wq _ _) _ _) _ _) = wf at *
                        obtain ⟨d0, d1⟩ := hd
                        refine bodyPost_ret (v := .tuple #[cval z A3 (n + 1) c3, .int .i64 0]) (by simp only [results, Tryd.results21]; go_simp; try rfl) rfl ?_
                        rw [hLf.out, hEf.out]
                        exact hK.out
                      | true =>
                        rw [hf2] at hfull
                        have hst := Lib.hid (hst.out.trans (room_step hxz hf2))
                        have hn0 : 0 < n := by
                          have := hnl.out
                          cases l' with
                          | nil => rw [full_nil hxz] at hf2; cases hf2
                          | cons => simp at this; omega
                        have hol := oldS_lt (l := l') (by have := hnl.out; omega)
                        rw [← hnl.out] at hol
                        by_cases h1 : 1024 ≤ n
                        · have h1' : (1024 : Int) ≤ (n : Int) := by omega
                          clear hfull
                          have hS1 : Below wr.heap.size wr wr.drew ∧ wr.drew.cell? ⟨w.heap.size, 0, none⟩ = some (.int .i64 z) ∧ wr.drew.cell? ⟨w.heap.size + 1, 5, none⟩ = some (.int .i64 x.size) ∧ wr.drew.cell? ⟨ob, 0, none⟩ = some (.int .i64 z) ∧ wr.drew.cell? ⟨ob, 1, none⟩ = some (.slice A n c) := ⟨(Below.refl _ _).drew, b0, x5, o0, o1⟩
                          have keepS : ∀ w' w'', (Below wr.heap.size wr w' ∧ w'.cell? ⟨w.heap.size, 0, none⟩ = some (.int .i64 z) ∧ w'.cell? ⟨w.heap.size + 1, 5, none⟩ = some (.int .i64 x.size) ∧ w'.cell? ⟨ob, 0, none⟩ = some (.int .i64 z) ∧ w'.cell? ⟨ob, 1, none⟩ = some (.slice A n c)) → Below w'.heap.size w' w'' → (Below wr.heap.size wr w'' ∧ w''.cell? ⟨w.heap.size, 0, none⟩ = some (.int .i64 z) ∧ w''.cell? ⟨w.heap.size + 1, 5, none⟩ = some (.int .i64 x.size) ∧ w''.cell? ⟨ob, 0, none⟩ = some (.int .i64 z) ∧ w''.cell? ⟨ob, 1, none⟩ = some (.slice A n c)) := fun w' w'' h hc => ⟨h.1.trans (hc.mono h.1.size), (hc.cell (p := ⟨w.heap.size, 0, none⟩) (Nat.lt_of_lt_of_le lz0 h.1.size)).trans h.2.1, (hc.cell (p := ⟨w.heap.size + 1, 5, none⟩) (Nat.lt_of_lt_of_le lz1 h.1.size)).trans h.2.2.1, (hc.cell (p := ⟨ob, 0, none⟩) (Nat.lt_of_lt_of_le lob h.1.size)).trans h.2.2.2.1, (hc.cell (p := ⟨ob, 1, none⟩) (Nat.lt_of_lt_of_le lob h.1.size)).trans h.2.2.2.2⟩
                          replace keepS := Lib.hid keepS
                          repeat' ((fail_if_success at_builtin); (first | go_skip | go_guarded | go_step))
                          refine wp_region_held_drew (S := fun w' => Below wr.heap.size wr w' ∧ w'.cell? ⟨w.heap.size, 0, none⟩ = some (.int .i64 z) ∧ w'.cell? ⟨w.heap.size + 1, 5, none⟩ = some (.int .i64 x.size) ∧ w'.cell? ⟨ob, 0, none⟩ = some (.int .i64 z) ∧ w'.cell? ⟨ob, 1, none⟩ = some (.slice A n c)) (by kernel_rfl) ?_ (fun hHeld => ?_)
                          · (try dsimp only)
                            exact hS1
                          refine wpAnyH_take (i := 0) (v := ?v380) rfl (by kernel_rfl) (by kernel_rfl) (by kernel_rfl) (fun _ _ _ h => h) (Or.inl ⟨by rfl, ?hy380⟩) (by assumption) ?rest380
                          case hy380 => (intro w hSw; (try dsimp only at hSw); go_simp; try with_reducible rfl)
                          simp only [Act.put, List.getElem_toArray, List.getElem_cons_zero, List.setIfInBounds_toArray, List.set_cons_zero, List.set_cons_succ]
                          refine wpAnyH_take (i := 1) (v := ?v381) rfl (by kernel_rfl) (by kernel_rfl) (by kernel_rfl) (fun _ _ _ h => h) (Or.inl ⟨by rfl, ?hy381⟩) (by assumption) ?rest381
                          case hy381 => (intro w hSw; (try dsimp only at hSw); go_simp; try with_reducible rfl)
                          simp only [Act.put, List.getElem_toArray, List.getElem_cons_zero, List.getElem_cons_succ, List.setIfInBounds_toArray, List.set_cons_zero, List.set_cons_succ]
                          refine wpAnyH_take (i := 2) (v := ?v382) rfl (by kernel_rfl) (by kernel_rfl) (by kernel_rfl) (fun _ _ _ h => h) (Or.inl ⟨by rfl, ?hy382⟩) (by assumption) ?rest382
                          case hy382 => (intro w hSw; (try dsimp only at hSw); go_simp; try with_reducible rfl)
                          simp only [Act.put, List.getElem_toArray, List.getElem_cons_zero, List.getElem_cons_succ, List.setIfInBounds_toArray, List.set_cons_zero, List.set_cons_succ]
                          refine wpAnyH_take (i := 3) (v := ?v383) rfl (by kernel_rfl) (by kernel_rfl) (by kernel_rfl) (fun _ _ _ h => h) (Or.inl ⟨by rfl, ?hy383⟩) (by assumption) ?rest383
                          case hy383 => (intro w hSw; (try dsimp only at hSw); go_simp; try with_reducible rfl)
                          simp only [Act.put, List.getElem_toArray, List.getElem_cons_zero, List.getElem_cons_succ, List.setIfInBounds_toArray, List.set_cons_zero, List.set_cons_succ]
                          refine wpAnyH_take (i := 4) (v := ?v384) rfl (by kernel_rfl) (by kernel_rfl) (by kernel_rfl) (fun _ _ _ h => h) (Or.inl ⟨by rfl, ?hy384⟩) (by assumption) ?rest384
                          case hy384 => (intro w hSw; (try dsimp only at hSw); go_simp; try with_reducible rfl)
                          simp only [Act.put, List.getElem_toArray, List.getElem_cons_zero, List.getElem_cons_succ, List.setIfInBounds_toArray, List.set_cons_zero, List.set_cons_succ]
                          refine wpAnyH_take (i := 5) (v := undef) rfl (by kernel_rfl) (by kernel_rfl) (by kernel_rfl) (fun _ _ _ h => h) (Or.inr ⟨by rfl, rfl⟩) (by assumption) ?_
                          simp only [Act.put, List.getElem_toArray, List.getElem_cons_zero, List.getElem_cons_succ, List.setIfInBounds_toArray, List.set_cons_zero, List.set_cons_succ]
                          refine wpAnyH_take (i := 6) (v := undef) rfl (by kernel_rfl) (by kernel_rfl) (by kernel_rfl) (fun _ _ _ h => h) (Or.inr ⟨by rfl, rfl⟩) (by assumption) ?_
                          simp only [Act.put, List.getElem_toArray, List.getElem_cons_zero, List.getElem_cons_succ, List.setIfInBounds_toArray, List.set_cons_zero, List.set_cons_succ]
                          refine wpAnyH_take (i := 7) (v := undef) rfl (by kernel_rfl) (by kernel_rfl) (by kernel_rfl) (fun _ _ _ h => h) (Or.inr ⟨by rfl, rfl⟩) (by assumption) ?_
                          simp only [Act.put, List.getElem_toArray, List.getElem_cons_zero, List.getElem_cons_succ, List.setIfInBounds_toArray, List.set_cons_zero, List.set_cons_succ]
                          refine wpAnyH_take (i := 8) (v := undef) rfl (by kernel_rfl) (by kernel_rfl) (by kernel_rfl) (fun _ _ _ h => h) (Or.inr ⟨by rfl, rfl⟩) (by assumption) ?_
                          simp only [Act.put, List.getElem_toArray, List.getElem_cons_zero, List.getElem_cons_succ, List.setIfInBounds_toArray, List.set_cons_zero, List.set_cons_succ]
                          refine wpAnyH_take (i := 9) (v := undef) rfl (by kernel_rfl) (by kernel_rfl) (by kernel_rfl) (fun _ _ _ h => h) (Or.inr ⟨by rfl, rfl⟩) (by assumption) ?_
                          simp only [Act.put, List.getElem_toArray, List.getElem_cons_zero, List.getElem_cons_succ, List.setIfInBounds_toArray, List.set_cons_zero, List.set_cons_succ]
                          refine wpAnyH_take (i := 10) (v := undef) rfl (by kernel_rfl) (by kernel_rfl) (by kernel_rfl) (fun _ _ _ h => h) (Or.inr ⟨by rfl, rfl⟩) (by assumption) ?_
                          simp only [Act.put, List.getElem_toArray, List.getElem_cons_zero, List.getElem_cons_succ, List.setIfInBounds_toArray, List.set_cons_zero, List.set_cons_succ]
                          refine wpAnyH_take (i := 11) (v := undef) rfl (by kernel_rfl) (by kernel_rfl) (by kernel_rfl) (fun _ _ _ h => h) (Or.inr ⟨by rfl, rfl⟩) (by assumption) ?_
                          simp only [Act.put, List.getElem_toArray, List.getElem_cons_zero, List.getElem_cons_succ, List.setIfInBounds_toArray, List.set_cons_zero, List.set_cons_succ]
                          refine wpAnyH_take (i := 12) (v := undef) rfl (by kernel_rfl) (by kernel_rfl) (by kernel_rfl) (fun _ _ _ h => h) (Or.inr ⟨by rfl, rfl⟩) (by assumption) ?_
                          simp only [Act.put, List.getElem_toArray, List.getElem_cons_zero, List.getElem_cons_succ, List.setIfInBounds_toArray, List.set_cons_zero, List.set_cons_succ]
                          refine wpAnyH_take (i := 13) (v := ?v385) rfl (by kernel_rfl) (by kernel_rfl) (by kernel_rfl) (fun _ _ _ h => h) (Or.inl ⟨by rfl, ?hy385⟩) (by assumption) ?rest385
                          case hy385 => (intro w hSw; (try dsimp only at hSw); go_simp; try with_reducible rfl)
                          simp only [Act.put, List.getElem_toArray, List.getElem_cons_zero, List.getElem_cons_succ, List.setIfInBounds_toArray, List.set_cons_zero, List.set_cons_succ]
                          refine wpAnyH_done (by kernel_rfl) ?_ _
                          obtain ⟨hb9, _⟩ := hHeld
                          generalize wr.drew = wi at hb9 ⊢
                          clear b0 x5 o0 o1 CU hS1 keepS
                          replace hL := hL.out.at hb9
                          have o1 := hL.o1
                          have fo1 := hL.fo 1
                          have lob := hL.lo
                          have CO := fun (w' : World) (h : Below wi.heap.size wi w') => oldest_any l' A n c w' hL.len (hL.at h).seq' hn0 (by omega)
                          have CW := fun (w' : World) (h : Below wi.heap.size wi w') => without_any l' A n c (oldS l') w' hL.len (hL.at h).seq' hL.hc hol (by omega)
                          replace CO := Lib.hid CO
                          replace CW := Lib.hid CW
                          have hLh := Lib.hid hL
                          clear hL
                          repeat' ((fail_if_success at_builtin); (first | go_skip | go_guarded | go_step))
                          refine wp_region_held_drew (S := fun _ => True) (by kernel_rfl) trivial (fun hHeld => ?_)
                          refine wpAnyH_take (i := 0) (v := ?v375) rfl (by kernel_rfl) (by kernel_rfl) (by kernel_rfl) (fun _ _ _ h => h) (Or.inl ⟨by rfl, ?hy375⟩) (by assumption) ?rest375
                          case hy375 => (intro w hSw; (try dsimp only at hSw); go_simp; try with_reducible rfl)
                          simp only [Act.put, List.getElem_toArray, List.getElem_cons_zero, List.setIfInBounds_toArray, List.set_cons_zero, List.set_cons_succ]
                          refine wpAnyH_take (i := 2) (v := ?v376) rfl (by kernel_rfl) (by kernel_rfl) (by kernel_rfl) (fun _ _ _ h => h) (Or.inl ⟨by rfl, ?hy376⟩) (by assumption) ?rest376
                          case hy376 => (intro w hSw; (try dsimp only at hSw); go_simp; try with_reducible rfl)
                          simp only [Act.put, List.getElem_toArray, List.getElem_cons_zero, List.getElem_cons_succ, List.setIfInBounds_toArray, List.set_cons_zero, List.set_cons_succ]
                          refine wpAnyH_ready (rs := [1, 3]) (by kernel_rfl) (by simp) ?_
                          refine AllReadyH.cons rfl (fun K hK => ?_) ?_
                          · go_simp
                            refine hK.out _ _ trivial (fun hHeld => ?_)
                            clear hK K
                            try simp only [Act.put, List.getElem_toArray, List.getElem_cons_zero, List.getElem_cons_succ, List.setIfInBounds_toArray, List.set_cons_zero, List.set_cons_succ]
                            refine wpAnyH_ready (rs := [3]) (by kernel_rfl) (by simp) ?_
                            refine AllReadyH.cons rfl (fun K hK => ?_) ?_
                            · go_simp
                              refine hK.out _ _ trivial (fun hHeld => ?_)
                              clear hK K
                              try simp only [Act.put, List.getElem_toArray, List.getElem_cons_zero, List.getElem_cons_succ, List.setIfInBounds_toArray, List.set_cons_zero, List.set_cons_succ]
                              refine wpAnyH_ready (rs := [4]) (by kernel_rfl) (by simp) ?_
                              refine AllReadyH.cons rfl (fun K hK => ?_) ?_
                              · go_simp
                                go_at_call 46
                                refine (CO.out _ (Below.refl _ _).drew).mono ?_
                                rintro e w7 ⟨rfl, hb7⟩
                                dsimp only
                                have o7 : w7.cell? ⟨ob, 1, none⟩ = some (.slice A n c) := (hb7.cell (p := ⟨ob, 1, none⟩) lob).trans o1
                                refine hK.out _ _ trivial (fun hHeld => ?_)
                                clear hK K
                                try simp only [Act.put, List.getElem_toArray, List.getElem_cons_zero, List.getElem_cons_succ, List.setIfInBounds_toArray, List.set_cons_zero, List.set_cons_succ]
                                refine wpAnyH_ready (rs := [5]) (by kernel_rfl) (by simp) ?_
                                refine AllReadyH.cons rfl (fun K hK => ?_) ?_
                                · go_simp
                                  go_at_call 45
                                  refine (CW.out _ ((Below.refl _ _).drew.trans (hb7.mono (Nat.le_refl _)))).mono ?_
                                  rintro e w10 ⟨A', c', rfl, ho10, hc10⟩
                                  dsimp only
                                  have o10 : w10.cell? ⟨ob, 1, none⟩ = some (.slice A n c) := (ho10.2.cell (p := ⟨ob, 1, none⟩) (Nat.lt_of_lt_of_le lob hb7.size)).trans ((hb7.cell (p := ⟨ob, 1, none⟩) lob).trans o1)
                                  have f10 : w10.frozen? ⟨ob, 1, none⟩ = false := (ho10.2.frozen (p := ⟨ob, 1, none⟩) (Nat.lt_of_lt_of_le lob hb7.size)).trans ((hb7.frozen (p := ⟨ob, 1, none⟩) lob).trans fo1)
                                  have l10 : ob < w10.heap.size := Nat.lt_of_lt_of_le lob (Nat.le_trans hb7.size ho10.2.size)
                                  refine hK.out _ _ trivial (fun hHeld => ?_)
                                  clear hK K
                                  try simp only [Act.put, List.getElem_toArray, List.getElem_cons_zero, List.getElem_cons_succ, List.setIfInBounds_toArray, List.set_cons_zero, List.set_cons_succ]
                                  refine wpAnyH_take (i := 6) (v := ?v377) rfl (by kernel_rfl) (by kernel_rfl) (by kernel_rfl) (fun _ _ _ h => h) (Or.inl ⟨by rfl, ?hy377⟩) (by assumption) ?rest377
                                  case hy377 => (intro w hSw; (try dsimp only at hSw); go_simp; try with_reducible rfl)
                                  simp only [Act.put, List.getElem_toArray, List.getElem_cons_zero, List.getElem_cons_succ, List.setIfInBounds_toArray, List.set_cons_zero, List.set_cons_succ]
                                  refine wpAnyH_ready (rs := [7]) (by kernel_rfl) (by simp) ?_
                                  refine AllReadyH.cons rfl (fun K hK => ?_) ?_
                                  · go_simp
                                    refine hK.out _ _ trivial (fun hHeld => ?_)
                                    clear hK K
                                    try simp only [Act.put, List.getElem_toArray, List.getElem_cons_zero, List.getElem_cons_succ, List.setIfInBounds_toArray, List.set_cons_zero, List.set_cons_succ]
                                    refine wpAnyH_done (by kernel_rfl) ?_ _
                                    have hs7 : wi.heap.size ≤ w7.heap.size := hb7.size
                                    have hb11 : Below wi.heap.size wi w7 := (Below.refl _ _).drew.trans (hb7.mono (Nat.le_refl _))
                                    have hL2 := hLh.out.at (hb11.trans (ho10.2.mono hs7))
                                    have hq : SeqP w10 (fun b => b < w.heap.size ∨ (ob < b ∧ b < w10.heap.size)) 8 A' (n - 1) (entsC (l'.eraseIdx (oldS l'))) := SeqP.imp (seqp_own ho10.1 (Nat.le_refl _)) (fun b hb => .inr ⟨by omega, hb.2⟩)
                                    have hE : (l'.eraseIdx (oldS l')).length = n - 1 := by rw [List.length_eraseIdx_of_lt (by have := hnl.out; omega), hnl.out]
                                    have hLp := hL2.put hq hc10 hE.symm
                                    try go_frame
                                    go_roundw
                                    case rel => exact ⟨_, _, _, _, _, _, _, _, _, _, _, _, _, _, _, _, _, _, _, _, _, ⟨_, A', n - 1, c', hLp, hok'.erase _, hst.out⟩, rfl⟩
                                    case measure =>
                                      have h1 : sizeAt ob (w10.setCell ⟨ob, 1, none⟩ (.slice A' (n - 1) c')) = n - 1 := by
                                        unfold sizeAt
                                        rw [World.cell?_setCell_same w10 _ _ o10]
                                      rw [h1, hmeas.out]
                                      omega
                                  exact AllReadyH.nil
                                exact AllReadyH.nil
                              exact AllReadyH.nil
                            exact AllReadyH.nil
                          refine AllReadyH.cons rfl (fun K hK => ?_) ?_
                          · go_simp
                            refine hK.out _ _ trivial (fun hHeld => ?_)
                            clear hK K
                            try simp only [Act.put, List.getElem_toArray, List.getElem_cons_zero, List.getElem_cons_succ, List.setIfInBounds_toArray, List.set_cons_zero, List.set_cons_succ]
                            refine wpAnyH_ready (rs := [1, 4]) (by kernel_rfl) (by simp) ?_
                            refine AllReadyH.cons rfl (fun K hK => ?_) ?_
                            · go_simp
                              refine hK.out _ _ trivial (fun hHeld => ?_)
                              clear hK K
                              try simp only [Act.put, List.getElem_toArray, List.getElem_cons_zero, List.getElem_cons_succ, List.setIfInBounds_toArray, List.set_cons_zero, List.set_cons_succ]
                              refine wpAnyH_ready (rs := [4]) (by kernel_rfl) (by simp) ?_
                              refine AllReadyH.cons rfl (fun K hK => ?_) ?_
                              · go_simp
                                go_at_call 46
                                refine (CO.out _ (Below.refl _ _).drew).mono ?_
                                rintro e w7 ⟨rfl, hb7⟩
                                dsimp only
                                have o7 : w7.cell? ⟨ob, 1, none⟩ = some (.slice A n c) := (hb7.cell (p := ⟨ob, 1, none⟩) lob).trans o1
                                refine hK.out _ _ trivial (fun hHeld => ?_)
                                clear hK K
                                try simp only [Act.put, List.getElem_toArray, List.getElem_cons_zero, List.getElem_cons_succ, List.setIfInBounds_toArray, List.set_cons_zero, List.set_cons_succ]
                                refine wpAnyH_ready (rs := [5]) (by kernel_rfl) (by simp) ?_
                                refine AllReadyH.cons rfl (fun K hK => ?_) ?_
                                · go_simp
                                  go_at_call 45
                                  refine (CW.out _ ((Below.refl _ _).drew.trans (hb7.mono (Nat.le_refl _)))).mono ?_
                                  rintro e w10 ⟨A', c', rfl, ho10, hc10⟩
                                  dsimp only
                                  have o10 : w10.cell? ⟨ob, 1, none⟩ = some (.slice A n c) := (ho10.2.cell (p := ⟨ob, 1, none⟩) (Nat.lt_of_lt_of_le lob hb7.size)).trans ((hb7.cell (p := ⟨ob, 1, none⟩) lob).trans o1)
                                  have f10 : w10.frozen? ⟨ob, 1, none⟩ = false := (ho10.2.frozen (p := ⟨ob, 1, none⟩) (Nat.lt_of_lt_of_le lob hb7.size)).trans ((hb7.frozen (p := ⟨ob, 1, none⟩) lob).trans fo1)
                                  have l10 : ob < w10.heap.size := Nat.lt_of_lt_of_le lob (Nat.le_trans hb7.size ho10.2.size)
                                  refine hK.out _ _ trivial (fun hHeld => ?_)
                                  clear hK K
                                  try simp only [Act.put, List.getElem_toArray, List.getElem_cons_zero, List.getElem_cons_succ, List.setIfInBounds_toArray, List.set_cons_zero, List.set_cons_succ]
                                  refine wpAnyH_take (i := 6) (v := ?v378) rfl (by kernel_rfl) (by kernel_rfl) (by kernel_rfl) (fun _ _ _ h => h) (Or.inl ⟨by rfl, ?hy378⟩) (by assumption) ?rest378
                                  case hy378 => (intro w hSw; (try dsimp only at hSw); go_simp; try with_reducible rfl)
                                  simp only [Act.put, List.getElem_toArray, List.getElem_cons_zero, List.getElem_cons_succ, List.setIfInBounds_toArray, List.set_cons_zero, List.set_cons_succ]
                                  refine wpAnyH_ready (rs := [7]) (by kernel_rfl) (by simp) ?_
                                  refine AllReadyH.cons rfl (fun K hK => ?_) ?_
                                  · go_simp
                                    refine hK.out _ _ trivial (fun hHeld => ?_)
                                    clear hK K
                                    try simp only [Act.put, List.getElem_toArray, List.getElem_cons_zero, List.getElem_cons_succ, List.setIfInBounds_toArray, List.set_cons_zero, List.set_cons_succ]
                                    refine wpAnyH_done (by kernel_rfl) ?_ _
                                    have hs7 : wi.heap.size ≤ w7.heap.size := hb7.size
                                    have hb11 : Below wi.heap.size wi w7 := (Below.refl _ _).drew.trans (hb7.mono (Nat.le_refl _))
                                    have hL2 := hLh.out.at (hb11.trans (ho10.2.mono hs7))
                                    have hq : SeqP w10 (fun b => b < w.heap.size ∨ (ob < b ∧ b < w10.heap.size)) 8 A' (n - 1) (entsC (l'.eraseIdx (oldS l'))) := SeqP.imp (seqp_own ho10.1 (Nat.le_refl _)) (fun b hb => .inr ⟨by omega, hb.2⟩)
                                    have hE : (l'.eraseIdx (oldS l')).length = n - 1 := by rw [List.length_eraseIdx_of_lt (by have := hnl.out; omega), hnl.out]
                                    have hLp := hL2.put hq hc10 hE.symm
                                    try go_frame
                                    go_roundw
                                    case rel => exact ⟨_, _, _, _, _, _, _, _, _, _, _, _, _, _, _, _, _, _, _, _, _, ⟨_, A', n - 1, c', hLp, hok'.erase _, hst.out⟩, rfl⟩
                                    case measure =>
                                      have h1 : sizeAt ob (w10.setCell ⟨ob, 1, none⟩ (.slice A' (n - 1) c')) = n - 1 := by
                                        unfold sizeAt
                                        rw [World.cell?_setCell_same w10 _ _ o10]
                                      rw [h1, hmeas.out]
                                      omega
                                  exact AllReadyH.nil
                                exact AllReadyH.nil
                              exact AllReadyH.nil
                            refine AllReadyH.cons rfl (fun K hK => ?_) ?_
                            · go_simp
                              go_at_call 46
                              refine (CO.out _ (Below.refl _ _).drew).mono ?_
                              rintro e w7 ⟨rfl, hb7⟩
                              dsimp only
                              have o7 : w7.cell? ⟨ob, 1, none⟩ = some (.slice A n c) := (hb7.cell (p := ⟨ob, 1, none⟩) lob).trans o1
                              refine hK.out _ _ trivial (fun hHeld => ?_)
                              clear hK K
                              try simp only [Act.put, List.getElem_toArray, List.getElem_cons_zero, List.getElem_cons_succ, List.setIfInBounds_toArray, List.set_cons_zero, List.set_cons_succ]
                              refine wpAnyH_ready (rs := [1]) (by kernel_rfl) (by simp) ?_
                              refine AllReadyH.cons rfl (fun K hK => ?_) ?_
                              · go_simp
                                refine hK.out _ _ trivial (fun hHeld => ?_)
                                clear hK K
                                try simp only [Act.put, List.getElem_toArray, List.getElem_cons_zero, List.getElem_cons_succ, List.setIfInBounds_toArray, List.set_cons_zero, List.set_cons_succ]
                                refine wpAnyH_ready (rs := [5]) (by kernel_rfl) (by simp) ?_
                                refine AllReadyH.cons rfl (fun K hK => ?_) ?_
                                · go_simp
                                  go_at_call 45
                                  refine (CW.out _ ((Below.refl _ _).drew.trans (hb7.mono (Nat.le_refl _)))).mono ?_
                                  rintro e w10 ⟨A', c', rfl, ho10, hc10⟩
                                  dsimp only
                                  have o10 : w10.cell? ⟨ob, 1, none⟩ = some (.slice A n c) := (ho10.2.cell (p := ⟨ob, 1, none⟩) (Nat.lt_of_lt_of_le lob hb7.size)).trans ((hb7.cell (p := ⟨ob, 1, none⟩) lob).trans o1)
                                  have f10 : w10.frozen? ⟨ob, 1, none⟩ = false := (ho10.2.frozen (p := ⟨ob, 1, none⟩) (Nat.lt_of_lt_of_le lob hb7.size)).trans ((hb7.frozen (p := ⟨ob, 1, none⟩) lob).trans fo1)
                                  have l10 : ob < w10.heap.size := Nat.lt_of_lt_of_le lob (Nat.le_trans hb7.size ho10.2.size)
                                  refine hK.out _ _ trivial (fun hHeld => ?_)
                                  clear hK K
                                  try simp only [Act.put, List.getElem_toArray, List.getElem_cons_zero, List.getElem_cons_succ, List.setIfInBounds_toArray, List.set_cons_zero, List.set_cons_succ]
                                  refine wpAnyH_take (i := 6) (v := ?v379) rfl (by kernel_rfl) (by kernel_rfl) (by kernel_rfl) (fun _ _ _ h => h) (Or.inl ⟨by rfl, ?hy379⟩) (by assumption) ?rest379
                                  case hy379 => (intro w hSw; (try dsimp only at hSw); go_simp; try with_reducible rfl)
                                  simp only [Act.put, List.getElem_toArray, List.getElem_cons_zero, List.getElem_cons_succ, List.setIfInBounds_toArray, List.set_cons_zero, List.set_cons_succ]
                                  refine wpAnyH_ready (rs := [7]) (by kernel_rfl) (by simp) ?_
                                  refine AllReadyH.cons rfl (fun K hK => ?_) ?_
                                  · go_simp
                                    refine hK.out _ _ trivial (fun hHeld => ?_)
                                    clear hK K
                                    try simp only [Act.put, List.getElem_toArray, List.getElem_cons_zero, List.getElem_cons_succ, List.setIfInBounds_toArray, List.set_cons_zero, List.set_cons_succ]
                                    refine wpAnyH_done (by kernel_rfl) ?_ _
                                    have hs7 : wi.heap.size ≤ w7.heap.size := hb7.size
                                    have hb11 : Below wi.heap.size wi w7 := (Below.refl _ _).drew.trans (hb7.mono (Nat.le_refl _))
                                    have hL2 := hLh.out.at (hb11.trans (ho10.2.mono hs7))
                                    have hq : SeqP w10 (fun b => b < w.heap.size ∨ (ob < b ∧ b < w10.heap.size)) 8 A' (n - 1) (entsC (l'.eraseIdx (oldS l'))) := SeqP.imp (seqp_own ho10.1 (Nat.le_refl _)) (fun b hb => .inr ⟨by omega, hb.2⟩)
                                    have hE : (l'.eraseIdx (oldS l')).length = n - 1 := by rw [List.length_eraseIdx_of_lt (by have := hnl.out; omega), hnl.out]
                                    have hLp := hL2.put hq hc10 hE.symm
                                    try go_frame
                                    go_roundw
                                    case rel => exact ⟨_, _, _, _, _, _, _, _, _, _, _, _, _, _, _, _, _, _, _, _, _, ⟨_, A', n - 1, c', hLp, hok'.erase _, hst.out⟩, rfl⟩
                                    case measure =>
                                      have h1 : sizeAt ob (w10.setCell ⟨ob, 1, none⟩ (.slice A' (n - 1) c')) = n - 1 := by
                                        unfold sizeAt
                                        rw [World.cell?_setCell_same w10 _ _ o10]
                                      rw [h1, hmeas.out]
                                      omega
                                  exact AllReadyH.nil
                                exact AllReadyH.nil
                              exact AllReadyH.nil
                            exact AllReadyH.nil
                          exact AllReadyH.nil
                        · have h1' : ¬ ((1024 : Int) ≤ (n : Int)) := by omega
                          have h2 : z < us + x.size := by
                            rw [decide_eq_false h1, Bool.false_or] at hfull
                            simpa using hfull.symm
                          clear hfull
                          have hS1 : Below wr.heap.size wr wr.drew ∧ wr.drew.cell? ⟨w.heap.size, 0, none⟩ = some (.int .i64 z) ∧ wr.drew.cell? ⟨w.heap.size + 1, 5, none⟩ = some (.int .i64 x.size) ∧ wr.drew.cell? ⟨ob, 0, none⟩ = some (.int .i64 z) ∧ wr.drew.cell? ⟨ob, 1, none⟩ = some (.slice A n c) := ⟨(Below.refl _ _).drew, b0, x5, o0, o1⟩
                          have keepS : ∀ w' w'', (Below wr.heap.size wr w' ∧ w'.cell? ⟨w.heap.size, 0, none⟩ = some (.int .i64 z) ∧ w'.cell? ⟨w.heap.size + 1, 5, none⟩ = some (.int .i64 x.size) ∧ w'.cell? ⟨ob, 0, none⟩ = some (.int .i64 z) ∧ w'.cell? ⟨ob, 1, none⟩ = some (.slice A n c)) → Below w'.heap.size w' w'' → (Below wr.heap.size wr w'' ∧ w''.cell? ⟨w.heap.size, 0, none⟩ = some (.int .i64 z) ∧ w''.cell? ⟨w.heap.size + 1, 5, none⟩ = some (.int .i64 x.size) ∧ w''.cell? ⟨ob, 0, none⟩ = some (.int .i64 z) ∧ w''.cell? ⟨ob, 1, none⟩ = some (.slice A n c)) := fun w' w'' h hc => ⟨h.1.trans (hc.mono h.1.size), (hc.cell (p := ⟨w.heap.size, 0, none⟩) (Nat.lt_of_lt_of_le lz0 h.1.size)).trans h.2.1, (hc.cell (p := ⟨w.heap.size + 1, 5, none⟩) (Nat.lt_of_lt_of_le lz1 h.1.size)).trans h.2.2.1, (hc.cell (p := ⟨ob, 0, none⟩) (Nat.lt_of_lt_of_le lob h.1.size)).trans h.2.2.2.1, (hc.cell (p := ⟨ob, 1, none⟩) (Nat.lt_of_lt_of_le lob h.1.size)).trans h.2.2.2.2⟩
                          replace keepS := Lib.hid keepS
                          repeat' ((fail_if_success at_builtin); (first | go_skip | go_guarded | go_step))
                          refine wp_region_held_drew (S := fun w' => Below wr.heap.size wr w' ∧ w'.cell? ⟨w.heap.size, 0, none⟩ = some (.int .i64 z) ∧ w'.cell? ⟨w.heap.size + 1, 5, none⟩ = some (.int .i64 x.size) ∧ w'.cell? ⟨ob, 0, none⟩ = some (.int .i64 z) ∧ w'.cell? ⟨ob, 1, none⟩ = some (.slice A n c)) (by kernel_rfl) ?_ (fun hHeld => ?_)
                          · (try dsimp only)
                            exact hS1
                          refine wpAnyH_take (i := 0) (v := ?v391) rfl (by kernel_rfl) (by kernel_rfl) (by kernel_rfl) (fun _ _ _ h => h) (Or.inl ⟨by rfl, ?hy391⟩) (by assumption) ?rest391
                          case hy391 => (intro w hSw; (try dsimp only at hSw); go_simp; try with_reducible rfl)
                          simp only [Act.put, List.getElem_toArray, List.getElem_cons_zero, List.setIfInBounds_toArray, List.set_cons_zero, List.set_cons_succ]
                          refine wpAnyH_take (i := 1) (v := ?v392) rfl (by kernel_rfl) (by kernel_rfl) (by kernel_rfl) (fun _ _ _ h => h) (Or.inl ⟨by rfl, ?hy392⟩) (by assumption) ?rest392
                          case hy392 => (intro w hSw; (try dsimp only at hSw); go_simp; try with_reducible rfl)
                          simp only [Act.put, List.getElem_toArray, List.getElem_cons_zero, List.getElem_cons_succ, List.setIfInBounds_toArray, List.set_cons_zero, List.set_cons_succ]
                          refine wpAnyH_take (i := 2) (v := ?v393) rfl (by kernel_rfl) (by kernel_rfl) (by kernel_rfl) (fun _ _ _ h => h) (Or.inl ⟨by rfl, ?hy393⟩) (by assumption) ?rest393
                          case hy393 => (intro w hSw; (try dsimp only at hSw); go_simp; try with_reducible rfl)
                          simp only [Act.put, List.getElem_toArray, List.getElem_cons_zero, List.getElem_cons_succ, List.setIfInBounds_toArray, List.set_cons_zero, List.set_cons_succ]
                          refine wpAnyH_take (i := 3) (v := ?v394) rfl (by kernel_rfl) (by kernel_rfl) (by kernel_rfl) (fun _ _ _ h => h) (Or.inl ⟨by rfl, ?hy394⟩) (by assumption) ?rest394
                          case hy394 => (intro w hSw; (try dsimp only at hSw); go_simp; try with_reducible rfl)
                          simp only [Act.put, List.getElem_toArray, List.getElem_cons_zero, List.getElem_cons_succ, List.setIfInBounds_toArray, List.set_cons_zero, List.set_cons_succ]
                          refine wpAnyH_take (i := 4) (v := ?v395) rfl (by kernel_rfl) (by kernel_rfl) (by kernel_rfl) (fun _ _ _ h => h) (Or.inl ⟨by rfl, ?hy395⟩) (by assumption) ?rest395
                          case hy395 => (intro w hSw; (try dsimp only at hSw); go_simp; try with_reducible rfl)
                          simp only [Act.put, List.getElem_toArray, List.getElem_cons_zero, List.getElem_cons_succ, List.setIfInBounds_toArray, List.set_cons_zero, List.set_cons_succ]
                          refine wpAnyH_take (i := 5) (v := ?v396) rfl (by kernel_rfl) (by kernel_rfl) (by kernel_rfl) (fun _ _ _ h => h) (Or.inl ⟨by rfl, ?hy396⟩) (by assumption) ?rest396
                          case hy396 => (intro w hSw; (try dsimp only at hSw); go_simp; try with_reducible rfl)
                          simp only [Act.put, List.getElem_toArray, List.getElem_cons_zero, List.getElem_cons_succ, List.setIfInBounds_toArray, List.set_cons_zero, List.set_cons_succ]
                          refine wpAnyH_take (i := 7) (v := ?v397) rfl (by kernel_rfl) (by kernel_rfl) (by kernel_rfl) (fun _ _ _ h => h) (Or.inl ⟨by rfl, ?hy397⟩) (by assumption) ?rest397
                          case hy397 => (intro w hSw; (try dsimp only at hSw); go_simp; try with_reducible rfl)
                          simp only [Act.put, List.getElem_toArray, List.getElem_cons_zero, List.getElem_cons_succ, List.setIfInBounds_toArray, List.set_cons_zero, List.set_cons_succ]
                          refine wpAnyH_take (i := 8) (v := ?v398) rfl (by kernel_rfl) (by kernel_rfl) (by kernel_rfl) (fun _ _ _ h => h) (Or.inl ⟨by rfl, ?hy398⟩) (by assumption) ?rest398
                          case hy398 => (intro w hSw; (try dsimp only at hSw); go_simp; try with_reducible rfl)
                          simp only [Act.put, List.getElem_toArray, List.getElem_cons_zero, List.getElem_cons_succ, List.setIfInBounds_toArray, List.set_cons_zero, List.set_cons_succ]
                          refine wpAnyH_take (i := 10) (v := ?v399) rfl (by kernel_rfl) (by kernel_rfl) (by kernel_rfl) (fun _ _ _ h => h) (Or.inl ⟨by rfl, ?hy399⟩) (by assumption) ?rest399
                          case hy399 => (intro w hSw; (try dsimp only at hSw); go_simp; try with_reducible rfl)
                          simp only [Act.put, List.getElem_toArray, List.getElem_cons_zero, List.getElem_cons_succ, List.setIfInBounds_toArray, List.set_cons_zero, List.set_cons_succ]
                          refine wpAnyH_take (i := 11) (v := ?v400) rfl (by kernel_rfl) (by kernel_rfl) (by kernel_rfl) (fun _ _ _ h => h) (Or.inl ⟨by rfl, ?hy400⟩) (by assumption) ?rest400
                          case hy400 => (intro w hSw; (try dsimp only at hSw); go_simp; try with_reducible rfl)
                          simp only [Act.put, List.getElem_toArray, List.getElem_cons_zero, List.getElem_cons_succ, List.setIfInBounds_toArray, List.set_cons_zero, List.set_cons_succ]
                          refine wpAnyH_ready (rs := [6]) (by kernel_rfl) (by simp) ?_
                          refine AllReadyH.cons rfl (fun K hK => ?_) AllReadyH.nil
                          go_simp
                          go_at_call 14
                          refine (CU.out _ hHeld.1).mono ?_
                          rintro e wu ⟨rfl, hbq⟩
                          dsimp only
                          refine hK.out _ _ ?_ (fun hHeld => ?_)
                          · (try dsimp only)
                            exact keepS.out _ _ hHeld hbq
                          clear hK K
                          try simp only [Act.put, List.getElem_toArray, List.getElem_cons_zero, List.getElem_cons_succ, List.setIfInBounds_toArray, List.set_cons_zero, List.set_cons_succ]
                          refine wpAnyH_take (i := 9) (v := ?v401) rfl (by kernel_rfl) (by kernel_rfl) (by kernel_rfl) (fun _ _ _ h => h) (Or.inl ⟨by rfl, ?hy401⟩) (by assumption) ?rest401
                          case hy401 => (intro w hSw; (try dsimp only at hSw); go_simp; try with_reducible rfl)
                          simp only [Act.put, List.getElem_toArray, List.getElem_cons_zero, List.getElem_cons_succ, List.setIfInBounds_toArray, List.set_cons_zero, List.set_cons_succ]
                          refine wpAnyH_take (i := 12) (v := ?v402) rfl (by kernel_rfl) (by kernel_rfl) (by kernel_rfl) (fun _ _ _ h => h) (Or.inl ⟨by rfl, ?hy402⟩) (by assumption) ?rest402
                          case hy402 => (intro w hSw; (try dsimp only at hSw); go_simp; try with_reducible rfl)
                          simp only [Act.put, List.getElem_toArray, List.getElem_cons_zero, List.getElem_cons_succ, List.setIfInBounds_toArray, List.set_cons_zero, List.set_cons_succ]
                          refine wpAnyH_take (i := 13) (v := ?v403) rfl (by kernel_rfl) (by kernel_rfl) (by kernel_rfl) (fun _ _ _ h => h) (Or.inl ⟨by rfl, ?hy403⟩) (by assumption) ?rest403
                          case hy403 => (intro w hSw; (try dsimp only at hSw); go_simp; try with_reducible rfl)
                          simp only [Act.put, List.getElem_toArray, List.getElem_cons_zero, List.getElem_cons_succ, List.setIfInBounds_toArray, List.set_cons_zero, List.set_cons_succ]
                          refine wpAnyH_done (by kernel_rfl) ?_ _
                          obtain ⟨hb9, _⟩ := hHeld
                          clear b0 x5 o0 o1 CU hS1 keepS
                          replace hL := hL.out.at hb9
                          have o1 := hL.o1
                          have fo1 := hL.fo 1
                          have lob := hL.lo
                          have CO := fun (w' : World) (h : Below wu.heap.size wu w') => oldest_any l' A n c w' hL.len (hL.at h).seq' hn0 (by omega)
                          have CW := fun (w' : World) (h : Below wu.heap.size wu w') => without_any l' A n c (oldS l') w' hL.len (hL.at h).seq' hL.hc hol (by omega)
                          replace CO := Lib.hid CO
                          replace CW := Lib.hid CW
                          have hLh := Lib.hid hL
                          clear hL
                          repeat' ((fail_if_success at_builtin); (first | go_skip | go_guarded | go_step))
                          refine wp_region_held_drew (S := fun _ => True) (by kernel_rfl) trivial (fun hHeld => ?_)
                          refine wpAnyH_take (i := 0) (v := ?v386) rfl (by kernel_rfl) (by kernel_rfl) (by kernel_rfl) (fun _ _ _ h => h) (Or.inl ⟨by rfl, ?hy386⟩) (by assumption) ?rest386
                          case hy386 => (intro w hSw; (try dsimp only at hSw); go_simp; try with_reducible rfl)
                          simp only [Act.put, List.getElem_toArray, List.getElem_cons_zero, List.setIfInBounds_toArray, List.set_cons_zero, List.set_cons_succ]
                          refine wpAnyH_take (i := 2) (v := ?v387) rfl (by kernel_rfl) (by kernel_rfl) (by kernel_rfl) (fun _ _ _ h => h) (Or.inl ⟨by rfl, ?hy387⟩) (by assumption) ?rest387
                          case hy387 => (intro w hSw; (try dsimp only at hSw); go_simp; try with_reducible rfl)
                          simp only [Act.put, List.getElem_toArray, List.getElem_cons_zero, List.getElem_cons_succ, List.setIfInBounds_toArray, List.set_cons_zero, List.set_cons_succ]
                          refine wpAnyH_ready (rs := [1, 3]) (by kernel_rfl) (by simp) ?_
                          refine AllReadyH.cons rfl (fun K hK => ?_) ?_
                          · go_simp
                            refine hK.out _ _ trivial (fun hHeld => ?_)
                            clear hK K
                            try simp only [Act.put, List.getElem_toArray, List.getElem_cons_zero, List.getElem_cons_succ, List.setIfInBounds_toArray, List.set_cons_zero, List.set_cons_succ]
                            refine wpAnyH_ready (rs := [3]) (by kernel_rfl) (by simp) ?_
                            refine AllReadyH.cons rfl (fun K hK => ?_) ?_
                            · go_simp
                              refine hK.out _ _ trivial (fun hHeld => ?_)
                              clear hK K
                              try simp only [Act.put, List.getElem_toArray, List.getElem_cons_zero, List.getElem_cons_succ, List.setIfInBounds_toArray, List.set_cons_zero, List.set_cons_succ]
                              refine wpAnyH_ready (rs := [4]) (by kernel_rfl) (by simp) ?_
                              refine AllReadyH.cons rfl (fun K hK => ?_) ?_
                              · go_simp
                                go_at_call 46
                                refine (CO.out _ (Below.refl _ _).drew).mono ?_
                                rintro e w7 ⟨rfl, hb7⟩
                                dsimp only
                                have o7 : w7.cell? ⟨ob, 1, none⟩ = some (.slice A n c) := (hb7.cell (p := ⟨ob, 1, none⟩) lob).trans o1
                                refine hK.out _ _ trivial (fun hHeld => ?_)
                                clear hK K
                                try simp only [Act.put, List.getElem_toArray, List.getElem_cons_zero, List.getElem_cons_succ, List.setIfInBounds_toArray, List.set_cons_zero, List.set_cons_succ]
                                refine wpAnyH_ready (rs := [5]) (by kernel_rfl) (by simp) ?_
                                refine AllReadyH.cons rfl (fun K hK => ?_) ?_
                                · go_simp
                                  go_at_call 45
                                  refine (CW.out _ ((Below.refl _ _).drew.trans (hb7.mono (Nat.le_refl _)))).mono ?_
                                  rintro e w10 ⟨A', c', rfl, ho10, hc10⟩
                                  dsimp only
                                  have o10 : w10.cell? ⟨ob, 1, none⟩ = some (.slice A n c) := (ho10.2.cell (p := ⟨ob, 1, none⟩) (Nat.lt_of_lt_of_le lob hb7.size)).trans ((hb7.cell (p := ⟨ob, 1, none⟩) lob).trans o1)
                                  have f10 : w10.frozen? ⟨ob, 1, none⟩ = false := (ho10.2.frozen (p := ⟨ob, 1, none⟩) (Nat.lt_of_lt_of_le lob hb7.size)).trans ((hb7.frozen (p := ⟨ob, 1, none⟩) lob).trans fo1)
                                  have l10 : ob < w10.heap.size := Nat.lt_of_lt_of_le lob (Nat.le_trans hb7.size ho10.2.size)
                                  refine hK.out _ _ trivial (fun hHeld => ?_)
                                  clear hK K
                                  try simp only [Act.put, List.getElem_toArray, List.getElem_cons_zero, List.getElem_cons_succ, List.setIfInBounds_toArray, List.set_cons_zero, List.set_cons_succ]
                                  refine wpAnyH_take (i := 6) (v := ?v388) rfl (by kernel_rfl) (by kernel_rfl) (by kernel_rfl) (fun _ _ _ h => h) (Or.inl ⟨by rfl, ?hy388⟩) (by assumption) ?rest388
                                  case hy388 => (intro w hSw; (try dsimp only at hSw); go_simp; try with_reducible rfl)
                                  simp only [Act.put, List.getElem_toArray, List.getElem_cons_zero, List.getElem_cons_succ, List.setIfInBounds_toArray, List.set_cons_zero, List.set_cons_succ]
                                  refine wpAnyH_ready (rs := [7]) (by kernel_rfl) (by simp) ?_
                                  refine AllReadyH.cons rfl (fun K hK => ?_) ?_
                                  · go_simp
                                    refine hK.out _ _ trivial (fun hHeld => ?_)
                                    clear hK K
                                    try simp only [Act.put, List.getElem_toArray, List.getElem_cons_zero, List.getElem_cons_succ, List.setIfInBounds_toArray, List.set_cons_zero, List.set_cons_succ]
                                    refine wpAnyH_done (by kernel_rfl) ?_ _
                                    have hs7 : wu.heap.size ≤ w7.heap.size := hb7.size
                                    have hb11 : Below wu.heap.size wu w7 := (Below.refl _ _).drew.trans (hb7.mono (Nat.le_refl _))
                                    have hL2 := hLh.out.at (hb11.trans (ho10.2.mono hs7))
                                    have hq : SeqP w10 (fun b => b < w.heap.size ∨ (ob < b ∧ b < w10.heap.size)) 8 A' (n - 1) (entsC (l'.eraseIdx (oldS l'))) := SeqP.imp (seqp_own ho10.1 (Nat.le_refl _)) (fun b hb => .inr ⟨by omega, hb.2⟩)
                                    have hE : (l'.eraseIdx (oldS l')).length = n - 1 := by rw [List.length_eraseIdx_of_lt (by have := hnl.out; omega), hnl.out]
                                    have hLp := hL2.put hq hc10 hE.symm
                                    try go_frame
                                    go_roundw
                                    case rel => exact ⟨_, _, _, _, _, _, _, _, _, _, _, _, _, _, _, _, _, _, _, _, _, ⟨_, A', n - 1, c', hLp, hok'.erase _, hst.out⟩, rfl⟩
                                    case measure =>
                                      have h1 : sizeAt ob (w10.setCell ⟨ob, 1, none⟩ (.slice A' (n - 1) c')) = n - 1 := by
                                        unfold sizeAt
                                        rw [World.cell?_setCell_same w10 _ _ o10]
                                      rw [h1, hmeas.out]
                                      omega
                                  exact AllReadyH.nil
                                exact AllReadyH.nil
                              exact AllReadyH.nil
                            exact AllReadyH.nil
                          refine AllReadyH.cons rfl (fun K hK => ?_) ?_
                          · go_simp
                            refine hK.out _ _ trivial (fun hHeld => ?_)
                            clear hK K
                            try simp only [Act.put, List.getElem_toArray, List.getElem_cons_zero, List.getElem_cons_succ, List.setIfInBounds_toArray, List.set_cons_zero, List.set_cons_succ]
                            refine wpAnyH_ready (rs := [1, 4]) (by kernel_rfl) (by simp) ?_
                            refine AllReadyH.cons rfl (fun K hK => ?_) ?_
                            · go_simp
                              refine hK.out _ _ trivial (fun hHeld => ?_)
                              clear hK K
                              try simp only [Act.put, List.getElem_toArray, List.getElem_cons_zero, List.getElem_cons_succ, List.setIfInBounds_toArray, List.set_cons_zero, List.set_cons_succ]
                              refine wpAnyH_ready (rs := [4]) (by kernel_rfl) (by simp) ?_
                              refine AllReadyH.cons rfl (fun K hK => ?_) ?_
                              · go_simp
                                go_at_call 46
                                refine (CO.out _ (Below.refl _ _).drew).mono ?_
                                rintro e w7 ⟨rfl, hb7⟩
                                dsimp only
                                have o7 : w7.cell? ⟨ob, 1, none⟩ = some (.slice A n c) := (hb7.cell (p := ⟨ob, 1, none⟩) lob).trans o1
                                refine hK.out _ _ trivial (fun hHeld => ?_)
                                clear hK K
                                try simp only [Act.put, List.getElem_toArray, List.getElem_cons_zero, List.getElem_cons_succ, List.setIfInBounds_toArray, List.set_cons_zero, List.set_cons_succ]
                                refine wpAnyH_ready (rs := [5]) (by kernel_rfl) (by simp) ?_
                                refine AllReadyH.cons rfl (fun K hK => ?_) ?_
                                · go_simp
                                  go_at_call 45
                                  refine (CW.out _ ((Below.refl _ _).drew.trans (hb7.mono (Nat.le_refl _)))).mono ?_
                                  rintro e w10 ⟨A', c', rfl, ho10, hc10⟩
                                  dsimp only
                                  have o10 : w10.cell? ⟨ob, 1, none⟩ = some (.slice A n c) := (ho10.2.cell (p := ⟨ob, 1, none⟩) (Nat.lt_of_lt_of_le lob hb7.size)).trans ((hb7.cell (p := ⟨ob, 1, none⟩) lob).trans o1)
                                  have f10 : w10.frozen? ⟨ob, 1, none⟩ = false := (ho10.2.frozen (p := ⟨ob, 1, none⟩) (Nat.lt_of_lt_of_le lob hb7.size)).trans ((hb7.frozen (p := ⟨ob, 1, none⟩) lob).trans fo1)
                                  have l10 : ob < w10.heap.size := Nat.lt_of_lt_of_le lob (Nat.le_trans hb7.size ho10.2.size)
                                  refine hK.out _ _ trivial (fun hHeld => ?_)
                                  clear hK K
                                  try simp only [Act.put, List.getElem_toArray, List.getElem_cons_zero, List.getElem_cons_succ, List.setIfInBounds_toArray, List.set_cons_zero, List.set_cons_succ]
                                  refine wpAnyH_take (i := 6) (v := ?v389) rfl (by kernel_rfl) (by kernel_rfl) (by kernel_rfl) (fun _ _ _ h => h) (Or.inl ⟨by rfl, ?hy389⟩) (by assumption) ?rest389
                                  case hy389 => (intro w hSw; (try dsimp only at hSw); go_simp; try with_reducible rfl)
                                  simp only [Act.put, List.getElem_toArray, List.getElem_cons_zero, List.getElem_cons_succ, List.setIfInBounds_toArray, List.set_cons_zero, List.set_cons_succ]
                                  refine wpAnyH_ready (rs := [7]) (by kernel_rfl) (by simp) ?_
                                  refine AllReadyH.cons rfl (fun K hK => ?_) ?_
                                  · go_simp
                                    refine hK.out _ _ trivial (fun hHeld => ?_)
                                    clear hK K
                                    try simp only [Act.put, List.getElem_toArray, List.getElem_cons_zero, List.getElem_cons_succ, List.setIfInBounds_toArray, List.set_cons_zero, List.set_cons_succ]
                                    refine wpAnyH_done (by kernel_rfl) ?_ _
                                    have hs7 : wu.heap.size ≤ w7.heap.size := hb7.size
                                    have hb11 : Below wu.heap.size wu w7 := (Below.refl _ _).drew.trans (hb7.mono (Nat.le_refl _))
                                    have hL2 := hLh.out.at (hb11.trans (ho10.2.mono hs7))
                                    have hq : SeqP w10 (fun b => b < w.heap.size ∨ (ob < b ∧ b < w10.heap.size)) 8 A' (n - 1) (entsC (l'.eraseIdx (oldS l'))) := SeqP.imp (seqp_own ho10.1 (Nat.le_refl _)) (fun b hb => .inr ⟨by omega, hb.2⟩)
                                    have hE : (l'.eraseIdx (oldS l')).length = n - 1 := by rw [List.length_eraseIdx_of_lt (by have := hnl.out; omega), hnl.out]
                                    have hLp := hL2.put hq hc10 hE.symm
                                    try go_frame
                                    go_roundw
                                    case rel => exact ⟨_, _, _, _, _, _, _, _, _, _, _, _, _, _, _, _, _, _, _, _, _, ⟨_, A', n - 1, c', hLp, hok'.erase _, hst.out⟩, rfl⟩
                                    case measure =>
                                      have h1 : sizeAt ob (w10.setCell ⟨ob, 1, none⟩ (.slice A' (n - 1) c')) = n - 1 := by
                                        unfold sizeAt
                                        rw [World.cell?_setCell_same w10 _ _ o10]
                                      rw [h1, hmeas.out]
                                      omega
                                  exact AllReadyH.nil
                                exact AllReadyH.nil
                              exact AllReadyH.nil
                            refine AllReadyH.cons rfl (fun K hK => ?_) ?_
                            · go_simp
                              go_at_call 46
                              refine (CO.out _ (Below.refl _ _).drew).mono ?_
                              rintro e w7 ⟨rfl, hb7⟩
                              dsimp only
                              have o7 : w7.cell? ⟨ob, 1, none⟩ = some (.slice A n c) := (hb7.cell (p := ⟨ob, 1, none⟩) lob).trans o1
                              refine hK.out _ _ trivial (fun hHeld => ?_)
                              clear hK K
                              try simp only [Act.put, List.getElem_toArray, List.getElem_cons_zero, List.getElem_cons_succ, List.setIfInBounds_toArray, List.set_cons_zero, List.set_cons_succ]
                              refine wpAnyH_ready (rs := [1]) (by kernel_rfl) (by simp) ?_
                              refine AllReadyH.cons rfl (fun K hK => ?_) ?_
                              · go_simp
                                refine hK.out _ _ trivial (fun hHeld => ?_)
                                clear hK K
                                try simp only [Act.put, List.getElem_toArray, List.getElem_cons_zero, List.getElem_cons_succ, List.setIfInBounds_toArray, List.set_cons_zero, List.set_cons_succ]
                                refine wpAnyH_ready (rs := [5]) (by kernel_rfl) (by simp) ?_
                                refine AllReadyH.cons rfl (fun K hK => ?_) ?_
                                · go_simp
                                  go_at_call 45
                                  refine (CW.out _ ((Below.refl _ _).drew.trans (hb7.mono (Nat.le_refl _)))).mono ?_
                                  rintro e w10 ⟨A', c', rfl, ho10, hc10⟩
                                  dsimp only
                                  have o10 : w10.cell? ⟨ob, 1, none⟩ = some (.slice A n c) := (ho10.2.cell (p := ⟨ob, 1, none⟩) (Nat.lt_of_lt_of_le lob hb7.size)).trans ((hb7.cell (p := ⟨ob, 1, none⟩) lob).trans o1)
                                  have f10 : w10.frozen? ⟨ob, 1, none⟩ = false := (ho10.2.frozen (p := ⟨ob, 1, none⟩) (Nat.lt_of_lt_of_le lob hb7.size)).trans ((hb7.frozen (p := ⟨ob, 1, none⟩) lob).trans fo1)
                                  have l10 : ob < w10.heap.size := Nat.lt_of_lt_of_le lob (Nat.le_trans hb7.size ho10.2.size)
                                  refine hK.out _ _ trivial (fun hHeld => ?_)
                                  clear hK K
                                  try simp only [Act.put, List.getElem_toArray, List.getElem_cons_zero, List.getElem_cons_succ, List.setIfInBounds_toArray, List.set_cons_zero, List.set_cons_succ]
                                  refine wpAnyH_take (i := 6) (v := ?v390) rfl (by kernel_rfl) (by kernel_rfl) (by kernel_rfl) (fun _ _ _ h => h) (Or.inl ⟨by rfl, ?hy390⟩) (by assumption) ?rest390
                                  case hy390 => (intro w hSw; (try dsimp only at hSw); go_simp; try with_reducible rfl)
                                  simp only [Act.put, List.getElem_toArray, List.getElem_cons_zero, List.getElem_cons_succ, List.setIfInBounds_toArray, List.set_cons_zero, List.set_cons_succ]
                                  refine wpAnyH_ready (rs := [7]) (by kernel_rfl) (by simp) ?_
                                  refine AllReadyH.cons rfl (fun K hK => ?_) ?_
                                  · go_simp
                                    refine hK.out _ _ trivial (fun hHeld => ?_)
                                    clear hK K
                                    try simp only [Act.put, List.getElem_toArray, List.getElem_cons_zero, List.getElem_cons_succ, List.setIfInBounds_toArray, List.set_cons_zero, List.set_cons_succ]
                                    refine wpAnyH_done (by kernel_rfl) ?_ _
                                    have hs7 : wu.heap.size ≤ w7.heap.size := hb7.size
                                    have hb11 : Below wu.heap.size wu w7 := (Below.refl _ _).drew.trans (hb7.mono (Nat.le_refl _))
                                    have hL2 := hLh.out.at (hb11.trans (ho10.2.mono hs7))
                                    have hq : SeqP w10 (fun b => b < w.heap.size ∨ (ob < b ∧ b < w10.heap.size)) 8 A' (n - 1) (entsC (l'.eraseIdx (oldS l'))) := SeqP.imp (seqp_own ho10.1 (Nat.le_refl _)) (fun b hb => .inr ⟨by omega, hb.2⟩)
                                    have hE : (l'.eraseIdx (oldS l')).length = n - 1 := by rw [List.length_eraseIdx_of_lt (by have := hnl.out; omega), hnl.out]
                                    have hLp := hL2.put hq hc10 hE.symm
                                    try go_frame
                                    go_roundw
                                    case rel => exact ⟨_, _, _, _, _, _, _, _, _, _, _, _, _, _, _, _, _, _, _, _, _, ⟨_, A', n - 1, c', hLp, hok'.erase _, hst.out⟩, rfl⟩
                                    case measure =>
                                      have h1 : sizeAt ob (w10.setCell ⟨ob, 1, none⟩ (.slice A' (n - 1) c')) = n - 1 := by
                                        unfold sizeAt
                                        rw [World.cell?_setCell_same w10 _ _ o10]
                                      rw [h1, hmeas.out]
                                      omega
                                  exact AllReadyH.nil
                                exact AllReadyH.nil
                              exact AllReadyH.nil
                            exact AllReadyH.nil
                          exact AllReadyH.nil
              | succ k =>
                obtain ⟨y, b, o, rfl, hyc, hlk⟩ := hlo k rfl
                have s0 : (0 : Int) < (k : Int) + 1 := by omega
                have s1 : IntKind.i64.wrap ((k : Int) + 1 - 1) = (k : Int) := by rw [show (k : Int) + 1 - 1 = (k : Int) from by omega]; exact IntWalk.i64_in _ (by omega)
                have s2 : IntKind.i64.wrap (k : Int) = (k : Int) := IntWalk.i64_in _ (by omega)
                have s3 : (0 : Int) ≤ (k : Int) := by omega
                have s4 : (k : Int) < (k : Int) + 1 := by omega
                clear hlo hl0 hsq
                by_cases hlt : now < y.created
                · have hLk : lastOk l now = false := by rw [hlk, decide_eq_true hlt]; rfl
                  clear hlk
                  have hE : saveE z l x now = 22 := by unfold saveE; rw [hv, hN, hZ, hT, hLk]; rfl
                  have hK := hI.ret hn.out 22 (.int .i64 z) (.slice (some ⟨b, o, none⟩) (k + 1) c)
                  have hd := cells2 (u := .int .i64 z) (v := .slice (some ⟨b, o, none⟩) (k + 1) c) r0 r1
                  have hL : saveL z l x now = l := by unfold saveL; rw [hE, if_neg (by omega)]
                  replace hE := Lib.hid hE
                  replace hK := Lib.hid hK
                  replace hL := Lib.hid hL
                  clear hI
                  repeat' ((fail_if_success at_builtin); (first | go_skip | go_guarded | go_step))
                  generalize (w7.setCell ⟨w.heap.size + 2, 0, none⟩ (.int .i64 z)).setCell ⟨w.heap.size + 2, 1, none⟩ (.slice (some ⟨b, o, none⟩) (k + 1) c) = wf at *
                  obtain ⟨d0, d1⟩ := hd
                  refine bodyPost_ret (v := .tuple #[cval z (some ⟨b, o, none⟩) (k + 1) c, .int .i64 22]) (by simp only [results, Tryd.results21]; go_simp; try rfl) rfl ?_
                  rw [hL.out, hE.out]
                  exact hK.out
                · have hLk : lastOk l now = true := by rw [hlk, decide_eq_false hlt]; rfl
                  clear hlk
                  replace hLk := Lib.hid hLk
                  have hfd := refFind_any x.sc x.key l (some ⟨b, o, none⟩) (k + 1) c w7 hn.out (hI.seq.more hI.below.size) (by omega)
                  replace hfd := Lib.hid hfd
                  replace hI := Lib.hid hI
                  repeat' ((fail_if_success at_builtin); (first | go_skip | go_guarded | go_step))
                  refine hfd.out.mono ?_
                  rintro e w8 ⟨rfl, hb8⟩
                  dsimp only
                  replace hI := hI.out.at hb8
                  clear hfd hb8
                  clear b0 b1 x0 x1 x2 x3 x4 x5 x6 x7 r0 r1 f0 f2
                  obtain ⟨b0, b1⟩ : w8.cell? ⟨w.heap.size, 0, none⟩ = some (.int .i64 z) ∧ w8.cell? ⟨w.heap.size, 1, none⟩ = some (.slice (some ⟨b, o, none⟩) (k + 1) c) := ⟨hI.c0, hI.c1⟩
                  obtain ⟨x0, x1, x2, x3, x4, x5, x6, x7⟩ := hI.x
                  simp only [Nat.zero_add] at x1 x2 x3 x4 x5 x6 x7
                  have r0 := hI.r0
                  have r1 := hI.r1
                  have f0 := hI.f0
                  have f2 := hI.f2
                  have hsz := hI.size
                  have lz0 : w.heap.size < w8.heap.size := by omega
                  have lz1 : w.heap.size + 1 < w8.heap.size := by omega
                  have lz2 : w.heap.size + 2 < w8.heap.size := by omega
                  by_cases hF : 0 ≤ findI x.sc x.key l
                  · have hEf : saveE z l x now = 7 := by unfold saveE; rw [hv, hN, hZ, hT, hLk.out, if_pos hF]; rfl
                    have hE : saveE z l x now = 7 := by exact hEf
                    have hK := hI.ret hn.out 7 (.int .i64 z) (.slice (some ⟨b, o, none⟩) (k + 1) c)
                    have hd := cells2 (u := .int .i64 z) (v := .slice (some ⟨b, o, none⟩) (k + 1) c) r0 r1
                    have hL : saveL z l x now = l := by unfold saveL; rw [hE, if_neg (by omega)]
                    replace hE := Lib.hid hE
                    replace hK := Lib.hid hK
                    replace hL := Lib.hid hL
                    clear hI
                    repeat' ((fail_if_success at_builtin); (first | go_skip | go_guarded | go_step))
                    generalize (w8.setCell ⟨w.heap.size + 2, 0, none⟩ (.int .i64 z)).setCell ⟨w.heap.size + 2, 1, none⟩ (.slice (some ⟨b, o, none⟩) (k + 1) c) = wf at *
                    obtain ⟨d0, d1⟩ := hd
                    refine bodyPost_ret (v := .tuple #[cval z (some ⟨b, o, none⟩) (k + 1) c, .int .i64 7]) (by simp only [results, Tryd.results21]; go_simp; try rfl) rfl ?_
                    rw [hL.out, hE.out]
                    exact hK.out
                  · by_cases hG : z < x.size
                    · have hEf : saveE z l x now = 15 := by unfold saveE; rw [hv, hN, hZ, hT, hLk.out, if_neg hF, if_pos hG]; rfl
                      have hE : saveE z l x now = 15 := by exact hEf
                      have hK := hI.ret hn.out 15 (.int .i64 z) (.slice (some ⟨b, o, none⟩) (k + 1) c)
                      have hd := cells2 (u := .int .i64 z) (v := .slice (some ⟨b, o, none⟩) (k + 1) c) r0 r1
                      have hL : saveL z l x now = l := by unfold saveL; rw [hE, if_neg (by omega)]
                      replace hE := Lib.hid hE
                      replace hK := Lib.hid hK
                      replace hL := Lib.hid hL
                      clear hI
                      repeat' ((fail_if_success at_builtin); (first | go_skip | go_guarded | go_step))
                      generalize (w8.setCell ⟨w.heap.size + 2, 0, none⟩ (.int .i64 z)).setCell ⟨w.heap.size + 2, 1, none⟩ (.slice (some ⟨b, o, none⟩) (k + 1) c) = wf at *
                      obtain ⟨d0, d1⟩ := hd
                      refine bodyPost_ret (v := .tuple #[cval z (some ⟨b, o, none⟩) (k + 1) c, .int .i64 15]) (by simp only [results, Tryd.results21]; go_simp; try rfl) rfl ?_
                      rw [hL.out, hE.out]
                      exact hK.out
                    · have hEf : saveE z l x now = 0 := by unfold saveE; rw [hv, hN, hZ, hT, hLk.out, if_neg hF, if_neg hG]; rfl
                      have hxs : 0 ≤ x.size := by unfold inR at hZ; simp at hZ; exact hZ.1
                      have hLf : saveL z l x now = roomS z x.size l ++ [stamp x now] := by unfold saveL; rw [hEf, if_pos rfl]
                      replace hEf := Lib.hid hEf
                      replace hLf := Lib.hid hLf
                      have hL0 : LInv w (w8.alloc (.cells #[.int .i64 z, .slice (some ⟨b, o, none⟩) (k + 1) c] 24)) w8.heap.size z (some ⟨b, o, none⟩) (k + 1) c l x := by
                        have hba : Below w8.heap.size w8 (w8.alloc (.cells #[.int .i64 z, .slice (some ⟨b, o, none⟩) (k + 1) c] 24)) := (Below.refl _ _).alloc (Nat.le_refl _) _
                        have hI2 := hI.at hba
                        exact ⟨SeqP.imp hI2.seq (fun b hb => .inl hb), hc, hn.out, hI2.below, hI.size, by simp, hI2.c0, hI2.x, hI2.r0, hI2.r1, by simp [go_sem], by simp [go_sem], hI2.f0, hI2.f2, fun j => by simp [go_sem]⟩
                      generalize hobd : w8.heap.size = ob at *
                      replace hL0 := Lib.hid hL0
                      clear hI
                      repeat' ((fail_if_success at_builtin); (first | go_skip | go_guarded | go_step))
                      go_loopw [93] (fun _ wr => ∃ (l' : List Ent) (A : Option Addr) (n c : Nat), LInv w wr ob z A n c l' x ∧ SizeOk l' ∧ roomS z x.size l = roomS z x.size l') (fun _ wr => sizeAt ob wr)
                      case atStart => exact ⟨l, (some ⟨b, o, none⟩), (k + 1), c, hL0.out, hok, rfl⟩
                      case round =>
                        clear hL0 hok
                        obtain ⟨l', A, n, c, hL, hok', hst⟩ := hrel
                        have b0 := hL.c0
                        have x5 := hL.x.c5
                        simp only [Nat.zero_add] at x5
                        have o0 := hL.o0
                        have o1 := hL.o1
                        have lob := hL.lo
                        have lso := hL.so
                        have lz0 : w.heap.size < wr.heap.size := by omega
                        have lz1 : w.heap.size + 1 < wr.heap.size := by omega
                        have hlen := hok'.len
                        rw [← hL.len] at hlen
                        obtain ⟨hu0, hu1⟩ := used_bound hok'
                        have CU := fun (w' : World) (h : Below wr.heap.size wr w') => refUsed_any z l' A n c w' hL.len (hL.at h).seq' (by omega) (fun x hx => by have := hok'.size x hx; unfold I64; omega)
                        have hfull : fullS z x.size l' = (decide (1024 ≤ n) || decide (z < usedS l' + x.size)) := by rw [hL.len]; rfl
                        generalize hus : usedS l' = us at *
                        have hxz : x.size ≤ z := by omega
                        have hw1 : IntKind.i64.wrap (us + x.size) = us + x.size := IntWalk.i64_in _ (by omega)
                        have hmeas : sizeAt ob wr = n := by unfold sizeAt; rw [o1]
                        have hnl := Lib.hid hL.len
                        replace CU := Lib.hid CU
                        replace hst := Lib.hid hst
                        replace hL := Lib.hid hL
                        replace hmeas := Lib.hid hmeas
                        clear hus
                        cases hf2 : fullS z x.size l' with
                        | false =>
                          rw [hf2] at hfull
                          have hst := Lib.hid (hst.out.trans (room_stop hf2))
                          have h1 : ¬ 1024 ≤ n := by intro h; rw [decide_eq_true h] at hfull; simp at hfull
                          have h1' : ¬ ((1024 : Int) ≤ (n : Int)) := by omega
                          have h2 : ¬ (z < us + x.size) := by intro h; rw [decide_eq_true h] at hfull; simp at hfull
                          clear hfull
                          have hS1 : Below wr.heap.size wr wr.drew ∧ wr.drew.cell? ⟨w.heap.size, 0, none⟩ = some (.int .i64 z) ∧ wr.drew.cell? ⟨w.heap.size + 1, 5, none⟩ = some (.int .i64 x.size) ∧ wr.drew.cell? ⟨ob, 0, none⟩ = some (.int .i64 z) ∧ wr.drew.cell? ⟨ob, 1, none⟩ = some (.slice A n c) := ⟨(Below.refl _ _).drew, b0, x5, o0, o1⟩
                          have keepS : ∀ w' w'', (Below wr.heap.size wr w' ∧ w'.cell? ⟨w.heap.size, 0, none⟩ = some (.int .i64 z) ∧ w'.cell? ⟨w.heap.size + 1, 5, none⟩ = some (.int .i64 x.size) ∧ w'.cell? ⟨ob, 0, none⟩ = some (.int .i64 z) ∧ w'.cell? ⟨ob, 1, none⟩ = some (.slice A n c)) → Below w'.heap.size w' w'' → (Below wr.heap.size wr w'' ∧ w''.cell? ⟨w.heap.size, 0, none⟩ = some (.int .i64 z) ∧ w''.cell? ⟨w.heap.size + 1, 5, none⟩ = some (.int .i64 x.size) ∧ w''.cell? ⟨ob, 0, none⟩ = some (.int .i64 z) ∧ w''.cell? ⟨ob, 1, none⟩ = some (.slice A n c)) := fun w' w'' h hc => ⟨h.1.trans (hc.mono h.1.size), (hc.cell (p := ⟨w.heap.size, 0, none⟩) (Nat.lt_of_lt_of_le lz0 h.1.size)).trans h.2.1, (hc.cell (p := ⟨w.heap.size + 1, 5, none⟩) (Nat.lt_of_lt_of_le lz1 h.1.size)).trans h.2.2.1, (hc.cell (p := ⟨ob, 0, none⟩) (Nat.lt_of_lt_of_le lob h.1.size)).trans h.2.2.2.1, (hc.cell (p := ⟨ob, 1, none⟩) (Nat.lt_of_lt_of_le lob h.1.size)).trans h.2.2.2.2⟩
                          replace keepS := Lib.hid keepS
                          repeat' ((fail_if_success at_builtin); (first | go_skip | go_guarded | go_step))
                          refine wp_region_held_drew (S := fun w' => Below wr.heap.size wr w' ∧ w'.cell? ⟨w.heap.size, 0, none⟩ = some (.int .i64 z) ∧ w'.cell? ⟨w.heap.size + 1, 5, none⟩ = some (.int .i64 x.size) ∧ w'.cell? ⟨ob, 0, none⟩ = some (.int .i64 z) ∧ w'.cell? ⟨ob, 1, none⟩ = some (.slice A n c)) (by kernel_rfl) ?_ (fun hHeld => ?_)
                          · (try dsimp only)
                            exact hS1
                          refine wpAnyH_take (i := 0) (v := ?v8362) rfl (by kernel_rfl) (by kernel_rfl) (by kernel_rfl) (fun _ _ _ h => h) (Or.inl ⟨by rfl, ?hy8362⟩) (by assumption) ?rest8362
                          case hy8362 => (intro w hSw; (try dsimp only at hSw); go_simp; try with_reducible rfl)
                          simp only [Act.put, List.getElem_toArray, List.getElem_cons_zero, List.setIfInBounds_toArray, List.set_cons_zero, List.set_cons_succ]
                          refine wpAnyH_take (i := 1) (v := ?v8363) rfl (by kernel_rfl) (by kernel_rfl) (by kernel_rfl) (fun _ _ _ h => h) (Or.inl ⟨by rfl, ?hy8363⟩) (by assumption) ?rest8363
                          case hy8363 => (intro w hSw; (try dsimp only at hSw); go_simp; try with_reducible rfl)
                          simp only [Act.put, List.getElem_toArray, List.getElem_cons_zero, List.getElem_cons_succ, List.setIfInBounds_toArray, List.set_cons_zero, List.set_cons_succ]
                          refine wpAnyH_take (i := 2) (v := ?v8364) rfl (by kernel_rfl) (by kernel_rfl) (by kernel_rfl) (fun _ _ _ h => h) (Or.inl ⟨by rfl, ?hy8364⟩) (by assumption) ?rest8364
                          case hy8364 => (intro w hSw; (try dsimp only at hSw); go_simp; try with_reducible rfl)
                          simp only [Act.put, List.getElem_toArray, List.getElem_cons_zero, List.getElem_cons_succ, List.setIfInBounds_toArray, List.set_cons_zero, List.set_cons_succ]
                          refine wpAnyH_take (i := 3) (v := ?v8365) rfl (by kernel_rfl) (by kernel_rfl) (by kernel_rfl) (fun _ _ _ h => h) (Or.inl ⟨by rfl, ?hy8365⟩) (by assumption) ?rest8365
                          case hy8365 => (intro w hSw; (try dsimp only at hSw); go_simp; try with_reducible rfl)
                          simp only [Act.put, List.getElem_toArray, List.getElem_cons_zero, List.getElem_cons_succ, List.setIfInBounds_toArray, List.set_cons_zero, List.set_cons_succ]
                          refine wpAnyH_take (i := 4) (v := ?v8366) rfl (by kernel_rfl) (by kernel_rfl) (by kernel_rfl) (fun _ _ _ h => h) (Or.inl ⟨by rfl, ?hy8366⟩) (by assumption) ?rest8366
                          case hy8366 => (intro w hSw; (try dsimp only at hSw); go_simp; try with_reducible rfl)
                          simp only [Act.put, List.getElem_toArray, List.getElem_cons_zero, List.getElem_cons_succ, List.setIfInBounds_toArray, List.set_cons_zero, List.set_cons_succ]
                          refine wpAnyH_take (i := 5) (v := ?v8367) rfl (by kernel_rfl) (by kernel_rfl) (by kernel_rfl) (fun _ _ _ h => h) (Or.inl ⟨by rfl, ?hy8367⟩) (by assumption) ?rest8367
                          case hy8367 => (intro w hSw; (try dsimp only at hSw); go_simp; try with_reducible rfl)
                          simp only [Act.put, List.getElem_toArray, List.getElem_cons_zero, List.getElem_cons_succ, List.setIfInBounds_toArray, List.set_cons_zero, List.set_cons_succ]
                          refine wpAnyH_take (i := 7) (v := ?v8368) rfl (by kernel_rfl) (by kernel_rfl) (by kernel_rfl) (fun _ _ _ h => h) (Or.inl ⟨by rfl, ?hy8368⟩) (by assumption) ?rest8368
                          case hy8368 => (intro w hSw; (try dsimp only at hSw); go_simp; try with_reducible rfl)
                          simp only [Act.put, List.getElem_toArray, List.getElem_cons_zero, List.getElem_cons_succ, List.setIfInBounds_toArray, List.set_cons_zero, List.set_cons_succ]
                          refine wpAnyH_take (i := 8) (v := ?v8369) rfl (by kernel_rfl) (by kernel_rfl) (by kernel_rfl) (fun _ _ _ h => h) (Or.inl ⟨by rfl, ?hy8369⟩) (by assumption) ?rest8369
                          case hy8369 => (intro w hSw; (try dsimp only at hSw); go_simp; try with_reducible rfl)
                          simp only [Act.put, List.getElem_toArray, List.getElem_cons_zero, List.getElem_cons_succ, List.setIfInBounds_toArray, List.set_cons_zero, List.set_cons_succ]
                          refine wpAnyH_take (i := 10) (v := ?v8370) rfl (by kernel_rfl) (by kernel_rfl) (by kernel_rfl) (fun _ _ _ h => h) (Or.inl ⟨by rfl, ?hy8370⟩) (by assumption) ?rest8370
                          case hy8370 => (intro w hSw; (try dsimp only at hSw); go_simp; try with_reducible rfl)
                          simp only [Act.put, List.getElem_toArray, List.getElem_cons_zero, List.getElem_cons_succ, List.setIfInBounds_toArray, List.set_cons_zero, List.set_cons_succ]
                          refine wpAnyH_take (i := 11) (v := ?v8371) rfl (by kernel_rfl) (by kernel_rfl) (by kernel_rfl) (fun _ _ _ h => h) (Or.inl ⟨by rfl, ?hy8371⟩) (by assumption) ?rest8371
                          case hy8371 => (intro w hSw; (try dsimp only at hSw); go_simp; try with_reducible rfl)
                          simp only [Act.put, List.getElem_toArray, List.getElem_cons_zero, List.getElem_cons_succ, List.setIfInBounds_toArray, List.set_cons_zero, List.set_cons_succ]
                          refine wpAnyH_ready (rs := [6]) (by kernel_rfl) (by simp) ?_
                          refine AllReadyH.cons rfl (fun K hK => ?_) AllReadyH.nil
                          go_simp
                          go_at_call 14
                          refine (CU.out _ hHeld.1).mono ?_
                          rintro e wu ⟨rfl, hbq⟩
                          dsimp only
                          refine hK.out _ _ ?_ (fun hHeld => ?_)
                          · (try dsimp only)
                            exact keepS.out _ _ hHeld hbq
                          clear hK K
                          try simp only [Act.put, List.getElem_toArray, List.getElem_cons_zero, List.getElem_cons_succ, List.setIfInBounds_toArray, List.set_cons_zero, List.set_cons_succ]
                          refine wpAnyH_take (i := 9) (v := ?v8372) rfl (by kernel_rfl) (by kernel_rfl) (by kernel_rfl) (fun _ _ _ h => h) (Or.inl ⟨by rfl, ?hy8372⟩) (by assumption) ?rest8372
                          case hy8372 => (intro w hSw; (try dsimp only at hSw); go_simp; try with_reducible rfl)
                          simp only [Act.put, List.getElem_toArray, List.getElem_cons_zero, List.getElem_cons_succ, List.setIfInBounds_toArray, List.set_cons_zero, List.set_cons_succ]
                          refine wpAnyH_take (i := 12) (v := ?v8373) rfl (by kernel_rfl) (by kernel_rfl) (by kernel_rfl) (fun _ _ _ h => h) (Or.inl ⟨by rfl, ?hy8373⟩) (by assumption) ?rest8373
                          case hy8373 => (intro w hSw; (try dsimp only at hSw); go_simp; try with_reducible rfl)
                          simp only [Act.put, List.getElem_toArray, List.getElem_cons_zero, List.getElem_cons_succ, List.setIfInBounds_toArray, List.set_cons_zero, List.set_cons_succ]
                          refine wpAnyH_take (i := 13) (v := ?v8374) rfl (by kernel_rfl) (by kernel_rfl) (by kernel_rfl) (fun _ _ _ h => h) (Or.inl ⟨by rfl, ?hy8374⟩) (by assumption) ?rest8374
                          case hy8374 => (intro w hSw; (try dsimp only at hSw); go_simp; try with_reducible rfl)
                          simp only [Act.put, List.getElem_toArray, List.getElem_cons_zero, List.getElem_cons_succ, List.setIfInBounds_toArray, List.set_cons_zero, List.set_cons_succ]
                          refine wpAnyH_done (by kernel_rfl) ?_ _
                          replace hL := hL.out.at hHeld.1
                          clear b0 x5 o0 o1 CU hS1 keepS hHeld
                          obtain ⟨x0, x1, x2, x3, x4, x5, x6, x7⟩ := hL.x
                          simp only [Nat.zero_add] at x1 x2 x3 x4 x5 x6 x7
                          have g6 := hL.f1 6
                          have g7 := hL.f1 7
                          have o1 := hL.o1
                          have lw := hL.lo
                          have lso := hL.so
                          have hLy := hL.stamp now
                          have hlr : (roomS z x.size l).length ≤ 1024 := by rw [hst.out]; exact hok'.len
                          have hby1 : (0 + n) * 88 ≤ 140737488355328 := by omega
                          have hby2 : (n + 1) * 88 ≤ 140737488355328 := by omega
                          have l61 : w.heap.size + 1 < wu.heap.size := by omega
                          replace hL := Lib.hid hL
                          replace hLy := Lib.hid hLy
                          repeat' ((fail_if_success at_builtin); (first | go_skip | go_guarded | go_step))
                          generalize (wu.setCell ⟨w.heap.size + 1, 6, none⟩ (.int .i64 now)).setCell ⟨w.heap.size + 1, 7, none⟩ (.int .i64 now) = wy at *
                          refine wp_appS (Own.nil_ wy 42 8) Tryd.underlying22 ent_info hLy.out.seq' (ents_one _) hby1 ?_
                          intro v wz ho hg
                          rw [Nat.zero_add, List.nil_append] at ho
                          obtain ⟨A2, c2, rfl⟩ := ho.slice_form
                          have hLz := hLy.out.at ho.2
                          obtain ⟨y0, y1, y2, y3, y4, y5, y6, y7⟩ := hLz.x
                          simp only [Nat.zero_add] at y1 y2 y3 y4 y5 y6 y7
                          have lz := hLz.lo
                          have l71 : w.heap.size + 1 < wz.heap.size := by omega
                          clear x0 x1 x2 x3 x4 x5 x6 x7 g6 g7 o1 hg
                          replace hLz := Lib.hid hLz
                          have hos := Lib.hid ho
                          repeat' ((fail_if_success at_builtin); (first | go_skip | go_guarded | go_step))
                          refine wp_app1 ho Tryd.underlying22 ent_info hby2 ?_
                          intro v wq ho2 hg2
                          obtain ⟨A3, c3, rfl⟩ := ho2.slice_form
                          have hLq := hLy.out.at ho2.2
                          have q0 := hLq.o0
                          have q1 := hLq.o1
                          have q2 := hLq.r0
                          have q3 := hLq.r1
                          have qf := hLq.fo 1
                          have qg0 := hLq.f2 0
                          have qg1 := hLq.f2 1
                          have lq := hLq.lo
                          have l81 : w.heap.size + 2 < wq.heap.size := by omega
                          have hne : ob ≠ w.heap.size + 2 := by omega
                          have hly := hLy.out.lo
                          have hfr : ∀ p : Addr, p.block ≠ ob → (wq.setCell ⟨ob, 1, none⟩ (.slice A3 (n + 1) c3)).cell? p = wq.cell? p := fun p hp => World.cell?_setCell_far _ _ _ _ (fun e => hp e.symm)
                          have hd := cells2 (u := .int .i64 z) (v := .slice A3 (n + 1) c3) ((hfr ⟨w.heap.size + 2, 0, none⟩ (by show w.heap.size + 2 ≠ ob; omega)).trans q2) ((hfr ⟨w.heap.size + 2, 1, none⟩ (by show w.heap.size + 2 ≠ ob; omega)).trans q3)
                          have hK : RetS w z (roomS z x.size l ++ [stamp x now]) 0 (.returned (.tuple #[cval z A3 (n + 1) c3, .int .i64 0])) (((wq.setCell ⟨ob, 1, none⟩ (.slice A3 (n + 1) c3)).setCell ⟨w.heap.size + 2, 0, none⟩ (.int .i64 z)).setCell ⟨w.heap.size + 2, 1, none⟩ (.slice A3 (n + 1) c3)) := by
                            refine ⟨A3, n + 1, c3, rfl, by rw [List.length_append, hst.out, ← hLy.out.len]; rfl, ?_, ?_⟩
                            · have := Seq.of_own (ownsRow_setCell_below (ownsRow_setCell_below (ownsRow_setCell_below ho2.1 (a := ⟨ob, 1, none⟩) hly (.slice A3 (n + 1) c3)) (a := ⟨w.heap.size + 2, 0, none⟩) (by show w.heap.size + 2 < _; omega) (.int .i64 z)) (a := ⟨w.heap.size + 2, 1, none⟩) (by show w.heap.size + 2 < _; omega) (.slice A3 (n + 1) c3))
                              rw [entsC_app, hst.out]
                              exact this
                            · exact ((hLq.below.setCell (p := ⟨ob, 1, none⟩) (by show w.heap.size ≤ ob; omega) _).setCell (p := ⟨w.heap.size + 2, 0, none⟩) (by show w.heap.size ≤ w.heap.size + 2; omega) _).setCell (p := ⟨w.heap.size + 2, 1, none⟩) (by show w.heap.size ≤ w.heap.size + 2; omega) _
                          replace hK := Lib.hid hK
                          replace hd := Lib.hid hd
                          clear hLq hfr ho2 hg2 y0 y1 y2 y3 y4 y5 y6 y7 ho
                          repeat' ((fail_if_success at_builtin); (first | go_skip | go_guarded | go_step))
                          replace hd := hd.out
                          generalize (World.setCell (World.setCell (World.setCell wq _ _) _ _) _ _) = wf at *
                          obtain ⟨d0, d1⟩ := hd
                          refine bodyPost_ret (v := .tuple #[cval z A3 (n + 1) c3, .int .i64 0]) (by simp only [results, Tryd.results21]; go_simp; try rfl) rfl ?_
                          rw [hLf.out, hEf.out]
                          exact hK.out
                        | true =>
                          rw [hf2] at hfull
                          have hst := Lib.hid (hst.out.trans (room_step hxz hf2))
                          have hn0 : 0 < n := by
                            have := hnl.out
                            cases l' with
                            | nil => rw [full_nil hxz] at hf2; cases hf2
                            | cons => simp at this; omega
                          have hol := oldS_lt (l := l') (by have := hnl.out; omega)
                          rw [← hnl.out] at hol
                          by_cases h1 : 1024 ≤ n
                          · have h1' : (1024 : Int) ≤ (n : Int) := by omega
                            clear hfull
                            have hS1 : Below wr.heap.size wr wr.drew ∧ wr.drew.cell? ⟨w.heap.size, 0, none⟩ = some (.int .i64 z) ∧ wr.drew.cell? ⟨w.heap.size + 1, 5, none⟩ = some (.int .i64 x.size) ∧ wr.drew.cell? ⟨ob, 0, none⟩ = some (.int .i64 z) ∧ wr.drew.cell? ⟨ob, 1, none⟩ = some (.slice A n c) := ⟨(Below.refl _ _).drew, b0, x5, o0, o1⟩
                            have keepS : ∀ w' w'', (Below wr.heap.size wr w' ∧ w'.cell? ⟨w.heap.size, 0, none⟩ = some (.int .i64 z) ∧ w'.cell? ⟨w.heap.size + 1, 5, none⟩ = some (.int .i64 x.size) ∧ w'.cell? ⟨ob, 0, none⟩ = some (.int .i64 z) ∧ w'.cell? ⟨ob, 1, none⟩ = some (.slice A n c)) → Below w'.heap.size w' w'' → (Below wr.heap.size wr w'' ∧ w''.cell? ⟨w.heap.size, 0, none⟩ = some (.int .i64 z) ∧ w''.cell? ⟨w.heap.size + 1, 5, none⟩ = some (.int .i64 x.size) ∧ w''.cell? ⟨ob, 0, none⟩ = some (.int .i64 z) ∧ w''.cell? ⟨ob, 1, none⟩ = some (.slice A n c)) := fun w' w'' h hc => ⟨h.1.trans (hc.mono h.1.size), (hc.cell (p := ⟨w.heap.size, 0, none⟩) (Nat.lt_of_lt_of_le lz0 h.1.size)).trans h.2.1, (hc.cell (p := ⟨w.heap.size + 1, 5, none⟩) (Nat.lt_of_lt_of_le lz1 h.1.size)).trans h.2.2.1, (hc.cell (p := ⟨ob, 0, none⟩) (Nat.lt_of_lt_of_le lob h.1.size)).trans h.2.2.2.1, (hc.cell (p := ⟨ob, 1, none⟩) (Nat.lt_of_lt_of_le lob h.1.size)).trans h.2.2.2.2⟩
                            replace keepS := Lib.hid keepS
                            repeat' ((fail_if_success at_builtin); (first | go_skip | go_guarded | go_step))
                            refine wp_region_held_drew (S := fun w' => Below wr.heap.size wr w' ∧ w'.cell? ⟨w.heap.size, 0, none⟩ = some (.int .i64 z) ∧ w'.cell? ⟨w.heap.size + 1, 5, none⟩ = some (.int .i64 x.size) ∧ w'.cell? ⟨ob, 0, none⟩ = some (.int .i64 z) ∧ w'.cell? ⟨ob, 1, none⟩ = some (.slice A n c)) (by kernel_rfl) ?_ (fun hHeld => ?_)
                            · (try dsimp only)
                              exact hS1
                            refine wpAnyH_take (i := 0) (v := ?v8380) rfl (by kernel_rfl) (by kernel_rfl) (by kernel_rfl) (fun _ _ _ h => h) (Or.inl ⟨by rfl, ?hy8380⟩) (by assumption) ?rest8380
                            case hy8380 => (intro w hSw; (try dsimp only at hSw); go_simp; try with_reducible rfl)
                            simp only [Act.put, List.getElem_toArray, List.getElem_cons_zero, List.setIfInBounds_toArray, List.set_cons_zero, List.set_cons_succ]
                            refine wpAnyH_take (i := 1) (v := ?v8381) rfl (by kernel_rfl) (by kernel_rfl) (by kernel_rfl) (fun _ _ _ h => h) (Or.inl ⟨by rfl, ?hy8381⟩) (by assumption) ?rest8381
                            case hy8381 => (intro w hSw; (try dsimp only at hSw); go_simp; try with_reducible rfl)
                            simp only [Act.put, List.getElem_toArray, List.getElem_cons_zero, List.getElem_cons_succ, List.setIfInBounds_toArray, List.set_cons_zero, List.set_cons_succ]
                            refine wpAnyH_take (i := 2) (v := ?v8382) rfl (by kernel_rfl) (by kernel_rfl) (by kernel_rfl) (fun _ _ _ h => h) (Or.inl ⟨by rfl, ?hy8382⟩) (by assumption) ?rest8382
                            case hy8382 => (intro w hSw; (try dsimp only at hSw); go_simp; try with_reducible rfl)
                            simp only [Act.put, List.getElem_toArray, List.getElem_cons_zero, List.getElem_cons_succ, List.setIfInBounds_toArray, List.set_cons_zero, List.set_cons_succ]
                            refine wpAnyH_take (i := 3) (v := ?v8383) rfl (by kernel_rfl) (by kernel_rfl) (by kernel_rfl) (fun _ _ _ h => h) (Or.inl ⟨by rfl, ?hy8383⟩) (by assumption) ?rest8383
                            case hy8383 => (intro w hSw; (try dsimp only at hSw); go_simp; try with_reducible rfl)
                            simp only [Act.put, List.getElem_toArray, List.getElem_cons_zero, List.getElem_cons_succ, List.setIfInBounds_toArray, List.set_cons_zero, List.set_cons_succ]
                            refine wpAnyH_take (i := 4) (v := ?v8384) rfl (by kernel_rfl) (by kernel_rfl) (by kernel_rfl) (fun _ _ _ h => h) (Or.inl ⟨by rfl, ?hy8384⟩) (by assumption) ?rest8384
                            case hy8384 => (intro w hSw; (try dsimp only at hSw); go_simp; try with_reducible rfl)
                            simp only [Act.put, List.getElem_toArray, List.getElem_cons_zero, List.getElem_cons_succ, List.setIfInBounds_toArray, List.set_cons_zero, List.set_cons_succ]
                            refine wpAnyH_take (i := 5) (v := undef) rfl (by kernel_rfl) (by kernel_rfl) (by kernel_rfl) (fun _ _ _ h => h) (Or.inr ⟨by rfl, rfl⟩) (by assumption) ?_
                            simp only [Act.put, List.getElem_toArray, List.getElem_cons_zero, List.getElem_cons_succ, List.setIfInBounds_toArray, List.set_cons_zero, List.set_cons_succ]
                            refine wpAnyH_take (i := 6) (v := undef) rfl (by kernel_rfl) (by kernel_rfl) (by kernel_rfl) (fun _ _ _ h => h) (Or.inr ⟨by rfl, rfl⟩) (by assumption) ?_
                            simp only [Act.put, List.getElem_toArray, List.getElem_cons_zero, List.getElem_cons_succ, List.setIfInBounds_toArray, List.set_cons_zero, List.set_cons_succ]
                            refine wpAnyH_take (i := 7) (v := undef) rfl (by kernel_rfl) (by kernel_rfl) (by kernel_rfl) (fun _ _ _ h => h) (Or.inr ⟨by rfl, rfl⟩) (by assumption) ?_
                            simp only [Act.put, List.getElem_toArray, List.getElem_cons_zero, List.getElem_cons_succ, List.setIfInBounds_toArray, List.set_cons_zero, List.set_cons_succ]
                            refine wpAnyH_take (i := 8) (v := undef) rfl (by kernel_rfl) (by kernel_rfl) (by kernel_rfl) (fun _ _ _ h => h) (Or.inr ⟨by rfl, rfl⟩) (by assumption) ?_
                            simp only [Act.put, List.getElem_toArray, List.getElem_cons_zero, List.getElem_cons_succ, List.setIfInBounds_toArray, List.set_cons_zero, List.set_cons_succ]
                            refine wpAnyH_take (i := 9) (v := undef) rfl (by kernel_rfl) (by kernel_rfl) (by kernel_rfl) (fun _ _ _ h => h) (Or.inr ⟨by rfl, rfl⟩) (by assumption) ?_
                            simp only [Act.put, List.getElem_toArray, List.getElem_cons_zero, List.getElem_cons_succ, List.setIfInBounds_toArray, List.set_cons_zero, List.set_cons_succ]
                            refine wpAnyH_take (i := 10) (v := undef) rfl (by kernel_rfl) (by kernel_rfl) (by kernel_rfl) (fun _ _ _ h => h) (Or.inr ⟨by rfl, rfl⟩) (by assumption) ?_
                            simp only [Act.put, List.getElem_toArray, List.getElem_cons_zero, List.getElem_cons_succ, List.setIfInBounds_toArray, List.set_cons_zero, List.set_cons_succ]
                            refine wpAnyH_take (i := 11) (v := undef) rfl (by kernel_rfl) (by kernel_rfl) (by kernel_rfl) (fun _ _ _ h => h) (Or.inr ⟨by rfl, rfl⟩) (by assumption) ?_
                            simp only [Act.put, List.getElem_toArray, List.getElem_cons_zero, List.getElem_cons_succ, List.setIfInBounds_toArray, List.set_cons_zero, List.set_cons_succ]
                            refine wpAnyH_take (i := 12) (v := undef) rfl (by kernel_rfl) (by kernel_rfl) (by kernel_rfl) (fun _ _ _ h => h) (Or.inr ⟨by rfl, rfl⟩) (by assumption) ?_
                            simp only [Act.put, List.getElem_toArray, List.getElem_cons_zero, List.getElem_cons_succ, List.setIfInBounds_toArray, List.set_cons_zero, List.set_cons_succ]
                            refine wpAnyH_take (i := 13) (v := ?v8385) rfl (by kernel_rfl) (by kernel_rfl) (by kernel_rfl) (fun _ _ _ h => h) (Or.inl ⟨by rfl, ?hy8385⟩) (by assumption) ?rest8385
                            case hy8385 => (intro w hSw; (try dsimp only at hSw); go_simp; try with_reducible rfl)
                            simp only [Act.put, List.getElem_toArray, List.getElem_cons_zero, List.getElem_cons_succ, List.setIfInBounds_toArray, List.set_cons_zero, List.set_cons_succ]
                            refine wpAnyH_done (by kernel_rfl) ?_ _
                            obtain ⟨hb9, _⟩ := hHeld
                            generalize wr.drew = wi at hb9 ⊢
                            clear b0 x5 o0 o1 CU hS1 keepS
                            replace hL := hL.out.at hb9
                            have o1 := hL.o1
                            have fo1 := hL.fo 1
                            have lob := hL.lo
                            have CO := fun (w' : World) (h : Below wi.heap.size wi w') => oldest_any l' A n c w' hL.len (hL.at h).seq' hn0 (by omega)
                            have CW := fun (w' : World) (h : Below wi.heap.size wi w') => without_any l' A n c (oldS l') w' hL.len (hL.at h).seq' hL.hc hol (by omega)
                            replace CO := Lib.hid CO
                            replace CW := Lib.hid CW
                            have hLh := Lib.hid hL
                            clear hL
                            repeat' ((fail_if_success at_builtin); (first | go_skip | go_guarded | go_step))
                            refine wp_region_held_drew (S := fun _ => True) (by kernel_rfl) trivial (fun hHeld => ?_)
                            refine wpAnyH_take (i := 0) (v := ?v8375) rfl (by kernel_rfl) (by kernel_rfl) (by kernel_rfl) (fun _ _ _ h => h) (Or.inl ⟨by rfl, ?hy8375⟩) (by assumption) ?rest8375
                            case hy8375 => (intro w hSw; (try dsimp only at hSw); go_simp; try with_reducible rfl)
                            simp only [Act.put, List.getElem_toArray, List.getElem_cons_zero, List.setIfInBounds_toArray, List.set_cons_zero, List.set_cons_succ]
                            refine wpAnyH_take (i := 2) (v := ?v8376) rfl (by kernel_rfl) (by kernel_rfl) (by kernel_rfl) (fun _ _ _ h => h) (Or.inl ⟨by rfl, ?hy8376⟩) (by assumption) ?rest8376
                            case hy8376 => (intro w hSw; (try dsimp only at hSw); go_simp; try with_reducible rfl)
                            simp only [Act.put, List.getElem_toArray, List.getElem_cons_zero, List.getElem_cons_succ, List.setIfInBounds_toArray, List.set_cons_zero, List.set_cons_succ]
                            refine wpAnyH_ready (rs := [1, 3]) (by kernel_rfl) (by simp) ?_
                            refine AllReadyH.cons rfl (fun K hK => ?_) ?_
                            · go_simp
                              refine hK.out _ _ trivial (fun hHeld => ?_)
                              clear hK K
                              try simp only [Act.put, List.getElem_toArray, List.getElem_cons_zero, List.getElem_cons_succ, List.setIfInBounds_toArray, List.set_cons_zero, List.set_cons_succ]
                              refine wpAnyH_ready (rs := [3]) (by kernel_rfl) (by simp) ?_
                              refine AllReadyH.cons rfl (fun K hK => ?_) ?_
                              · go_simp
                                refine hK.out _ _ trivial (fun hHeld => ?_)
                                clear hK K
                                try simp only [Act.put, List.getElem_toArray, List.getElem_cons_zero, List.getElem_cons_succ, List.setIfInBounds_toArray, List.set_cons_zero, List.set_cons_succ]
                                refine wpAnyH_ready (rs := [4]) (by kernel_rfl) (by simp) ?_
                                refine AllReadyH.cons rfl (fun K hK => ?_) ?_
                                · go_simp
                                  go_at_call 46
                                  refine (CO.out _ (Below.refl _ _).drew).mono ?_
                                  rintro e w7 ⟨rfl, hb7⟩
                                  dsimp only
                                  have o7 : w7.cell? ⟨ob, 1, none⟩ = some (.slice A n c) := (hb7.cell (p := ⟨ob, 1, none⟩) lob).trans o1
                                  refine hK.out _ _ trivial (fun hHeld => ?_)
                                  clear hK K
                                  try simp only [Act.put, List.getElem_toArray, List.getElem_cons_zero, List.getElem_cons_succ, List.setIfInBounds_toArray, List.set_cons_zero, List.set_cons_succ]
                                  refine wpAnyH_ready (rs := [5]) (by kernel_rfl) (by simp) ?_
                                  refine AllReadyH.cons rfl (fun K hK => ?_) ?_
                                  · go_simp
                                    go_at_call 45
                                    refine (CW.out _ ((Below.refl _ _).drew.trans (hb7.mono (Nat.le_refl _)))).mono ?_
                                    rintro e w10 ⟨A', c', rfl, ho10, hc10⟩
                                    dsimp only
                                    have o10 : w10.cell? ⟨ob, 1, none⟩ = some (.slice A n c) := (ho10.2.cell (p := ⟨ob, 1, none⟩) (Nat.lt_of_lt_of_le lob hb7.size)).trans ((hb7.cell (p := ⟨ob, 1, none⟩) lob).trans o1)
                                    have f10 : w10.frozen? ⟨ob, 1, none⟩ = false := (ho10.2.frozen (p := ⟨ob, 1, none⟩) (Nat.lt_of_lt_of_le lob hb7.size)).trans ((hb7.frozen (p := ⟨ob, 1, none⟩) lob).trans fo1)
                                    have l10 : ob < w10.heap.size := Nat.lt_of_lt_of_le lob (Nat.le_trans hb7.size ho10.2.size)
                                    refine hK.out _ _ trivial (fun hHeld => ?_)
                                    clear hK K
                                    try simp only [Act.put, List.getElem_toArray, List.getElem_cons_zero, List.getElem_cons_succ, List.setIfInBounds_toArray, List.set_cons_zero, List.set_cons_succ]
                                    refine wpAnyH_take (i := 6) (v := ?v8377) rfl (by kernel_rfl) (by kernel_rfl) (by kernel_rfl) (fun _ _ _ h => h) (Or.inl ⟨by rfl, ?hy8377⟩) (by assumption) ?rest8377
                                    case hy8377 => (intro w hSw; (try dsimp only at hSw); go_simp; try with_reducible rfl)
                                    simp only [Act.put, List.getElem_toArray, List.getElem_cons_zero, List.getElem_cons_succ, List.setIfInBounds_toArray, List.set_cons_zero, List.set_cons_succ]
                                    refine wpAnyH_ready (rs := [7]) (by kernel_rfl) (by simp) ?_
                                    refine AllReadyH.cons rfl (fun K hK => ?_) ?_
                                    · go_simp
                                      refine hK.out _ _ trivial (fun hHeld => ?_)
                                      clear hK K
                                      try simp only [Act.put, List.getElem_toArray, List.getElem_cons_zero, List.getElem_cons_succ, List.setIfInBounds_toArray, List.set_cons_zero, List.set_cons_succ]
                                      refine wpAnyH_done (by kernel_rfl) ?_ _
                                      have hs7 : wi.heap.size ≤ w7.heap.size := hb7.size
                                      have hb11 : Below wi.heap.size wi w7 := (Below.refl _ _).drew.trans (hb7.mono (Nat.le_refl _))
                                      have hL2 := hLh.out.at (hb11.trans (ho10.2.mono hs7))
                                      have hq : SeqP w10 (fun b => b < w.heap.size ∨ (ob < b ∧ b < w10.heap.size)) 8 A' (n - 1) (entsC (l'.eraseIdx (oldS l'))) := SeqP.imp (seqp_own ho10.1 (Nat.le_refl _)) (fun b hb => .inr ⟨by omega, hb.2⟩)
                                      have hE : (l'.eraseIdx (oldS l')).length = n - 1 := by rw [List.length_eraseIdx_of_lt (by have := hnl.out; omega), hnl.out]
                                      have hLp := hL2.put hq hc10 hE.symm
                                      try go_frame
                                      go_roundw
                                      case rel => exact ⟨_, _, _, _, _, _, _, _, _, _, _, _, _, _, _, _, _, _, _, _, _, ⟨_, A', n - 1, c', hLp, hok'.erase _, hst.out⟩, rfl⟩
                                      case measure =>
                                        have h1 : sizeAt ob (w10.setCell ⟨ob, 1, none⟩ (.slice A' (n - 1) c')) = n - 1 := by
                                          unfold sizeAt
                                          rw [World.cell?_setCell_same w10 _ _ o10]
                                        rw [h1, hmeas.out]
                                        omega
                                    exact AllReadyH.nil
                                  exact AllReadyH.nil
                                exact AllReadyH.nil
                              exact AllReadyH.nil
                            refine AllReadyH.cons rfl (fun K hK => ?_) ?_
                            · go_simp
                              refine hK.out _ _ trivial (fun hHeld => ?_)
                              clear hK K
                              try simp only [Act.put, List.getElem_toArray, List.getElem_cons_zero, List.getElem_cons_succ, List.setIfInBounds_toArray, List.set_cons_zero, List.set_cons_succ]
                              refine wpAnyH_ready (rs := [1, 4]) (by kernel_rfl) (by simp) ?_
                              refine AllReadyH.cons rfl (fun K hK => ?_) ?_
                              · go_simp
                                refine hK.out _ _ trivial (fun hHeld => ?_)
                                clear hK K
                                try simp only [Act.put, List.getElem_toArray, List.getElem_cons_zero, List.getElem_cons_succ, List.setIfInBounds_toArray, List.set_cons_zero, List.set_cons_succ]
                                refine wpAnyH_ready (rs := [4]) (by kernel_rfl) (by simp) ?_
                                refine AllReadyH.cons rfl (fun K hK => ?_) ?_
                                · go_simp
                                  go_at_call 46
                                  refine (CO.out _ (Below.refl _ _).drew).mono ?_
                                  rintro e w7 ⟨rfl, hb7⟩
                                  dsimp only
                                  have o7 : w7.cell? ⟨ob, 1, none⟩ = some (.slice A n c) := (hb7.cell (p := ⟨ob, 1, none⟩) lob).trans o1
                                  refine hK.out _ _ trivial (fun hHeld => ?_)
                                  clear hK K
                                  try simp only [Act.put, List.getElem_toArray, List.getElem_cons_zero, List.getElem_cons_succ, List.setIfInBounds_toArray, List.set_cons_zero, List.set_cons_succ]
                                  refine wpAnyH_ready (rs := [5]) (by kernel_rfl) (by simp) ?_
                                  refine AllReadyH.cons rfl (fun K hK => ?_) ?_
                                  · go_simp
                                    go_at_call 45
                                    refine (CW.out _ ((Below.refl _ _).drew.trans (hb7.mono (Nat.le_refl _)))).mono ?_
                                    rintro e w10 ⟨A', c', rfl, ho10, hc10⟩
                                    dsimp only
                                    have o10 : w10.cell? ⟨ob, 1, none⟩ = some (.slice A n c) := (ho10.2.cell (p := ⟨ob, 1, none⟩) (Nat.lt_of_lt_of_le lob hb7.size)).trans ((hb7.cell (p := ⟨ob, 1, none⟩) lob).trans o1)
                                    have f10 : w10.frozen? ⟨ob, 1, none⟩ = false := (ho10.2.frozen (p := ⟨ob, 1, none⟩) (Nat.lt_of_lt_of_le lob hb7.size)).trans ((hb7.frozen (p := ⟨ob, 1, none⟩) lob).trans fo1)
                                    have l10 : ob < w10.heap.size := Nat.lt_of_lt_of_le lob (Nat.le_trans hb7.size ho10.2.size)
                                    refine hK.out _ _ trivial (fun hHeld => ?_)
                                    clear hK K
                                    try simp only [Act.put, List.getElem_toArray, List.getElem_cons_zero, List.getElem_cons_succ, List.setIfInBounds_toArray, List.set_cons_zero, List.set_cons_succ]
                                    refine wpAnyH_take (i := 6) (v := ?v8378) rfl (by kernel_rfl) (by kernel_rfl) (by kernel_rfl) (fun _ _ _ h => h) (Or.inl ⟨by rfl, ?hy8378⟩) (by assumption) ?rest8378
                                    case hy8378 => (intro w hSw; (try dsimp only at hSw); go_simp; try with_reducible rfl)
                                    simp only [Act.put, List.getElem_toArray, List.getElem_cons_zero, List.getElem_cons_succ, List.setIfInBounds_toArray, List.set_cons_zero, List.set_cons_succ]
                                    refine wpAnyH_ready (rs := [7]) (by kernel_rfl) (by simp) ?_
                                    refine AllReadyH.cons rfl (fun K hK => ?_) ?_
                                    · go_simp
                                      refine hK.out _ _ trivial (fun hHeld => ?_)
                                      clear hK K
                                      try simp only [Act.put, List.getElem_toArray, List.getElem_cons_zero, List.getElem_cons_succ, List.setIfInBounds_toArray, List.set_cons_zero, List.set_cons_succ]
                                      refine wpAnyH_done (by kernel_rfl) ?_ _
                                      have hs7 : wi.heap.size ≤ w7.heap.size := hb7.size
                                      have hb11 : Below wi.heap.size wi w7 := (Below.refl _ _).drew.trans (hb7.mono (Nat.le_refl _))
                                      have hL2 := hLh.out.at (hb11.trans (ho10.2.mono hs7))
                                      have hq : SeqP w10 (fun b => b < w.heap.size ∨ (ob < b ∧ b < w10.heap.size)) 8 A' (n - 1) (entsC (l'.eraseIdx (oldS l'))) := SeqP.imp (seqp_own ho10.1 (Nat.le_refl _)) (fun b hb => .inr ⟨by omega, hb.2⟩)
                                      have hE : (l'.eraseIdx (oldS l')).length = n - 1 := by rw [List.length_eraseIdx_of_lt (by have := hnl.out; omega), hnl.out]
                                      have hLp := hL2.put hq hc10 hE.symm
                                      try go_frame
                                      go_roundw
                                      case rel => exact ⟨_, _, _, _, _, _, _, _, _, _, _, _, _, _, _, _, _, _, _, _, _, ⟨_, A', n - 1, c', hLp, hok'.erase _, hst.out⟩, rfl⟩
                                      case measure =>
                                        have h1 : sizeAt ob (w10.setCell ⟨ob, 1, none⟩ (.slice A' (n - 1) c')) = n - 1 := by
                                          unfold sizeAt
                                          rw [World.cell?_setCell_same w10 _ _ o10]
                                        rw [h1, hmeas.out]
                                        omega
                                    exact AllReadyH.nil
                                  exact AllReadyH.nil
                                exact AllReadyH.nil
                              refine AllReadyH.cons rfl (fun K hK => ?_) ?_
                              · go_simp
                                go_at_call 46
                                refine (CO.out _ (Below.refl _ _).drew).mono ?_
                                rintro e w7 ⟨rfl, hb7⟩
                                dsimp only
                                have o7 : w7.cell? ⟨ob, 1, none⟩ = some (.slice A n c) := (hb7.cell (p := ⟨ob, 1, none⟩) lob).trans o1
                                refine hK.out _ _ trivial (fun hHeld => ?_)
                                clear hK K
                                try simp only [Act.put, List.getElem_toArray, List.getElem_cons_zero, List.getElem_cons_succ, List.setIfInBounds_toArray, List.set_cons_zero, List.set_cons_succ]
                                refine wpAnyH_ready (rs := [1]) (by kernel_rfl) (by simp) ?_
                                refine AllReadyH.cons rfl (fun K hK => ?_) ?_
                                · go_simp
                                  refine hK.out _ _ trivial (fun hHeld => ?_)
                                  clear hK K
                                  try simp only [Act.put, List.getElem_toArray, List.getElem_cons_zero, List.getElem_cons_succ, List.setIfInBounds_toArray, List.set_cons_zero, List.set_cons_succ]
                                  refine wpAnyH_ready (rs := [5]) (by kernel_rfl) (by simp) ?_
                                  refine AllReadyH.cons rfl (fun K hK => ?_) ?_
                                  · go_simp
                                    go_at_call 45
                                    refine (CW.out _ ((Below.refl _ _).drew.trans (hb7.mono (Nat.le_refl _)))).mono ?_
                                    rintro e w10 ⟨A', c', rfl, ho10, hc10⟩
                                    dsimp only
                                    have o10 : w10.cell? ⟨ob, 1, none⟩ = some (.slice A n c) := (ho10.2.cell (p := ⟨ob, 1, none⟩) (Nat.lt_of_lt_of_le lob hb7.size)).trans ((hb7.cell (p := ⟨ob, 1, none⟩) lob).trans o1)
                                    have f10 : w10.frozen? ⟨ob, 1, none⟩ = false := (ho10.2.frozen (p := ⟨ob, 1, none⟩) (Nat.lt_of_lt_of_le lob hb7.size)).trans ((hb7.frozen (p := ⟨ob, 1, none⟩) lob).trans fo1)
                                    have l10 : ob < w10.heap.size := Nat.lt_of_lt_of_le lob (Nat.le_trans hb7.size ho10.2.size)
                                    refine hK.out _ _ trivial (fun hHeld => ?_)
                                    clear hK K
                                    try simp only [Act.put, List.getElem_toArray, List.getElem_cons_zero, List.getElem_cons_succ, List.setIfInBounds_toArray, List.set_cons_zero, List.set_cons_succ]
                                    refine wpAnyH_take (i := 6) (v := ?v8379) rfl (by kernel_rfl) (by kernel_rfl) (by kernel_rfl) (fun _ _ _ h => h) (Or.inl ⟨by rfl, ?hy8379⟩) (by assumption) ?rest8379
                                    case hy8379 => (intro w hSw; (try dsimp only at hSw); go_simp; try with_reducible rfl)
                                    simp only [Act.put, List.getElem_toArray, List.getElem_cons_zero, List.getElem_cons_succ, List.setIfInBounds_toArray, List.set_cons_zero, List.set_cons_succ]
                                    refine wpAnyH_ready (rs := [7]) (by kernel_rfl) (by simp) ?_
                                    refine AllReadyH.cons rfl (fun K hK => ?_) ?_
                                    · go_simp
                                      refine hK.out _ _ trivial (fun hHeld => ?_)
                                      clear hK K
                                      try simp only [Act.put, List.getElem_toArray, List.getElem_cons_zero, List.getElem_cons_succ, List.setIfInBounds_toArray, List.set_cons_zero, List.set_cons_succ]
                                      refine wpAnyH_done (by kernel_rfl) ?_ _
                                      have hs7 : wi.heap.size ≤ w7.heap.size := hb7.size
                                      have hb11 : Below wi.heap.size wi w7 := (Below.refl _ _).drew.trans (hb7.mono (Nat.le_refl _))
                                      have hL2 := hLh.out.at (hb11.trans (ho10.2.mono hs7))
                                      have hq : SeqP w10 (fun b => b < w.heap.size ∨ (ob < b ∧ b < w10.heap.size)) 8 A' (n - 1) (entsC (l'.eraseIdx (oldS l'))) := SeqP.imp (seqp_own ho10.1 (Nat.le_refl _)) (fun b hb => .inr ⟨by omega, hb.2⟩)
                                      have hE : (l'.eraseIdx (oldS l')).length = n - 1 := by rw [List.length_eraseIdx_of_lt (by have := hnl.out; omega), hnl.out]
                                      have hLp := hL2.put hq hc10 hE.symm
                                      try go_frame
                                      go_roundw
                                      case rel => exact ⟨_, _, _, _, _, _, _, _, _, _, _, _, _, _, _, _, _, _, _, _, _, ⟨_, A', n - 1, c', hLp, hok'.erase _, hst.out⟩, rfl⟩
                                      case measure =>
                                        have h1 : sizeAt ob (w10.setCell ⟨ob, 1, none⟩ (.slice A' (n - 1) c')) = n - 1 := by
                                          unfold sizeAt
                                          rw [World.cell?_setCell_same w10 _ _ o10]
                                        rw [h1, hmeas.out]
                                        omega
                                    exact AllReadyH.nil
                                  exact AllReadyH.nil
                                exact AllReadyH.nil
                              exact AllReadyH.nil
                            exact AllReadyH.nil
                          · have h1' : ¬ ((1024 : Int) ≤ (n : Int)) := by omega
                            have h2 : z < us + x.size := by
                              rw [decide_eq_false h1, Bool.false_or] at hfull
                              simpa using hfull.symm
                            clear hfull
                            have hS1 : Below wr.heap.size wr wr.drew ∧ wr.drew.cell? ⟨w.heap.size, 0, none⟩ = some (.int .i64 z) ∧ wr.drew.cell? ⟨w.heap.size + 1, 5, none⟩ = some (.int .i64 x.size) ∧ wr.drew.cell? ⟨ob, 0, none⟩ = some (.int .i64 z) ∧ wr.drew.cell? ⟨ob, 1, none⟩ = some (.slice A n c) := ⟨(Below.refl _ _).drew, b0, x5, o0, o1⟩
                            have keepS : ∀ w' w'', (Below wr.heap.size wr w' ∧ w'.cell? ⟨w.heap.size, 0, none⟩ = some (.int .i64 z) ∧ w'.cell? ⟨w.heap.size + 1, 5, none⟩ = some (.int .i64 x.size) ∧ w'.cell? ⟨ob, 0, none⟩ = some (.int .i64 z) ∧ w'.cell? ⟨ob, 1, none⟩ = some (.slice A n c)) → Below w'.heap.size w' w'' → (Below wr.heap.size wr w'' ∧ w''.cell? ⟨w.heap.size, 0, none⟩ = some (.int .i64 z) ∧ w''.cell? ⟨w.heap.size + 1, 5, none⟩ = some (.int .i64 x.size) ∧ w''.cell? ⟨ob, 0, none⟩ = some (.int .i64 z) ∧ w''.cell? ⟨ob, 1, none⟩ = some (.slice A n c)) := fun w' w'' h hc => ⟨h.1.trans (hc.mono h.1.size), (hc.cell (p := ⟨w.heap.size, 0, none⟩) (Nat.lt_of_lt_of_le lz0 h.1.size)).trans h.2.1, (hc.cell (p := ⟨w.heap.size + 1, 5, none⟩) (Nat.lt_of_lt_of_le lz1 h.1.size)).trans h.2.2.1, (hc.cell (p := ⟨ob, 0, none⟩) (Nat.lt_of_lt_of_le lob h.1.size)).trans h.2.2.2.1, (hc.cell (p := ⟨ob, 1, none⟩) (Nat.lt_of_lt_of_le lob h.1.size)).trans h.2.2.2.2⟩
                            replace keepS := Lib.hid keepS
                            repeat' ((fail_if_success at_builtin); (first | go_skip | go_guarded | go_step))
                            refine wp_region_held_drew (S := fun w' => Below wr.heap.size wr w' ∧ w'.cell? ⟨w.heap.size, 0, none⟩ = some (.int .i64 z) ∧ w'.cell? ⟨w.heap.size + 1, 5, none⟩ = some (.int .i64 x.size) ∧ w'.cell? ⟨ob, 0, none⟩ = some (.int .i64 z) ∧ w'.cell? ⟨ob, 1, none⟩ = some (.slice A n c)) (by kernel_rfl) ?_ (fun hHeld => ?_)
                            · (try dsimp only)
                              exact hS1
                            refine wpAnyH_take (i := 0) (v := ?v8391) rfl (by kernel_rfl) (by kernel_rfl) (by kernel_rfl) (fun _ _ _ h => h) (Or.inl ⟨by rfl, ?hy8391⟩) (by assumption) ?rest8391
                            case hy8391 => (intro w hSw; (try dsimp only at hSw); go_simp; try with_reducible rfl)
                            simp only [Act.put, List.getElem_toArray, List.getElem_cons_zero, List.setIfInBounds_toArray, List.set_cons_zero, List.set_cons_succ]
                            refine wpAnyH_take (i := 1) (v := ?v8392) rfl (by kernel_rfl) (by kernel_rfl) (by kernel_rfl) (fun _ _ _ h => h) (Or.inl ⟨by rfl, ?hy8392⟩) (by assumption) ?rest8392
                            case hy8392 => (intro w hSw; (try dsimp only at hSw); go_simp; try with_reducible rfl)
                            simp only [Act.put, List.getElem_toArray, List.getElem_cons_zero, List.getElem_cons_succ, List.setIfInBounds_toArray, List.set_cons_zero, List.set_cons_succ]
                            refine wpAnyH_take (i := 2) (v := ?v8393) rfl (by kernel_rfl) (by kernel_rfl) (by kernel_rfl) (fun _ _ _ h => h) (Or.inl ⟨by rfl, ?hy8393⟩) (by assumption) ?rest8393
                            case hy8393 => (intro w hSw; (try dsimp only at hSw); go_simp; try with_reducible rfl)
                            simp only [Act.put, List.getElem_toArray, List.getElem_cons_zero, List.getElem_cons_succ, List.setIfInBounds_toArray, List.set_cons_zero, List.set_cons_succ]
                            refine wpAnyH_take (i := 3) (v := ?v8394) rfl (by kernel_rfl) (by kernel_rfl) (by kernel_rfl) (fun _ _ _ h => h) (Or.inl ⟨by rfl, ?hy8394⟩) (by assumption) ?rest8394
                            case hy8394 => (intro w hSw; (try dsimp only at hSw); go_simp; try with_reducible rfl)
                            simp only [Act.put, List.getElem_toArray, List.getElem_cons_zero, List.getElem_cons_succ, List.setIfInBounds_toArray, List.set_cons_zero, List.set_cons_succ]
                            refine wpAnyH_take (i := 4) (v := ?v8395) rfl (by kernel_rfl) (by kernel_rfl) (by kernel_rfl) (fun _ _ _ h => h) (Or.inl ⟨by rfl, ?hy8395⟩) (by assumption) ?rest8395
                            case hy8395 => (intro w hSw; (try dsimp only at hSw); go_simp; try with_reducible rfl)
                            simp only [Act.put, List.getElem_toArray, List.getElem_cons_zero, List.getElem_cons_succ, List.setIfInBounds_toArray, List.set_cons_zero, List.set_cons_succ]
                            refine wpAnyH_take (i := 5) (v := ?v8396) rfl (by kernel_rfl) (by kernel_rfl) (by kernel_rfl) (fun _ _ _ h => h) (Or.inl ⟨by rfl, ?hy8396⟩) (by assumption) ?rest8396
                            case hy8396 => (intro w hSw; (try dsimp only at hSw); go_simp; try with_reducible rfl)
                            simp only [Act.put, List.getElem_toArray, List.getElem_cons_zero, List.getElem_cons_succ, List.setIfInBounds_toArray, List.set_cons_zero, List.set_cons_succ]
                            refine wpAnyH_take (i := 7) (v := ?v8397) rfl (by kernel_rfl) (by kernel_rfl) (by kernel_rfl) (fun _ _ _ h => h) (Or.inl ⟨by rfl, ?hy8397⟩) (by assumption) ?rest8397
                            case hy8397 => (intro w hSw; (try dsimp only at hSw); go_simp; try with_reducible rfl)
                            simp only [Act.put, List.getElem_toArray, List.getElem_cons_zero, List.getElem_cons_succ, List.setIfInBounds_toArray, List.set_cons_zero, List.set_cons_succ]
                            refine wpAnyH_take (i := 8) (v := ?v8398) rfl (by kernel_rfl) (by kernel_rfl) (by kernel_rfl) (fun _ _ _ h => h) (Or.inl ⟨by rfl, ?hy8398⟩) (by assumption) ?rest8398
                            case hy8398 => (intro w hSw; (try dsimp only at hSw); go_simp; try with_reducible rfl)
                            simp only [Act.put, List.getElem_toArray, List.getElem_cons_zero, List.getElem_cons_succ, List.setIfInBounds_toArray, List.set_cons_zero, List.set_cons_succ]
                            refine wpAnyH_take (i := 10) (v := ?v8399) rfl (by kernel_rfl) (by kernel_rfl) (by kernel_rfl) (fun _ _ _ h => h) (Or.inl ⟨by rfl, ?hy8399⟩) (by assumption) ?rest8399
                            case hy8399 => (intro w hSw; (try dsimp only at hSw); go_simp; try with_reducible rfl)
                            simp only [Act.put, List.getElem_toArray, List.getElem_cons_zero, List.getElem_cons_succ, List.setIfInBounds_toArray, List.set_cons_zero, List.set_cons_succ]
                            refine wpAnyH_take (i := 11) (v := ?v8400) rfl (by kernel_rfl) (by kernel_rfl) (by kernel_rfl) (fun _ _ _ h => h) (Or.inl ⟨by rfl, ?hy8400⟩) (by assumption) ?rest8400
                            case hy8400 => (intro w hSw; (try dsimp only at hSw); go_simp; try with_reducible rfl)
                            simp only [Act.put, List.getElem_toArray, List.getElem_cons_zero, List.getElem_cons_succ, List.setIfInBounds_toArray, List.set_cons_zero, List.set_cons_succ]
                            refine wpAnyH_ready (rs := [6]) (by kernel_rfl) (by simp) ?_
                            refine AllReadyH.cons rfl (fun K hK => ?_) AllReadyH.nil
                            go_simp
                            go_at_call 14
                            refine (CU.out _ hHeld.1).mono ?_
                            rintro e wu ⟨rfl, hbq⟩
                            dsimp only
                            refine hK.out _ _ ?_ (fun hHeld => ?_)
                            · (try dsimp only)
                              exact keepS.out _ _ hHeld hbq
                            clear hK K
                            try simp only [Act.put, List.getElem_toArray, List.getElem_cons_zero, List.getElem_cons_succ, List.setIfInBounds_toArray, List.set_cons_zero, List.set_cons_succ]
                            refine wpAnyH_take (i := 9) (v := ?v8401) rfl (by kernel_rfl) (by kernel_rfl) (by kernel_rfl) (fun _ _ _ h => h) (Or.inl ⟨by rfl, ?hy8401⟩) (by assumption) ?rest8401
                            case hy8401 => (intro w hSw; (try dsimp only at hSw); go_simp; try with_reducible rfl)
                            simp only [Act.put, List.getElem_toArray, List.getElem_cons_zero, List.getElem_cons_succ, List.setIfInBounds_toArray, List.set_cons_zero, List.set_cons_succ]
                            refine wpAnyH_take (i := 12) (v := ?v8402) rfl (by kernel_rfl) (by kernel_rfl) (by kernel_rfl) (fun _ _ _ h => h) (Or.inl ⟨by rfl, ?hy8402⟩) (by assumption) ?rest8402
                            case hy8402 => (intro w hSw; (try dsimp only at hSw); go_simp; try with_reducible rfl)
                            simp only [Act.put, List.getElem_toArray, List.getElem_cons_zero, List.getElem_cons_succ, List.setIfInBounds_toArray, List.set_cons_zero, List.set_cons_succ]
                            refine wpAnyH_take (i := 13) (v := ?v8403) rfl (by kernel_rfl) (by kernel_rfl) (by kernel_rfl) (fun _ _ _ h => h) (Or.inl ⟨by rfl, ?hy8403⟩) (by assumption) ?rest8403
                            case hy8403 => (intro w hSw; (try dsimp only at hSw); go_simp; try with_reducible rfl)
                            simp only [Act.put, List.getElem_toArray, List.getElem_cons_zero, List.getElem_cons_succ, List.setIfInBounds_toArray, List.set_cons_zero, List.set_cons_succ]
                            refine wpAnyH_done (by kernel_rfl) ?_ _
                            obtain ⟨hb9, _⟩ := hHeld
                            clear b0 x5 o0 o1 CU hS1 keepS
                            replace hL := hL.out.at hb9
                            have o1 := hL.o1
                            have fo1 := hL.fo 1
                            have lob := hL.lo
                            have CO := fun (w' : World) (h : Below wu.heap.size wu w') => oldest_any l' A n c w' hL.len (hL.at h).seq' hn0 (by omega)
                            have CW := fun (w' : World) (h : Below wu.heap.size wu w') => without_any l' A n c (oldS l') w' hL.len (hL.at h).seq' hL.hc hol (by omega)
                            replace CO := Lib.hid CO
                            replace CW := Lib.hid CW
                            have hLh := Lib.hid hL
                            clear hL
                            repeat' ((fail_if_success at_builtin); (first | go_skip | go_guarded | go_step))
                            refine wp_region_held_drew (S := fun _ => True) (by kernel_rfl) trivial (fun hHeld => ?_)
                            refine wpAnyH_take (i := 0) (v := ?v8386) rfl (by kernel_rfl) (by kernel_rfl) (by kernel_rfl) (fun _ _ _ h => h) (Or.inl ⟨by rfl, ?hy8386⟩) (by assumption) ?rest8386
                            case hy8386 => (intro w hSw; (try dsimp only at hSw); go_simp; try with_reducible rfl)
                            simp only [Act.put, List.getElem_toArray, List.getElem_cons_zero, List.setIfInBounds_toArray, List.set_cons_zero, List.set_cons_succ]
                            refine wpAnyH_take (i := 2) (v := ?v8387) rfl (by kernel_rfl) (by kernel_rfl) (by kernel_rfl) (fun _ _ _ h => h) (Or.inl ⟨by rfl, ?hy8387⟩) (by assumption) ?rest8387
                            case hy8387 => (intro w hSw; (try dsimp only at hSw); go_simp; try with_reducible rfl)
                            simp only [Act.put, List.getElem_toArray, List.getElem_cons_zero, List.getElem_cons_succ, List.setIfInBounds_toArray, List.set_cons_zero, List.set_cons_succ]
                            refine wpAnyH_ready (rs := [1, 3]) (by kernel_rfl) (by simp) ?_
                            refine AllReadyH.cons rfl (fun K hK => ?_) ?_
                            · go_simp
                              refine hK.out _ _ trivial (fun hHeld => ?_)
                              clear hK K
                              try simp only [Act.put, List.getElem_toArray, List.getElem_cons_zero, List.getElem_cons_succ, List.setIfInBounds_toArray, List.set_cons_zero, List.set_cons_succ]
                              refine wpAnyH_ready (rs := [3]) (by kernel_rfl) (by simp) ?_
                              refine AllReadyH.cons rfl (fun K hK => ?_) ?_
                              · go_simp
                                refine hK.out _ _ trivial (fun hHeld => ?_)
                                clear hK K
                                try simp only [Act.put, List.getElem_toArray, List.getElem_cons_zero, List.getElem_cons_succ, List.setIfInBounds_toArray, List.set_cons_zero, List.set_cons_succ]
                                refine wpAnyH_ready (rs := [4]) (by kernel_rfl) (by simp) ?_
                                refine AllReadyH.cons rfl (fun K hK => ?_) ?_
                                · go_simp
                                  go_at_call 46
                                  refine (CO.out _ (Below.refl _ _).drew).mono ?_
                                  rintro e w7 ⟨rfl, hb7⟩
                                  dsimp only
                                  have o7 : w7.cell? ⟨ob, 1, none⟩ = some (.slice A n c) := (hb7.cell (p := ⟨ob, 1, none⟩) lob).trans o1
                                  refine hK.out _ _ trivial (fun hHeld => ?_)
                                  clear hK K
                                  try simp only [Act.put, List.getElem_toArray, List.getElem_cons_zero, List.getElem_cons_succ, List.setIfInBounds_toArray, List.set_cons_zero, List.set_cons_succ]
                                  refine wpAnyH_ready (rs := [5]) (by kernel_rfl) (by simp) ?_
                                  refine AllReadyH.cons rfl (fun K hK => ?_) ?_
                                  · go_simp
                                    go_at_call 45
                                    refine (CW.out _ ((Below.refl _ _).drew.trans (hb7.mono (Nat.le_refl _)))).mono ?_
                                    rintro e w10 ⟨A', c', rfl, ho10, hc10⟩
                                    dsimp only
                                    have o10 : w10.cell? ⟨ob, 1, none⟩ = some (.slice A n c) := (ho10.2.cell (p := ⟨ob, 1, none⟩) (Nat.lt_of_lt_of_le lob hb7.size)).trans ((hb7.cell (p := ⟨ob, 1, none⟩) lob).trans o1)
                                    have f10 : w10.frozen? ⟨ob, 1, none⟩ = false := (ho10.2.frozen (p := ⟨ob, 1, none⟩) (Nat.lt_of_lt_of_le lob hb7.size)).trans ((hb7.frozen (p := ⟨ob, 1, none⟩) lob).trans fo1)
                                    have l10 : ob < w10.heap.size := Nat.lt_of_lt_of_le lob (Nat.le_trans hb7.size ho10.2.size)
                                    refine hK.out _ _ trivial (fun hHeld => ?_)
                                    clear hK K
                                    try simp only [Act.put, List.getElem_toArray, List.getElem_cons_zero, List.getElem_cons_succ, List.setIfInBounds_toArray, List.set_cons_zero, List.set_cons_succ]
                                    refine wpAnyH_take (i := 6) (v := ?v8388) rfl (by kernel_rfl) (by kernel_rfl) (by kernel_rfl) (fun _ _ _ h => h) (Or.inl ⟨by rfl, ?hy8388⟩) (by assumption) ?rest8388
                                    case hy8388 => (intro w hSw; (try dsimp only at hSw); go_simp; try with_reducible rfl)
                                    simp only [Act.put, List.getElem_toArray, List.getElem_cons_zero, List.getElem_cons_succ, List.setIfInBounds_toArray, List.set_cons_zero, List.set_cons_succ]
                                    refine wpAnyH_ready (rs := [7]) (by kernel_rfl) (by simp) ?_
                                    refine AllReadyH.cons rfl (fun K hK => ?_) ?_
                                    · go_simp
                                      refine hK.out _ _ trivial (fun hHeld => ?_)
                                      clear hK K
                                      try simp only [Act.put, List.getElem_toArray, List.getElem_cons_zero, List.getElem_cons_succ, List.setIfInBounds_toArray, List.set_cons_zero, List.set_cons_succ]
                                      refine wpAnyH_done (by kernel_rfl) ?_ _
                                      have hs7 : wu.heap.size ≤ w7.heap.size := hb7.size
                                      have hb11 : Below wu.heap.size wu w7 := (Below.refl _ _).drew.trans (hb7.mono (Nat.le_refl _))
                                      have hL2 := hLh.out.at (hb11.trans (ho10.2.mono hs7))
                                      have hq : SeqP w10 (fun b => b < w.heap.size ∨ (ob < b ∧ b < w10.heap.size)) 8 A' (n - 1) (entsC (l'.eraseIdx (oldS l'))) := SeqP.imp (seqp_own ho10.1 (Nat.le_refl _)) (fun b hb => .inr ⟨by omega, hb.2⟩)
                                      have hE : (l'.eraseIdx (oldS l')).length = n - 1 := by rw [List.length_eraseIdx_of_lt (by have := hnl.out; omega), hnl.out]
                                      have hLp := hL2.put hq hc10 hE.symm
                                      try go_frame
                                      go_roundw
                                      case rel => exact ⟨_, _, _, _, _, _, _, _, _, _, _, _, _, _, _, _, _, _, _, _, _, ⟨_, A', n - 1, c', hLp, hok'.erase _, hst.out⟩, rfl⟩
                                      case measure =>
                                        have h1 : sizeAt ob (w10.setCell ⟨ob, 1, none⟩ (.slice A' (n - 1) c')) = n - 1 := by
                                          unfold sizeAt
                                          rw [World.cell?_setCell_same w10 _ _ o10]
                                        rw [h1, hmeas.out]
                                        omega
                                    exact AllReadyH.nil
                                  exact AllReadyH.nil
                                exact AllReadyH.nil
                              exact AllReadyH.nil
                            refine AllReadyH.cons rfl (fun K hK => ?_) ?_
                            · go_simp
                              refine hK.out _ _ trivial (fun hHeld => ?_)
                              clear hK K
                              try simp only [Act.put, List.getElem_toArray, List.getElem_cons_zero, List.getElem_cons_succ, List.setIfInBounds_toArray, List.set_cons_zero, List.set_cons_succ]
                              refine wpAnyH_ready (rs := [1, 4]) (by kernel_rfl) (by simp) ?_
                              refine AllReadyH.cons rfl (fun K hK => ?_) ?_
                              · go_simp
                                refine hK.out _ _ trivial (fun hHeld => ?_)
                                clear hK K
                                try simp only [Act.put, List.getElem_toArray, List.getElem_cons_zero, List.getElem_cons_succ, List.setIfInBounds_toArray, List.set_cons_zero, List.set_cons_succ]
                                refine wpAnyH_ready (rs := [4]) (by kernel_rfl) (by simp) ?_
                                refine AllReadyH.cons rfl (fun K hK => ?_) ?_
                                · go_simp
                                  go_at_call 46
                                  refine (CO.out _ (Below.refl _ _).drew).mono ?_
                                  rintro e w7 ⟨rfl, hb7⟩
                                  dsimp only
                                  have o7 : w7.cell? ⟨ob, 1, none⟩ = some (.slice A n c) := (hb7.cell (p := ⟨ob, 1, none⟩) lob).trans o1
                                  refine hK.out _ _ trivial (fun hHeld => ?_)
                                  clear hK K
                                  try simp only [Act.put, List.getElem_toArray, List.getElem_cons_zero, List.getElem_cons_succ, List.setIfInBounds_toArray, List.set_cons_zero, List.set_cons_succ]
                                  refine wpAnyH_ready (rs := [5]) (by kernel_rfl) (by simp) ?_
                                  refine AllReadyH.cons rfl (fun K hK => ?_) ?_
                                  · go_simp
                                    go_at_call 45
                                    refine (CW.out _ ((Below.refl _ _).drew.trans (hb7.mono (Nat.le_refl _)))).mono ?_
                                    rintro e w10 ⟨A', c', rfl, ho10, hc10⟩
                                    dsimp only
                                    have o10 : w10.cell? ⟨ob, 1, none⟩ = some (.slice A n c) := (ho10.2.cell (p := ⟨ob, 1, none⟩) (Nat.lt_of_lt_of_le lob hb7.size)).trans ((hb7.cell (p := ⟨ob, 1, none⟩) lob).trans o1)
                                    have f10 : w10.frozen? ⟨ob, 1, none⟩ = false := (ho10.2.frozen (p := ⟨ob, 1, none⟩) (Nat.lt_of_lt_of_le lob hb7.size)).trans ((hb7.frozen (p := ⟨ob, 1, none⟩) lob).trans fo1)
                                    have l10 : ob < w10.heap.size := Nat.lt_of_lt_of_le lob (Nat.le_trans hb7.size ho10.2.size)
                                    refine hK.out _ _ trivial (fun hHeld => ?_)
                                    clear hK K
                                    try simp only [Act.put, List.getElem_toArray, List.getElem_cons_zero, List.getElem_cons_succ, List.setIfInBounds_toArray, List.set_cons_zero, List.set_cons_succ]
                                    refine wpAnyH_take (i := 6) (v := ?v8389) rfl (by kernel_rfl) (by kernel_rfl) (by kernel_rfl) (fun _ _ _ h => h) (Or.inl ⟨by rfl, ?hy8389⟩) (by assumption) ?rest8389
                                    case hy8389 => (intro w hSw; (try dsimp only at hSw); go_simp; try with_reducible rfl)
                                    simp only [Act.put, List.getElem_toArray, List.getElem_cons_zero, List.getElem_cons_succ, List.setIfInBounds_toArray, List.set_cons_zero, List.set_cons_succ]
                                    refine wpAnyH_ready (rs := [7]) (by kernel_rfl) (by simp) ?_
                                    refine AllReadyH.cons rfl (fun K hK => ?_) ?_
                                    · go_simp
                                      refine hK.out _ _ trivial (fun hHeld => ?_)
                                      clear hK K
                                      try simp only [Act.put, List.getElem_toArray, List.getElem_cons_zero, List.getElem_cons_succ, List.setIfInBounds_toArray, List.set_cons_zero, List.set_cons_succ]
                                      refine wpAnyH_done (by kernel_rfl) ?_ _
                                      have hs7 : wu.heap.size ≤ w7.heap.size := hb7.size
                                      have hb11 : Below wu.heap.size wu w7 := (Below.refl _ _).drew.trans (hb7.mono (Nat.le_refl _))
                                      have hL2 := hLh.out.at (hb11.trans (ho10.2.mono hs7))
                                      have hq : SeqP w10 (fun b => b < w.heap.size ∨ (ob < b ∧ b < w10.heap.size)) 8 A' (n - 1) (entsC (l'.eraseIdx (oldS l'))) := SeqP.imp (seqp_own ho10.1 (Nat.le_refl _)) (fun b hb => .inr ⟨by omega, hb.2⟩)
                                      have hE : (l'.eraseIdx (oldS l')).length = n - 1 := by rw [List.length_eraseIdx_of_lt (by have := hnl.out; omega), hnl.out]
                                      have hLp := hL2.put hq hc10 hE.symm
                                      try go_frame
                                      go_roundw
                                      case rel => exact ⟨_, _, _, _, _, _, _, _, _, _, _, _, _, _, _, _, _, _, _, _, _, ⟨_, A', n - 1, c', hLp, hok'.erase _, hst.out⟩, rfl⟩
                                      case measure =>
                                        have h1 : sizeAt ob (w10.setCell ⟨ob, 1, none⟩ (.slice A' (n - 1) c')) = n - 1 := by
                                          unfold sizeAt
                                          rw [World.cell?_setCell_same w10 _ _ o10]
                                        rw [h1, hmeas.out]
                                        omega
                                    exact AllReadyH.nil
                                  exact AllReadyH.nil
                                exact AllReadyH.nil
                              refine AllReadyH.cons rfl (fun K hK => ?_) ?_
                              · go_simp
                                go_at_call 46
                                refine (CO.out _ (Below.refl _ _).drew).mono ?_
                                rintro e w7 ⟨rfl, hb7⟩
                                dsimp only
                                have o7 : w7.cell? ⟨ob, 1, none⟩ = some (.slice A n c) := (hb7.cell (p := ⟨ob, 1, none⟩) lob).trans o1
                                refine hK.out _ _ trivial (fun hHeld => ?_)
                                clear hK K
                                try simp only [Act.put, List.getElem_toArray, List.getElem_cons_zero, List.getElem_cons_succ, List.setIfInBounds_toArray, List.set_cons_zero, List.set_cons_succ]
                                refine wpAnyH_ready (rs := [1]) (by kernel_rfl) (by simp) ?_
                                refine AllReadyH.cons rfl (fun K hK => ?_) ?_
                                · go_simp
                                  refine hK.out _ _ trivial (fun hHeld => ?_)
                                  clear hK K
                                  try simp only [Act.put, List.getElem_toArray, List.getElem_cons_zero, List.getElem_cons_succ, List.setIfInBounds_toArray, List.set_cons_zero, List.set_cons_succ]
                                  refine wpAnyH_ready (rs := [5]) (by kernel_rfl) (by simp) ?_
                                  refine AllReadyH.cons rfl (fun K hK => ?_) ?_
                                  · go_simp
                                    go_at_call 45
                                    refine (CW.out _ ((Below.refl _ _).drew.trans (hb7.mono (Nat.le_refl _)))).mono ?_
                                    rintro e w10 ⟨A', c', rfl, ho10, hc10⟩
                                    dsimp only
                                    have o10 : w10.cell? ⟨ob, 1, none⟩ = some (.slice A n c) := (ho10.2.cell (p := ⟨ob, 1, none⟩) (Nat.lt_of_lt_of_le lob hb7.size)).trans ((hb7.cell (p := ⟨ob, 1, none⟩) lob).trans o1)
                                    have f10 : w10.frozen? ⟨ob, 1, none⟩ = false := (ho10.2.frozen (p := ⟨ob, 1, none⟩) (Nat.lt_of_lt_of_le lob hb7.size)).trans ((hb7.frozen (p := ⟨ob, 1, none⟩) lob).trans fo1)
                                    have l10 : ob < w10.heap.size := Nat.lt_of_lt_of_le lob (Nat.le_trans hb7.size ho10.2.size)
                                    refine hK.out _ _ trivial (fun hHeld => ?_)
                                    clear hK K
                                    try simp only [Act.put, List.getElem_toArray, List.getElem_cons_zero, List.getElem_cons_succ, List.setIfInBounds_toArray, List.set_cons_zero, List.set_cons_succ]
                                    refine wpAnyH_take (i := 6) (v := ?v8390) rfl (by kernel_rfl) (by kernel_rfl) (by kernel_rfl) (fun _ _ _ h => h) (Or.inl ⟨by rfl, ?hy8390⟩) (by assumption) ?rest8390
                                    case hy8390 => (intro w hSw; (try dsimp only at hSw); go_simp; try with_reducible rfl)
                                    simp only [Act.put, List.getElem_toArray, List.getElem_cons_zero, List.getElem_cons_succ, List.setIfInBounds_toArray, List.set_cons_zero, List.set_cons_succ]
                                    refine wpAnyH_ready (rs := [7]) (by kernel_rfl) (by simp) ?_
                                    refine AllReadyH.cons rfl (fun K hK => ?_) ?_
                                    · go_simp
                                      refine hK.out _ _ trivial (fun hHeld => ?_)
                                      clear hK K
                                      try simp only [Act.put, List.getElem_toArray, List.getElem_cons_zero, List.getElem_cons_succ, List.setIfInBounds_toArray, List.set_cons_zero, List.set_cons_succ]
                                      refine wpAnyH_done (by kernel_rfl) ?_ _
                                      have hs7 : wu.heap.size ≤ w7.heap.size := hb7.size
                                      have hb11 : Below wu.heap.size wu w7 := (Below.refl _ _).drew.trans (hb7.mono (Nat.le_refl _))
                                      have hL2 := hLh.out.at (hb11.trans (ho10.2.mono hs7))
                                      have hq : SeqP w10 (fun b => b < w.heap.size ∨ (ob < b ∧ b < w10.heap.size)) 8 A' (n - 1) (entsC (l'.eraseIdx (oldS l'))) := SeqP.imp (seqp_own ho10.1 (Nat.le_refl _)) (fun b hb => .inr ⟨by omega, hb.2⟩)
                                      have hE : (l'.eraseIdx (oldS l')).length = n - 1 := by rw [List.length_eraseIdx_of_lt (by have := hnl.out; omega), hnl.out]
                                      have hLp := hL2.put hq hc10 hE.symm
                                      try go_frame
                                      go_roundw
                                      case rel => exact ⟨_, _, _, _, _, _, _, _, _, _, _, _, _, _, _, _, _, _, _, _, _, ⟨_, A', n - 1, c', hLp, hok'.erase _, hst.out⟩, rfl⟩
                                      case measure =>
                                        have h1 : sizeAt ob (w10.setCell ⟨ob, 1, none⟩ (.slice A' (n - 1) c')) = n - 1 := by
                                          unfold sizeAt
                                          rw [World.cell?_setCell_same w10 _ _ o10]
                                        rw [h1, hmeas.out]
                                        omega
                                    exact AllReadyH.nil
                                  exact AllReadyH.nil
                                exact AllReadyH.nil
                              exact AllReadyH.nil
                            exact AllReadyH.nil
end Go.Proofs.YtpdlapdnjmoaoaaDoor
