/- Cache: the law Reads. -/
import Derived.Test.YtpdlapdnjmoaoaaDoorCaL2
import Derived.Test.YtpdlapdnjmoaoaaDoorCaY
import Derived.Test.YtpdlapdnjmoaoaaDoorCaZR
import Derived.Test.YtpdlapdnjmoaoaaDoorCaS
import Derived.Test.YtpdlapdnjmoaoaaDoorHk
namespace Go.Proofs.YtpdlapdnjmoaoaaDoor
open Go.RowKit
theorem touchL_len (z : Int) (l : List Ent) (s : Scp) (k : ByteArray) (now : Int) : (touchL z l s k now).length = l.length := by
  unfold touchL
  split
  · unfold setU
    split
    · rw [List.length_set]
    · rfl
  · rfl
theorem readS_le (o : Org) (t : Int) (l : List Ent) : (readS o t l).length ≤ l.length := List.length_filter_le _ _
structure RInv (w wx : World) (z : Int) (A : Option Addr) (n c : Nat) (o : Org) (x : Ent) : Prop where
  below : Below w.heap.size w wx
  size : w.heap.size + 3 ≤ wx.heap.size
  c0 : wx.cell? ⟨w.heap.size, 0, none⟩ = some (.int .i64 z)
  c1 : wx.cell? ⟨w.heap.size, 1, none⟩ = some (.slice A n c)
  o0 : wx.cell? ⟨w.heap.size + 1, 0, none⟩ = some (.string o.prj)
  o1 : wx.cell? ⟨w.heap.size + 1, 1, none⟩ = some (.string o.ref)
  o2 : wx.cell? ⟨w.heap.size + 1, 2, none⟩ = some (.bool o.fork)
  x : CellsE wx (w.heap.size + 2) 0 x
theorem RInv.at {w wx wy : World} {z : Int} {A : Option Addr} {n c : Nat} {o : Org} {x : Ent} (h : RInv w wx z A n c o x) (hb : Below wx.heap.size wx wy) : RInv w wy z A n c o x := by
  have hs := h.size
  have k : ∀ g j, g < w.heap.size + 3 → wy.cell? ⟨g, j, none⟩ = wx.cell? ⟨g, j, none⟩ := fun g j hg => hb.cell (p := ⟨g, j, none⟩) (by show g < _; omega)
  exact ⟨h.below.trans (hb.mono h.below.size), Nat.le_trans hs hb.size, (k _ _ (by omega)).trans h.c0, (k _ _ (by omega)).trans h.c1, (k _ _ (by omega)).trans h.o0, (k _ _ (by omega)).trans h.o1, (k _ _ (by omega)).trans h.o2, h.x.map (fun j => k _ _ (by omega))⟩
set_option maxRecDepth 100000 in
set_option maxHeartbeats 8000000 in
theorem reads_law (z : Int) (l : List Ent) (A : Option Addr) (n c : Nat) (o : Org) (x : Ent) (w : World) (hR : Ready w) (hn : n = l.length) (hs : Seq w w.heap.size 8 A n (entsC l)) (hl : n ≤ 9223372036854775807) (hx : ∀ x ∈ l, x.text) (hxn : ∀ x ∈ l, x.nums) (ht : x.text) (ho1 : o.prj.size ≤ 9223372036854775807) (ho2 : o.ref.size ≤ 9223372036854775807) :
    Calls Tryd.prog 8 #[cval z A n c, .agg (ocells o), .agg (ent8 x)] w (fun e w' => e = .returned (.bool true) ∧ Below w.heap.size w w') := by
  obtain ⟨w1, hw1⟩ : ∃ w1 : World, w1 = ((w.alloc (.cells #[.int .i64 z, .slice A n c] 24)).alloc (.cells (ocells o) 54)).alloc (.cells (ent8 x) 42) := ⟨_, rfl⟩
  have hb0 : Below w.heap.size w w1 := by rw [hw1]; exact (((Below.refl w.heap.size w).alloc (Nat.le_refl _) _).alloc (by simp) _).alloc (by simp; omega) _
  have hI : RInv w w1 z A n c o x := by
    refine ⟨hb0, by rw [hw1]; simp, ?_, ?_, ?_, ?_, ?_, ?_⟩
    · rw [hw1]; simp [go_sem]
    · rw [hw1]; simp [go_sem]
    · rw [hw1]; simp [go_sem]
    · rw [hw1]; simp [go_sem]
    · rw [hw1]; simp [go_sem]
    · rw [hw1]; exact ⟨by simp [go_sem], by simp [go_sem], by simp [go_sem], by simp [go_sem], by simp [go_sem], by simp [go_sem], by simp [go_sem], by simp [go_sem]⟩
  have hq := fun (w' : World) (h : RInv w w' z A n c o x) => (hs.below h.below).more h.below.size
  have C1 := few_any l A n c w1 hn (hq w1 hI) hl hx
  have CS := fun w' => short_any x.sc x.key w' ht.p ht.r ht.k
  have CA := fun w' (h : RInv w w' z A n c o x) => awake_any w' (hR.below h.below)
  have R1 := fun w' (h : RInv w w' z A n c o x) (hf : fewE l = true) => readable_any o x.sc.trust z l A n c w' hn (hq w' h) (by have := few_len hf; omega)
  have R2 := fun w' (h : RInv w w' z A n c o x) (hf : fewE l = true) => refReadable_any o x.sc.trust z l A n c w' hn (hq w' h) (by have := few_len hf; omega)
  have T1 := fun w' (h : RInv w w' z A n c o x) (hf : fewE l = true) => touch_any z l x.sc x.key x.used A n c w' (hR.below h.below) hn (hq w' h) (by have := few_len hf; omega) (fits_of hxn hf)
  have T2 := fun w' (h : RInv w w' z A n c o x) (hf : fewE l = true) => refTouch_any z l x.sc x.key x.used A n c w' hn (hq w' h) (by have := few_len hf; omega) (fits_of hxn hf)
  have hL1 := fun (hf : fewE l = true) => Nat.le_trans (readS_le o x.sc.trust l) (few_len hf)
  have hL2 := fun (hf : fewE l = true) => Nat.le_trans (Nat.le_of_eq (touchL_len z l x.sc x.key x.used)) (few_len hf)
  have CSL0 := fun w' (A1 A2 : Option Addr) (c1 c2 : Nat) (hf : fewE l = true) h1 h2 => sameList_any (readS o x.sc.trust l) (readS o x.sc.trust l) A1 A2 _ _ c1 c2 w' rfl h1 rfl h2 (by have := hL1 hf; omega) (by have := hL1 hf; omega)
  have CSM0 := fun w' (A1 A2 : Option Addr) (n1 n2 c1 c2 : Nat) (hf : fewE l = true) (e1 : n1 = (touchL z l x.sc x.key x.used).length) h1 (e2 : n2 = (touchL z l x.sc x.key x.used).length) h2 => same_any z z (touchL z l x.sc x.key x.used) (touchL z l x.sc x.key x.used) A1 A2 n1 n2 c1 c2 w' e1 h1 e2 h2 (by have := hL2 hf; omega) (by have := hL2 hf; omega)
  simp only [sameL_self, beq_self_eq_true, Bool.true_and] at CSL0 CSM0
  generalize fewE l = fw at *
  generalize shrtE x.sc x.key = sw at *
  generalize readS o x.sc.trust l = rl at *
  generalize touchL z l x.sc x.key x.used = tl at *
  clear hs hR hx hxn hn hq ht hL1 hL2 hl hb0
  replace C1 := Lib.hid C1
  replace CS := Lib.hid CS
  replace CA := Lib.hid CA
  replace R1 := Lib.hid R1
  replace R2 := Lib.hid R2
  replace T1 := Lib.hid T1
  replace T2 := Lib.hid T2
  replace CSL0 := Lib.hid CSL0
  replace CSM0 := Lib.hid CSM0
  replace hw1 := Lib.hid hw1
  have c0 := hI.c0
  have c1 := hI.c1
  have lz := hI.size
  have l0 : w.heap.size < w1.heap.size := by omega
  go_enter Tryd.func8, Tryd.ntmps8
  repeat' ((fail_if_success at_builtin); (first | go_skip | go_guarded | go_step))
  rw [← hw1.out]
  refine C1.out.mono ?_
  rintro e w2 ⟨rfl, hb2⟩
  dsimp only
  replace hI := hI.at hb2
  clear c0 c1 lz l0 C1
  have c0 := hI.c0
  have c1 := hI.c1
  have o0 := hI.o0
  have o1 := hI.o1
  have o2 := hI.o2
  obtain ⟨e0, e1, e2, e3, e4, e5, e6, e7⟩ := hI.x
  simp only [Nat.zero_add] at e1 e2 e3 e4 e5 e6 e7
  have lz := hI.size
  have l0 : w.heap.size < w2.heap.size := by omega
  have l1 : w.heap.size + 1 < w2.heap.size := by omega
  have l2 : w.heap.size + 2 < w2.heap.size := by omega
  cases fw with
  | false =>
    repeat' ((fail_if_success at_builtin); (first | go_skip | go_guarded | go_step))
    refine (CA.out _ hI).mono ?_
    rintro e wz ⟨rfl, hbz⟩
    dsimp only
    have hbw := hI.below
    repeat' ((fail_if_success at_builtin); (first | go_skip | go_guarded | go_step))
    go_ret
    exact ⟨rfl, hbw.trans (hbz.mono hbw.size)⟩
  | true =>
    repeat' ((fail_if_success at_builtin); (first | go_skip | go_guarded | go_step))
    refine (CS.out _).mono ?_
    rintro e w3 ⟨rfl, hb3⟩
    dsimp only
    replace hI := hI.at hb3
    clear c0 c1 o0 o1 o2 e0 e1 e2 e3 e4 e5 e6 e7 lz l0 l1 l2
    have c0 := hI.c0
    have c1 := hI.c1
    have o0 := hI.o0
    have o1 := hI.o1
    have o2 := hI.o2
    obtain ⟨e0, e1, e2, e3, e4, e5, e6, e7⟩ := hI.x
    simp only [Nat.zero_add] at e1 e2 e3 e4 e5 e6 e7
    have lz := hI.size
    have l0 : w.heap.size < w3.heap.size := by omega
    have l1 : w.heap.size + 1 < w3.heap.size := by omega
    have l2 : w.heap.size + 2 < w3.heap.size := by omega
    cases sw with
    | false =>
      repeat' ((fail_if_success at_builtin); (first | go_skip | go_guarded | go_step))
      refine (CA.out _ hI).mono ?_
      rintro e wz ⟨rfl, hbz⟩
      dsimp only
      have hbw := hI.below
      repeat' ((fail_if_success at_builtin); (first | go_skip | go_guarded | go_step))
      go_ret
      exact ⟨rfl, hbw.trans (hbz.mono hbw.size)⟩
    | true =>
      by_cases g1 : 600 < o.prj.size
      · have g1' : (600 : Int) < (o.prj.size : Int) := by omega
        repeat' ((fail_if_success at_builtin); (first | go_skip | go_guarded | go_step))
        refine (CA.out _ hI).mono ?_
        rintro e wz ⟨rfl, hbz⟩
        dsimp only
        have hbw := hI.below
        repeat' ((fail_if_success at_builtin); (first | go_skip | go_guarded | go_step))
        go_ret
        exact ⟨rfl, hbw.trans (hbz.mono hbw.size)⟩
      · have g1' : ¬ ((600 : Int) < (o.prj.size : Int)) := by omega
        by_cases g2 : 600 < o.ref.size
        · have g2' : (600 : Int) < (o.ref.size : Int) := by omega
          repeat' ((fail_if_success at_builtin); (first | go_skip | go_guarded | go_step))
          refine (CA.out _ hI).mono ?_
          rintro e wz ⟨rfl, hbz⟩
          dsimp only
          have hbw := hI.below
          repeat' ((fail_if_success at_builtin); (first | go_skip | go_guarded | go_step))
          go_ret
          exact ⟨rfl, hbw.trans (hbz.mono hbw.size)⟩
        · have g2' : ¬ ((600 : Int) < (o.ref.size : Int)) := by omega
          have CR1 := fun w' h => R1.out w' h rfl
          have CR2 := fun w' h => R2.out w' h rfl
          have CT1 := fun w' h => T1.out w' h rfl
          have CT2 := fun w' h => T2.out w' h rfl
          have CSL := fun w' A1 A2 c1 c2 h1 h2 => CSL0.out w' A1 A2 c1 c2 rfl h1 h2
          have CSM := fun w' A1 A2 n1 n2 c1 c2 e1 h1 e2 h2 => CSM0.out w' A1 A2 n1 n2 c1 c2 rfl e1 h1 e2 h2
          replace CR1 := Lib.hid CR1
          replace CR2 := Lib.hid CR2
          replace CT1 := Lib.hid CT1
          replace CT2 := Lib.hid CT2
          replace CSL := Lib.hid CSL
          replace CSM := Lib.hid CSM
          have hS : ∀ w', RInv w w' z A n c o x → (RInv w w' z A n c o x ∧ w'.cell? ⟨w.heap.size, 0, none⟩ = some (.int .i64 z) ∧ w'.cell? ⟨w.heap.size, 1, none⟩ = some (.slice A n c) ∧ w'.cell? ⟨w.heap.size + 1, 0, none⟩ = some (.string o.prj) ∧ w'.cell? ⟨w.heap.size + 1, 1, none⟩ = some (.string o.ref) ∧ w'.cell? ⟨w.heap.size + 1, 2, none⟩ = some (.bool o.fork) ∧ w'.cell? ⟨w.heap.size + 2, 0, none⟩ = some (.string x.sc.prj) ∧ w'.cell? ⟨w.heap.size + 2, 1, none⟩ = some (.int .i64 x.sc.trust) ∧ w'.cell? ⟨w.heap.size + 2, 2, none⟩ = some (.string x.sc.ref) ∧ w'.cell? ⟨w.heap.size + 2, 3, none⟩ = some (.string x.key) ∧ w'.cell? ⟨w.heap.size + 2, 7, none⟩ = some (.int .i64 x.used)) := fun w' h => ⟨h, h.c0, h.c1, h.o0, h.o1, h.o2, h.x.c0, h.x.c1, h.x.c2, h.x.c3, h.x.c7⟩
          have hS1 := hS w3.drew (hI.at (Below.refl _ _).drew)
          have keepS : ∀ w' w'', (RInv w w' z A n c o x ∧ w'.cell? ⟨w.heap.size, 0, none⟩ = some (.int .i64 z) ∧ w'.cell? ⟨w.heap.size, 1, none⟩ = some (.slice A n c) ∧ w'.cell? ⟨w.heap.size + 1, 0, none⟩ = some (.string o.prj) ∧ w'.cell? ⟨w.heap.size + 1, 1, none⟩ = some (.string o.ref) ∧ w'.cell? ⟨w.heap.size + 1, 2, none⟩ = some (.bool o.fork) ∧ w'.cell? ⟨w.heap.size + 2, 0, none⟩ = some (.string x.sc.prj) ∧ w'.cell? ⟨w.heap.size + 2, 1, none⟩ = some (.int .i64 x.sc.trust) ∧ w'.cell? ⟨w.heap.size + 2, 2, none⟩ = some (.string x.sc.ref) ∧ w'.cell? ⟨w.heap.size + 2, 3, none⟩ = some (.string x.key) ∧ w'.cell? ⟨w.heap.size + 2, 7, none⟩ = some (.int .i64 x.used)) → Below w'.heap.size w' w'' → (RInv w w'' z A n c o x ∧ w''.cell? ⟨w.heap.size, 0, none⟩ = some (.int .i64 z) ∧ w''.cell? ⟨w.heap.size, 1, none⟩ = some (.slice A n c) ∧ w''.cell? ⟨w.heap.size + 1, 0, none⟩ = some (.string o.prj) ∧ w''.cell? ⟨w.heap.size + 1, 1, none⟩ = some (.string o.ref) ∧ w''.cell? ⟨w.heap.size + 1, 2, none⟩ = some (.bool o.fork) ∧ w''.cell? ⟨w.heap.size + 2, 0, none⟩ = some (.string x.sc.prj) ∧ w''.cell? ⟨w.heap.size + 2, 1, none⟩ = some (.int .i64 x.sc.trust) ∧ w''.cell? ⟨w.heap.size + 2, 2, none⟩ = some (.string x.sc.ref) ∧ w''.cell? ⟨w.heap.size + 2, 3, none⟩ = some (.string x.key) ∧ w''.cell? ⟨w.heap.size + 2, 7, none⟩ = some (.int .i64 x.used)) := fun w' w'' h hbq => hS _ (h.1.at hbq)
          replace keepS := Lib.hid keepS
          clear hS R1 R2 T1 T2 CSL0 CSM0
          repeat' ((fail_if_success at_builtin); (first | go_skip | go_guarded | go_step))
          refine wp_region_held_drew (S := fun w' => RInv w w' z A n c o x ∧ w'.cell? ⟨w.heap.size, 0, none⟩ = some (.int .i64 z) ∧ w'.cell? ⟨w.heap.size, 1, none⟩ = some (.slice A n c) ∧ w'.cell? ⟨w.heap.size + 1, 0, none⟩ = some (.string o.prj) ∧ w'.cell? ⟨w.heap.size + 1, 1, none⟩ = some (.string o.ref) ∧ w'.cell? ⟨w.heap.size + 1, 2, none⟩ = some (.bool o.fork) ∧ w'.cell? ⟨w.heap.size + 2, 0, none⟩ = some (.string x.sc.prj) ∧ w'.cell? ⟨w.heap.size + 2, 1, none⟩ = some (.int .i64 x.sc.trust) ∧ w'.cell? ⟨w.heap.size + 2, 2, none⟩ = some (.string x.sc.ref) ∧ w'.cell? ⟨w.heap.size + 2, 3, none⟩ = some (.string x.key) ∧ w'.cell? ⟨w.heap.size + 2, 7, none⟩ = some (.int .i64 x.used)) (by kernel_rfl) ?_ (fun hHeld => ?_)
          · (try dsimp only)
            exact hS1
          refine tkY 0 (v := ?v545) rfl (.inl ⟨by rfl, ?hy545⟩) ?hr545
          case hy545 => (intro w hSw; (try dsimp only at hSw); go_simp; try with_reducible rfl)
          simp only [Act.put, List.getElem_toArray, List.getElem_cons_zero, List.setIfInBounds_toArray, List.set_cons_zero, List.set_cons_succ]
          refine tkY 1 (v := ?v546) rfl (.inl ⟨by rfl, ?hy546⟩) ?hr546
          case hy546 => (intro w hSw; (try dsimp only at hSw); go_simp; try with_reducible rfl)
          simp only [Act.put, List.getElem_toArray, List.getElem_cons_zero, List.getElem_cons_succ, List.setIfInBounds_toArray, List.set_cons_zero, List.set_cons_succ]
          refine tkY 2 (v := ?v547) rfl (.inl ⟨by rfl, ?hy547⟩) ?hr547
          case hy547 => (intro w hSw; (try dsimp only at hSw); go_simp; try with_reducible rfl)
          simp only [Act.put, List.getElem_toArray, List.getElem_cons_zero, List.getElem_cons_succ, List.setIfInBounds_toArray, List.set_cons_zero, List.set_cons_succ]
          refine tkY 3 (v := ?v548) rfl (.inl ⟨by rfl, ?hy548⟩) ?hr548
          case hy548 => (intro w hSw; (try dsimp only at hSw); go_simp; try with_reducible rfl)
          simp only [Act.put, List.getElem_toArray, List.getElem_cons_zero, List.getElem_cons_succ, List.setIfInBounds_toArray, List.set_cons_zero, List.set_cons_succ]
          refine tkY 4 (v := ?v549) rfl (.inl ⟨by rfl, ?hy549⟩) ?hr549
          case hy549 => (intro w hSw; (try dsimp only at hSw); go_simp; try with_reducible rfl)
          simp only [Act.put, List.getElem_toArray, List.getElem_cons_zero, List.getElem_cons_succ, List.setIfInBounds_toArray, List.set_cons_zero, List.set_cons_succ]
          refine tkY 6 (v := ?v550) rfl (.inl ⟨by rfl, ?hy550⟩) ?hr550
          case hy550 => (intro w hSw; (try dsimp only at hSw); go_simp; try with_reducible rfl)
          simp only [Act.put, List.getElem_toArray, List.getElem_cons_zero, List.getElem_cons_succ, List.setIfInBounds_toArray, List.set_cons_zero, List.set_cons_succ]
          refine tkY 7 (v := ?v551) rfl (.inl ⟨by rfl, ?hy551⟩) ?hr551
          case hy551 => (intro w hSw; (try dsimp only at hSw); go_simp; try with_reducible rfl)
          simp only [Act.put, List.getElem_toArray, List.getElem_cons_zero, List.getElem_cons_succ, List.setIfInBounds_toArray, List.set_cons_zero, List.set_cons_succ]
          refine tkY 8 (v := ?v552) rfl (.inl ⟨by rfl, ?hy552⟩) ?hr552
          case hy552 => (intro w hSw; (try dsimp only at hSw); go_simp; try with_reducible rfl)
          simp only [Act.put, List.getElem_toArray, List.getElem_cons_zero, List.getElem_cons_succ, List.setIfInBounds_toArray, List.set_cons_zero, List.set_cons_succ]
          refine tkY 9 (v := ?v553) rfl (.inl ⟨by rfl, ?hy553⟩) ?hr553
          case hy553 => (intro w hSw; (try dsimp only at hSw); go_simp; try with_reducible rfl)
          simp only [Act.put, List.getElem_toArray, List.getElem_cons_zero, List.getElem_cons_succ, List.setIfInBounds_toArray, List.set_cons_zero, List.set_cons_succ]
          refine tkY 10 (v := ?v554) rfl (.inl ⟨by rfl, ?hy554⟩) ?hr554
          case hy554 => (intro w hSw; (try dsimp only at hSw); go_simp; try with_reducible rfl)
          simp only [Act.put, List.getElem_toArray, List.getElem_cons_zero, List.getElem_cons_succ, List.setIfInBounds_toArray, List.set_cons_zero, List.set_cons_succ]
          refine wpAnyH_ready (rs := [5]) (by kernel_rfl) (by simp) ?_
          refine AllReadyH.cons rfl (fun K hK => ?_) AllReadyH.nil
          go_simp
          go_at_call 26
          refine (CR1.out _ hHeld.1).mono ?_
          rintro e w7 ⟨A1, k1, rfl, hc1, hs1, hbq⟩
          dsimp only
          refine hK.out _ _ ?_ (fun hHeld => ?_)
          · (try dsimp only)
            exact keepS.out _ _ hHeld hbq
          clear hK K
          try simp only [Act.put, List.getElem_toArray, List.getElem_cons_zero, List.getElem_cons_succ, List.setIfInBounds_toArray, List.set_cons_zero, List.set_cons_succ]
          refine wpAnyH_ready (rs := [11]) (by kernel_rfl) (by simp) ?_
          refine AllReadyH.cons rfl (fun K hK => ?_) AllReadyH.nil
          go_simp
          go_at_call 27
          refine (CR2.out _ hHeld.1).mono ?_
          rintro e w8 ⟨A2, k2, rfl, hc2, hs2, hbq⟩
          replace hs1 := (hs1.below hbq).more hbq.size
          dsimp only
          refine hK.out _ _ ?_ (fun hHeld => ?_)
          · (try dsimp only)
            exact keepS.out _ _ hHeld hbq
          clear hK K
          try simp only [Act.put, List.getElem_toArray, List.getElem_cons_zero, List.getElem_cons_succ, List.setIfInBounds_toArray, List.set_cons_zero, List.set_cons_succ]
          refine wpAnyH_ready (rs := [12]) (by kernel_rfl) (by simp) ?_
          refine AllReadyH.cons rfl (fun K hK => ?_) AllReadyH.nil
          go_simp
          go_at_call 25
          refine (CSL.out _ A1 A2 k1 k2 hs1 hs2).mono ?_
          rintro e w9 ⟨rfl, hbq⟩
          clear hs1 hs2
          dsimp only
          refine hK.out _ _ ?_ (fun hHeld => ?_)
          · (try dsimp only)
            exact keepS.out _ _ hHeld hbq
          clear hK K
          try simp only [Act.put, List.getElem_toArray, List.getElem_cons_zero, List.getElem_cons_succ, List.setIfInBounds_toArray, List.set_cons_zero, List.set_cons_succ]
          refine tkY 13 (v := ?v555) rfl (.inl ⟨by rfl, ?hy555⟩) ?hr555
          case hy555 => (intro w hSw; (try dsimp only at hSw); go_simp; try with_reducible rfl)
          simp only [Act.put, List.getElem_toArray, List.getElem_cons_zero, List.getElem_cons_succ, List.setIfInBounds_toArray, List.set_cons_zero, List.set_cons_succ]
          refine tkY 14 (v := ?v556) rfl (.inl ⟨by rfl, ?hy556⟩) ?hr556
          case hy556 => (intro w hSw; (try dsimp only at hSw); go_simp; try with_reducible rfl)
          simp only [Act.put, List.getElem_toArray, List.getElem_cons_zero, List.getElem_cons_succ, List.setIfInBounds_toArray, List.set_cons_zero, List.set_cons_succ]
          refine tkY 15 (v := ?v557) rfl (.inl ⟨by rfl, ?hy557⟩) ?hr557
          case hy557 => (intro w hSw; (try dsimp only at hSw); go_simp; try with_reducible rfl)
          simp only [Act.put, List.getElem_toArray, List.getElem_cons_zero, List.getElem_cons_succ, List.setIfInBounds_toArray, List.set_cons_zero, List.set_cons_succ]
          refine tkY 16 (v := ?v558) rfl (.inl ⟨by rfl, ?hy558⟩) ?hr558
          case hy558 => (intro w hSw; (try dsimp only at hSw); go_simp; try with_reducible rfl)
          simp only [Act.put, List.getElem_toArray, List.getElem_cons_zero, List.getElem_cons_succ, List.setIfInBounds_toArray, List.set_cons_zero, List.set_cons_succ]
          refine tkY 17 (v := ?v559) rfl (.inl ⟨by rfl, ?hy559⟩) ?hr559
          case hy559 => (intro w hSw; (try dsimp only at hSw); go_simp; try with_reducible rfl)
          simp only [Act.put, List.getElem_toArray, List.getElem_cons_zero, List.getElem_cons_succ, List.setIfInBounds_toArray, List.set_cons_zero, List.set_cons_succ]
          refine tkY 18 (v := ?v560) rfl (.inl ⟨by rfl, ?hy560⟩) ?hr560
          case hy560 => (intro w hSw; (try dsimp only at hSw); go_simp; try with_reducible rfl)
          simp only [Act.put, List.getElem_toArray, List.getElem_cons_zero, List.getElem_cons_succ, List.setIfInBounds_toArray, List.set_cons_zero, List.set_cons_succ]
          refine tkY 19 (v := ?v561) rfl (.inl ⟨by rfl, ?hy561⟩) ?hr561
          case hy561 => (intro w hSw; (try dsimp only at hSw); go_simp; try with_reducible rfl)
          simp only [Act.put, List.getElem_toArray, List.getElem_cons_zero, List.getElem_cons_succ, List.setIfInBounds_toArray, List.set_cons_zero, List.set_cons_succ]
          refine tkY 20 (v := ?v562) rfl (.inl ⟨by rfl, ?hy562⟩) ?hr562
          case hy562 => (intro w hSw; (try dsimp only at hSw); go_simp; try with_reducible rfl)
          simp only [Act.put, List.getElem_toArray, List.getElem_cons_zero, List.getElem_cons_succ, List.setIfInBounds_toArray, List.set_cons_zero, List.set_cons_succ]
          refine tkY 22 (v := ?v563) rfl (.inl ⟨by rfl, ?hy563⟩) ?hr563
          case hy563 => (intro w hSw; (try dsimp only at hSw); go_simp; try with_reducible rfl)
          simp only [Act.put, List.getElem_toArray, List.getElem_cons_zero, List.getElem_cons_succ, List.setIfInBounds_toArray, List.set_cons_zero, List.set_cons_succ]
          refine tkY 23 (v := ?v564) rfl (.inl ⟨by rfl, ?hy564⟩) ?hr564
          case hy564 => (intro w hSw; (try dsimp only at hSw); go_simp; try with_reducible rfl)
          simp only [Act.put, List.getElem_toArray, List.getElem_cons_zero, List.getElem_cons_succ, List.setIfInBounds_toArray, List.set_cons_zero, List.set_cons_succ]
          refine tkY 24 (v := ?v565) rfl (.inl ⟨by rfl, ?hy565⟩) ?hr565
          case hy565 => (intro w hSw; (try dsimp only at hSw); go_simp; try with_reducible rfl)
          simp only [Act.put, List.getElem_toArray, List.getElem_cons_zero, List.getElem_cons_succ, List.setIfInBounds_toArray, List.set_cons_zero, List.set_cons_succ]
          refine tkY 25 (v := ?v566) rfl (.inl ⟨by rfl, ?hy566⟩) ?hr566
          case hy566 => (intro w hSw; (try dsimp only at hSw); go_simp; try with_reducible rfl)
          simp only [Act.put, List.getElem_toArray, List.getElem_cons_zero, List.getElem_cons_succ, List.setIfInBounds_toArray, List.set_cons_zero, List.set_cons_succ]
          refine tkY 26 (v := ?v567) rfl (.inl ⟨by rfl, ?hy567⟩) ?hr567
          case hy567 => (intro w hSw; (try dsimp only at hSw); go_simp; try with_reducible rfl)
          simp only [Act.put, List.getElem_toArray, List.getElem_cons_zero, List.getElem_cons_succ, List.setIfInBounds_toArray, List.set_cons_zero, List.set_cons_succ]
          refine tkY 27 (v := ?v568) rfl (.inl ⟨by rfl, ?hy568⟩) ?hr568
          case hy568 => (intro w hSw; (try dsimp only at hSw); go_simp; try with_reducible rfl)
          simp only [Act.put, List.getElem_toArray, List.getElem_cons_zero, List.getElem_cons_succ, List.setIfInBounds_toArray, List.set_cons_zero, List.set_cons_succ]
          refine tkY 28 (v := ?v569) rfl (.inl ⟨by rfl, ?hy569⟩) ?hr569
          case hy569 => (intro w hSw; (try dsimp only at hSw); go_simp; try with_reducible rfl)
          simp only [Act.put, List.getElem_toArray, List.getElem_cons_zero, List.getElem_cons_succ, List.setIfInBounds_toArray, List.set_cons_zero, List.set_cons_succ]
          refine wpAnyH_ready (rs := [21]) (by kernel_rfl) (by simp) ?_
          refine AllReadyH.cons rfl (fun K hK => ?_) AllReadyH.nil
          go_simp
          go_at_call 28
          refine (CT1.out _ hHeld.1).mono ?_
          rintro e w10 ⟨A3, n3, c3, rfl, rfl, hs3, hbq⟩
          dsimp only
          refine hK.out _ _ ?_ (fun hHeld => ?_)
          · (try dsimp only)
            exact keepS.out _ _ hHeld hbq
          clear hK K
          try simp only [Act.put, List.getElem_toArray, List.getElem_cons_zero, List.getElem_cons_succ, List.setIfInBounds_toArray, List.set_cons_zero, List.set_cons_succ]
          refine wpAnyH_ready (rs := [29]) (by kernel_rfl) (by simp) ?_
          refine AllReadyH.cons rfl (fun K hK => ?_) AllReadyH.nil
          go_simp
          go_at_call 29
          refine (CT2.out _ hHeld.1).mono ?_
          rintro e w11 ⟨A4, n4, c4, rfl, rfl, hs4, hbq⟩
          replace hs3 := (hs3.below hbq).more hbq.size
          dsimp only
          refine hK.out _ _ ?_ (fun hHeld => ?_)
          · (try dsimp only)
            exact keepS.out _ _ hHeld hbq
          clear hK K
          try simp only [Act.put, List.getElem_toArray, List.getElem_cons_zero, List.getElem_cons_succ, List.setIfInBounds_toArray, List.set_cons_zero, List.set_cons_succ]
          refine wpAnyH_ready (rs := [30]) (by kernel_rfl) (by simp) ?_
          refine AllReadyH.cons rfl (fun K hK => ?_) AllReadyH.nil
          go_simp
          go_at_call 18
          refine (CSM.out _ A3 A4 _ _ c3 c4 rfl hs3 rfl hs4).mono ?_
          rintro e w12 ⟨rfl, hbq⟩
          clear hs3 hs4
          dsimp only
          refine hK.out _ _ ?_ (fun hHeld => ?_)
          · (try dsimp only)
            exact keepS.out _ _ hHeld hbq
          clear hK K
          try simp only [Act.put, List.getElem_toArray, List.getElem_cons_zero, List.getElem_cons_succ, List.setIfInBounds_toArray, List.set_cons_zero, List.set_cons_succ]
          refine tkY 31 (v := ?v570) rfl (.inl ⟨by rfl, ?hy570⟩) ?hr570
          case hy570 => (intro w hSw; (try dsimp only at hSw); go_simp; try with_reducible rfl)
          simp only [Act.put, List.getElem_toArray, List.getElem_cons_zero, List.getElem_cons_succ, List.setIfInBounds_toArray, List.set_cons_zero, List.set_cons_succ]
          refine tkY 32 (v := ?v571) rfl (.inl ⟨by rfl, ?hy571⟩) ?hr571
          case hy571 => (intro w hSw; (try dsimp only at hSw); go_simp; try with_reducible rfl)
          simp only [Act.put, List.getElem_toArray, List.getElem_cons_zero, List.getElem_cons_succ, List.setIfInBounds_toArray, List.set_cons_zero, List.set_cons_succ]
          refine wpAnyH_ready (rs := [33]) (by kernel_rfl) (by simp) ?_
          refine AllReadyH.cons rfl (fun K hK => ?_) AllReadyH.nil
          go_simp
          go_at_call 15
          refine (CA.out _ hHeld.1).mono ?_
          rintro e w13 ⟨rfl, hbq⟩
          dsimp only
          refine hK.out _ _ ?_ (fun hHeld => ?_)
          · (try dsimp only)
            exact keepS.out _ _ hHeld hbq
          clear hK K
          try simp only [Act.put, List.getElem_toArray, List.getElem_cons_zero, List.getElem_cons_succ, List.setIfInBounds_toArray, List.set_cons_zero, List.set_cons_succ]
          refine tkY 34 (v := ?v572) rfl (.inl ⟨by rfl, ?hy572⟩) ?hr572
          case hy572 => (intro w hSw; (try dsimp only at hSw); go_simp; try with_reducible rfl)
          simp only [Act.put, List.getElem_toArray, List.getElem_cons_zero, List.getElem_cons_succ, List.setIfInBounds_toArray, List.set_cons_zero, List.set_cons_succ]
          refine tkY 35 (v := ?v573) rfl (.inl ⟨by rfl, ?hy573⟩) ?hr573
          case hy573 => (intro w hSw; (try dsimp only at hSw); go_simp; try with_reducible rfl)
          simp only [Act.put, List.getElem_toArray, List.getElem_cons_zero, List.getElem_cons_succ, List.setIfInBounds_toArray, List.set_cons_zero, List.set_cons_succ]
          refine wpAnyH_done (by kernel_rfl) ?_ _
          have hbw := hHeld.1.below
          clear c0 c1 o0 o1 o2 e0 e1 e2 e3 e4 e5 e6 e7 lz l0 l1 l2 hS1 hHeld
          repeat' ((fail_if_success at_builtin); (first | go_skip | go_guarded | go_step))
          go_ret
          exact ⟨rfl, hbw⟩
end Go.Proofs.YtpdlapdnjmoaoaaDoor
