/- Cache: entry, awake. -/
import Derived.Test.YtpdlapdnjmoaoaaDoorCaP
import Derived.Test.YtpdlapdnjmoaoaaDoorCaBR
import Derived.Deep.DeepCutAuto
namespace Go.Proofs.YtpdlapdnjmoaoaaDoor
open Go.RowKit
/-- a box of two cells that holds a cache -/
structure CAx (w wx : World) (b : Nat) (z : Int) (A : Option Addr) (n c : Nat) (l : List Ent) : Prop where
  below : Below w.heap.size w wx
  so : w.heap.size ≤ b
  lo : b < wx.heap.size
  c0 : wx.cell? ⟨b, 0, none⟩ = some (.int .i64 z)
  c1 : wx.cell? ⟨b, 1, none⟩ = some (.slice A n c)
  no : ∀ j, 2 ≤ j → wx.cell? ⟨b, j, none⟩ = none
  fr : ∀ j, wx.frozen? ⟨b, j, none⟩ = false
  len : n = l.length
  seq : Seq wx wx.heap.size 8 A n (entsC l)
theorem CAx.at {w wx wy : World} {b : Nat} {z : Int} {A : Option Addr} {n c : Nat} {l : List Ent} (h : CAx w wx b z A n c l) (hb : Below wx.heap.size wx wy) : CAx w wy b z A n c l := by
  obtain ⟨h1, h2, h3, h4, h7, h5, h6, h8, h9⟩ := h
  exact ⟨h1.trans (hb.mono h1.size), h2, Nat.lt_of_lt_of_le h3 hb.size, (hb.cell (p := ⟨b, 0, none⟩) h3).trans h4, (hb.cell (p := ⟨b, 1, none⟩) h3).trans h7, fun j hj => (hb.cell (p := ⟨b, j, none⟩) h3).trans (h5 j hj), fun j => (hb.frozen (p := ⟨b, j, none⟩) h3).trans (h6 j), h8, (h9.below hb).more hb.size⟩
/-- entries lie in no box of two cells -/
theorem ents_far {wx : World} {b n : Nat} {A : Option Addr} {l : List Ent} {u v : Value} (no : ∀ j, 2 ≤ j → wx.cell? ⟨b, j, none⟩ = none) (hn : n = l.length) (hs : Seq wx wx.heap.size 8 A n (entsC l)) : Seq ((wx.setCell ⟨b, 0, none⟩ u).setCell ⟨b, 1, none⟩ v) wx.heap.size 8 A n (entsC l) := by
  refine ⟨hs.1, fun hp => ?_⟩
  obtain ⟨b2, o, rfl, hb2, hc⟩ := hs.2 hp
  have hne : b2 ≠ b := by
    intro e
    subst e
    cases l with
    | nil => simp at hn; omega
    | cons x l2 =>
      have := hc 7 (.int .i64 x.used) rfl
      rw [no _ (by omega)] at this
      cases this
  refine ⟨b2, o, rfl, hb2, fun j u' hu => ?_⟩
  rw [World.cell?_setCell_far _ _ _ _ (fun e => hne e.symm), World.cell?_setCell_far _ _ _ _ (fun e => hne e.symm)]
  exact hc j u' hu
theorem CAx.put {w wx : World} {b : Nat} {z : Int} {l l' : List Ent} {A A' : Option Addr} {n c n' c' : Nat} (h : CAx w wx b z A' n' c' l') (z' : Int) (hn : n = l.length) (hs : Seq wx wx.heap.size 8 A n (entsC l)) : CAx w ((wx.setCell ⟨b, 0, none⟩ (.int .i64 z')).setCell ⟨b, 1, none⟩ (.slice A n c)) b z' A n c l := by
  obtain ⟨h1, h2, h3, h4, h7, h5, h6, h8, h9⟩ := h
  have hz : ((wx.setCell ⟨b, 0, none⟩ (.int .i64 z')).setCell ⟨b, 1, none⟩ (.slice A n c)).heap.size = wx.heap.size := by simp [World.setCell]
  have hd := cells2 (u := .int .i64 z') (v := .slice A n c) h4 h7
  refine ⟨(h1.setCell (p := ⟨b, 0, none⟩) h2 _).setCell (p := ⟨b, 1, none⟩) h2 _, h2, by rw [hz]; exact h3, hd.1, hd.2, fun j hj => ?_, fun j => ?_, hn, ?_⟩
  · rw [World.cell?_setCell_other _ _ _ _ (by intro e; injection e with _ e2; omega), World.cell?_setCell_other _ _ _ _ (by intro e; injection e with _ e2; omega)]
    exact h5 j hj
  · rw [World.frozen?_setCell, World.frozen?_setCell]; exact h6 j
  · rw [hz]
    exact ents_far h5 hn hs
theorem CAx.far {w wx : World} {b d : Nat} {z z2 : Int} {l l2 : List Ent} {A A2 : Option Addr} {n c n2 c2 : Nat} (h : CAx w wx b z A n c l) (h2 : CAx w wx d z2 A2 n2 c2 l2) (hne : b < d) (u v : Value) : CAx w ((wx.setCell ⟨d, 0, none⟩ u).setCell ⟨d, 1, none⟩ v) b z A n c l := by
  have hz : ((wx.setCell ⟨d, 0, none⟩ u).setCell ⟨d, 1, none⟩ v).heap.size = wx.heap.size := by simp [World.setCell]
  have far : ∀ j, ((wx.setCell ⟨d, 0, none⟩ u).setCell ⟨d, 1, none⟩ v).cell? ⟨b, j, none⟩ = wx.cell? ⟨b, j, none⟩ := fun j => by
    rw [World.cell?_setCell_far _ _ _ _ (by show d ≠ b; omega), World.cell?_setCell_far _ _ _ _ (by show d ≠ b; omega)]
  refine ⟨(h.below.setCell (p := ⟨d, 0, none⟩) h2.so _).setCell (p := ⟨d, 1, none⟩) h2.so _, h.so, by rw [hz]; exact h.lo, (far 0).trans h.c0, (far 1).trans h.c1, fun j hj => (far j).trans (h.no j hj), fun j => ?_, h.len, ?_⟩
  · rw [World.frozen?_setCell, World.frozen?_setCell]; exact h.fr j
  · rw [hz]
    exact ents_far h2.no h.len h.seq
/-- a fresh box -/
theorem CAx.fresh {w wx : World} (hb : Below w.heap.size w wx) (z : Int) {l : List Ent} {A : Option Addr} {n c : Nat} (hn : n = l.length) (hs : Seq wx wx.heap.size 8 A n (entsC l)) : CAx w (wx.alloc (.cells #[.int .i64 z, .slice A n c] 24)) wx.heap.size z A n c l :=
  ⟨hb.alloc hb.size _, hb.size, by simp, by simp [go_sem], by simp [go_sem], fun j hj => by
    rcases j with _ | _ | j
    · omega
    · omega
    · simp [go_sem], fun j => by simp [go_sem], hn, (hs.below ((Below.refl _ _).alloc (Nat.le_refl _) _)).more (by simp)⟩
theorem drew_hs (w : World) : w.drew.heap.size = w.heap.size := rfl
theorem seqE_nil (w : World) (B : Nat) (A : Option Addr) : Seq w B 8 A 0 (entsC []) := ⟨rfl, fun h => absurd h (Nat.lt_irrefl 0)⟩
def entS (k : ByteArray) (z : Int) : Ent := ⟨⟨⟨#[112]⟩, 2, ⟨#[109, 97, 105, 110]⟩⟩, k, 1, z, 0, 0⟩
def E1 : Ent := entS ⟨#[103, 111, 45, 49]⟩ 6
def E2 : Ent := entS ⟨#[103, 111, 45, 50]⟩ 4
def E3 : Ent := entS ⟨#[120]⟩ 3
def X1 : Ent := stamp E1 1
def X2 : Ent := stamp E2 2
def X3 : Ent := stamp E3 3
set_option maxRecDepth 100000 in
theorem aw_e1 : saveE 10 [] E1 1 = 0 := by kernel_rfl
set_option maxRecDepth 100000 in
theorem aw_l1 : saveL 10 [] E1 1 = [X1] := by kernel_rfl
set_option maxRecDepth 100000 in
theorem aw_e2 : saveE 10 [X1] E2 2 = 0 := by kernel_rfl
set_option maxRecDepth 100000 in
theorem aw_l2 : saveL 10 [X1] E2 2 = [X1, X2] := by kernel_rfl
set_option maxRecDepth 100000 in
theorem aw_e3 : saveE 10 [X1, X2] E3 3 = 0 := by kernel_rfl
set_option maxRecDepth 100000 in
theorem aw_l3 : saveL 10 [X1, X2] E3 3 = [X2, X3] := by kernel_rfl
set_option maxRecDepth 100000 in
theorem aw_r : restoreS [X1, X2] ⟨#[103, 111, 45, 51]⟩ [⟨#[103, 111, 45]⟩] = some X2 := by kernel_rfl
set_option maxRecDepth 100000 in
theorem aw_u : usedS [X1, X2] = 10 := by kernel_rfl
set_option maxRecDepth 100000 in
set_option maxHeartbeats 1000000 in
theorem entry_any (k : ByteArray) (z : Int) (w : World) : Calls Tryd.prog 22 #[.string k, .int .i64 z] w fun e w' => e = .returned (.agg (ent8 (entS k z))) ∧ Below w.heap.size w w' := by
  go_enter Tryd.func22, Tryd.ntmps22
  repeat' ((fail_if_success at_builtin); (first | go_skip | go_guarded | go_step))
  generalize hwf : World.alloc w _ = wf
  have hb : Below w.heap.size w wf := by rw [← hwf]; exact (Below.refl _ _).alloc (Nat.le_refl _) _
  have q0 : wf.cell? ⟨w.heap.size, 0, none⟩ = some (.string ⟨#[112]⟩) := by rw [← hwf]; simp [go_sem]
  have q1 : wf.cell? ⟨w.heap.size, 1, none⟩ = some (.int .i64 2) := by rw [← hwf]; simp [go_sem]
  have q2 : wf.cell? ⟨w.heap.size, 2, none⟩ = some (.string ⟨#[109, 97, 105, 110]⟩) := by rw [← hwf]; simp [go_sem]
  have q3 : wf.cell? ⟨w.heap.size, 3, none⟩ = some (.string k) := by rw [← hwf]; simp [go_sem]
  have q4 : wf.cell? ⟨w.heap.size, 4, none⟩ = some (.int .u64 1) := by rw [← hwf]; simp [go_sem]
  have q5 : wf.cell? ⟨w.heap.size, 5, none⟩ = some (.int .i64 z) := by rw [← hwf]; simp [go_sem]
  have q6 : wf.cell? ⟨w.heap.size, 6, none⟩ = some (.int .i64 0) := by rw [← hwf]; simp [go_sem]
  have q7 : wf.cell? ⟨w.heap.size, 7, none⟩ = some (.int .i64 0) := by rw [← hwf]; simp [go_sem]
  clear hwf
  refine bodyPost_ret (v := .agg (ent8 (entS k z))) (by simp only [results, Tryd.results22]; go_simp; first | done | exact ⟨rfl, rfl, rfl, rfl, rfl, rfl, rfl, rfl⟩ | rfl) rfl ?_
  exact ⟨rfl, hb⟩
theorem fit_2 : ∀ y ∈ ([] : List Ent), y.fit := fun _ h => by simp at h
theorem fit_E1 : E1.fit := by constructor <;> first | decide | exact ⟨by decide, by decide⟩
theorem fit_X1 : X1.fit := by constructor <;> first | decide | exact ⟨by decide, by decide⟩
theorem fit_E2 : E2.fit := by constructor <;> first | decide | exact ⟨by decide, by decide⟩
theorem fit_X2 : X2.fit := by constructor <;> first | decide | exact ⟨by decide, by decide⟩
theorem fit_E3 : E3.fit := by constructor <;> first | decide | exact ⟨by decide, by decide⟩
theorem fit_3 : ∀ y ∈ [X1], y.fit := fun y h => by rw [List.mem_singleton.1 h]; exact fit_X1
theorem fit_4 : ∀ y ∈ [X1, X2], y.fit := fun y h => by
  rcases List.mem_cons.1 h with rfl | h
  · exact fit_X1
  · rw [List.mem_singleton.1 h]; exact fit_X2
set_option maxRecDepth 100000 in
set_option maxHeartbeats 8000000 in
theorem awake_any (w : World) (hR : Ready w) : Calls Tryd.prog 15 #[] w fun e w' => e = .returned (.bool true) ∧ Below w.heap.size w w' := by
  go_enter Tryd.func15, Tryd.ntmps15
  repeat' ((fail_if_success at_builtin); (first | go_skip | go_guarded | go_step))
  refine (new_any 10 w).mono ?_
  rintro e w1 ⟨rfl, hb1⟩
  dsimp only
  rw [show (if inR 10 0 1099511627776 = true then (10 : Int) else 0) = 10 from rfl, show (if inR 10 0 1099511627776 = true then (0 : Int) else 2) = 0 from rfl]
  have hC := CAx.fresh (w := w) (c := 0) hb1 10 (l := []) rfl (seqE_nil _ _ none)
  repeat' ((fail_if_success at_builtin); (first | go_skip | go_guarded | go_step))
  generalize World.alloc w1 _ = w2 at *
  generalize w1.heap.size = b at *
  obtain ⟨n, c, A, hA⟩ : ∃ (n c : Nat) (A : Option Addr), n = 0 ∧ c = 0 ∧ A = none := ⟨0, 0, none, rfl, rfl, rfl⟩
  replace hC : CAx w w2 b 10 A n c [] := by obtain ⟨rfl, rfl, rfl⟩ := hA; exact hC
  clear hA hb1
  go_cut [3] (fun u3 wx => u3 = .int .i64 0 ∧ ∃ A n c, CAx w wx b 10 A n c [X1])
  case first =>
    have k0 := hC.c0
    have k1 := hC.c1
    have kl := hC.lo
    replace hC := hC.at (Below.refl _ _).drew
    refine wp_region_held_drew (S := fun _ => True) (by kernel_rfl) trivial (fun hHeld => ?_)
    refine wpAnyH_ready (rs := [0, 1]) (by kernel_rfl) (by simp) ?_
    refine AllReadyH.cons rfl (fun K hK => ?_) ?_
    · go_simp
      refine hK.out _ _ trivial (fun hHeld => ?_)
      clear hK K
      try simp only [Act.put, List.getElem_toArray, List.getElem_cons_zero, List.getElem_cons_succ, List.setIfInBounds_toArray, List.set_cons_zero, List.set_cons_succ]
      refine wpAnyH_ready (rs := [1]) (by kernel_rfl) (by simp) ?_
      refine AllReadyH.cons rfl (fun K hK => ?_) ?_
      · go_simp
        go_at_call 22
        refine (entry_any _ _ _).mono ?_
        rintro e we ⟨rfl, hbe⟩
        dsimp only
        replace hC := hC.at hbe
        have k0 := hC.c0
        have k1 := hC.c1
        refine hK.out _ _ trivial (fun hHeld => ?_)
        clear hK K
        try simp only [Act.put, List.getElem_toArray, List.getElem_cons_zero, List.getElem_cons_succ, List.setIfInBounds_toArray, List.set_cons_zero, List.set_cons_succ]
        refine wpAnyH_ready (rs := [2]) (by kernel_rfl) (by simp) ?_
        refine AllReadyH.cons rfl (fun K hK => ?_) ?_
        · go_simp
          go_at_call 20
          refine (save_any 10 [] E1 1 A n c _ (hR.below hC.below) hC.len hC.seq (by rw [hC.len]; decide) fit_2 fit_E1).mono ?_
          rintro e ws ⟨A', n', c', rfl, hn', hs', hbs⟩
          dsimp only
          replace hC := hC.at hbs
          have hCs := hC
          rw [aw_e1]
          rw [aw_l1] at hn' hs'
          replace hn' := Lib.hid hn'
          have k0 := hC.c0
          have k1 := hC.c1
          have kf := hC.fr
          have kl := hC.lo
          refine hK.out _ _ trivial (fun hHeld => ?_)
          clear hK K
          try simp only [Act.put, List.getElem_toArray, List.getElem_cons_zero, List.getElem_cons_succ, List.setIfInBounds_toArray, List.set_cons_zero, List.set_cons_succ]
          refine wpAnyH_take (i := 3) (v := ?v425) rfl (by kernel_rfl) (by kernel_rfl) (by kernel_rfl) (fun _ _ _ h => h) (Or.inl ⟨by rfl, ?hy425⟩) (by assumption) ?rest425
          case hy425 => (intro w hSw; (try dsimp only at hSw); go_simp; try with_reducible rfl)
          simp only [Act.put, List.getElem_toArray, List.getElem_cons_zero, List.getElem_cons_succ, List.setIfInBounds_toArray, List.set_cons_zero, List.set_cons_succ]
          refine wpAnyH_take (i := 4) (v := ?v426) rfl (by kernel_rfl) (by kernel_rfl) (by kernel_rfl) (fun _ _ _ h => h) (Or.inl ⟨by rfl, ?hy426⟩) (by assumption) ?rest426
          case hy426 => (intro w hSw; (try dsimp only at hSw); go_simp; try with_reducible rfl)
          simp only [Act.put, List.getElem_toArray, List.getElem_cons_zero, List.getElem_cons_succ, List.setIfInBounds_toArray, List.set_cons_zero, List.set_cons_succ]
          refine wpAnyH_take (i := 5) (v := ?v427) rfl (by kernel_rfl) (by kernel_rfl) (by kernel_rfl) (fun _ _ _ h => h) (Or.inl ⟨by rfl, ?hy427⟩) (by assumption) ?rest427
          case hy427 => (intro w hSw; (try dsimp only at hSw); go_simp; try with_reducible rfl)
          simp only [Act.put, List.getElem_toArray, List.getElem_cons_zero, List.getElem_cons_succ, List.setIfInBounds_toArray, List.set_cons_zero, List.set_cons_succ]
          refine wpAnyH_ready (rs := [6]) (by kernel_rfl) (by simp) ?_
          refine AllReadyH.cons rfl (fun K hK => ?_) ?_
          · go_simp
            refine hK.out _ _ trivial (fun hHeld => ?_)
            clear hK K
            try simp only [Act.put, List.getElem_toArray, List.getElem_cons_zero, List.getElem_cons_succ, List.setIfInBounds_toArray, List.set_cons_zero, List.set_cons_succ]
            refine wpAnyH_take (i := 7) (v := ?v428) rfl (by kernel_rfl) (by kernel_rfl) (by kernel_rfl) (fun _ _ _ h => h) (Or.inl ⟨by rfl, ?hy428⟩) (by assumption) ?rest428
            case hy428 => (intro w hSw; (try dsimp only at hSw); go_simp; try with_reducible rfl)
            simp only [Act.put, List.getElem_toArray, List.getElem_cons_zero, List.getElem_cons_succ, List.setIfInBounds_toArray, List.set_cons_zero, List.set_cons_succ]
            refine wpAnyH_done (by kernel_rfl) ?_ _
            repeat' ((fail_if_success at_builtin); (first | go_skip | go_guarded | go_step))
            go_meet
            case rel => exact ⟨rfl, A', n', c', hC.put 10 hn'.out hs'⟩
          exact AllReadyH.nil
        exact AllReadyH.nil
      exact AllReadyH.nil
    refine AllReadyH.cons rfl (fun K hK => ?_) ?_
    · go_simp
      go_at_call 22
      refine (entry_any _ _ _).mono ?_
      rintro e we ⟨rfl, hbe⟩
      dsimp only
      replace hC := hC.at hbe
      have k0 := hC.c0
      have k1 := hC.c1
      refine hK.out _ _ trivial (fun hHeld => ?_)
      clear hK K
      try simp only [Act.put, List.getElem_toArray, List.getElem_cons_zero, List.getElem_cons_succ, List.setIfInBounds_toArray, List.set_cons_zero, List.set_cons_succ]
      refine wpAnyH_ready (rs := [0]) (by kernel_rfl) (by simp) ?_
      refine AllReadyH.cons rfl (fun K hK => ?_) ?_
      · go_simp
        refine hK.out _ _ trivial (fun hHeld => ?_)
        clear hK K
        try simp only [Act.put, List.getElem_toArray, List.getElem_cons_zero, List.getElem_cons_succ, List.setIfInBounds_toArray, List.set_cons_zero, List.set_cons_succ]
        refine wpAnyH_ready (rs := [2]) (by kernel_rfl) (by simp) ?_
        refine AllReadyH.cons rfl (fun K hK => ?_) ?_
        · go_simp
          go_at_call 20
          refine (save_any 10 [] E1 1 A n c _ (hR.below hC.below) hC.len hC.seq (by rw [hC.len]; decide) fit_2 fit_E1).mono ?_
          rintro e ws ⟨A', n', c', rfl, hn', hs', hbs⟩
          dsimp only
          replace hC := hC.at hbs
          have hCs := hC
          rw [aw_e1]
          rw [aw_l1] at hn' hs'
          replace hn' := Lib.hid hn'
          have k0 := hC.c0
          have k1 := hC.c1
          have kf := hC.fr
          have kl := hC.lo
          refine hK.out _ _ trivial (fun hHeld => ?_)
          clear hK K
          try simp only [Act.put, List.getElem_toArray, List.getElem_cons_zero, List.getElem_cons_succ, List.setIfInBounds_toArray, List.set_cons_zero, List.set_cons_succ]
          refine wpAnyH_take (i := 3) (v := ?v429) rfl (by kernel_rfl) (by kernel_rfl) (by kernel_rfl) (fun _ _ _ h => h) (Or.inl ⟨by rfl, ?hy429⟩) (by assumption) ?rest429
          case hy429 => (intro w hSw; (try dsimp only at hSw); go_simp; try with_reducible rfl)
          simp only [Act.put, List.getElem_toArray, List.getElem_cons_zero, List.getElem_cons_succ, List.setIfInBounds_toArray, List.set_cons_zero, List.set_cons_succ]
          refine wpAnyH_take (i := 4) (v := ?v430) rfl (by kernel_rfl) (by kernel_rfl) (by kernel_rfl) (fun _ _ _ h => h) (Or.inl ⟨by rfl, ?hy430⟩) (by assumption) ?rest430
          case hy430 => (intro w hSw; (try dsimp only at hSw); go_simp; try with_reducible rfl)
          simp only [Act.put, List.getElem_toArray, List.getElem_cons_zero, List.getElem_cons_succ, List.setIfInBounds_toArray, List.set_cons_zero, List.set_cons_succ]
          refine wpAnyH_take (i := 5) (v := ?v431) rfl (by kernel_rfl) (by kernel_rfl) (by kernel_rfl) (fun _ _ _ h => h) (Or.inl ⟨by rfl, ?hy431⟩) (by assumption) ?rest431
          case hy431 => (intro w hSw; (try dsimp only at hSw); go_simp; try with_reducible rfl)
          simp only [Act.put, List.getElem_toArray, List.getElem_cons_zero, List.getElem_cons_succ, List.setIfInBounds_toArray, List.set_cons_zero, List.set_cons_succ]
          refine wpAnyH_ready (rs := [6]) (by kernel_rfl) (by simp) ?_
          refine AllReadyH.cons rfl (fun K hK => ?_) ?_
          · go_simp
            refine hK.out _ _ trivial (fun hHeld => ?_)
            clear hK K
            try simp only [Act.put, List.getElem_toArray, List.getElem_cons_zero, List.getElem_cons_succ, List.setIfInBounds_toArray, List.set_cons_zero, List.set_cons_succ]
            refine wpAnyH_take (i := 7) (v := ?v432) rfl (by kernel_rfl) (by kernel_rfl) (by kernel_rfl) (fun _ _ _ h => h) (Or.inl ⟨by rfl, ?hy432⟩) (by assumption) ?rest432
            case hy432 => (intro w hSw; (try dsimp only at hSw); go_simp; try with_reducible rfl)
            simp only [Act.put, List.getElem_toArray, List.getElem_cons_zero, List.getElem_cons_succ, List.setIfInBounds_toArray, List.set_cons_zero, List.set_cons_succ]
            refine wpAnyH_done (by kernel_rfl) ?_ _
            repeat' ((fail_if_success at_builtin); (first | go_skip | go_guarded | go_step))
            go_meet
            case rel => exact ⟨rfl, A', n', c', hC.put 10 hn'.out hs'⟩
          exact AllReadyH.nil
        exact AllReadyH.nil
      exact AllReadyH.nil
    exact AllReadyH.nil
  case rest =>
    clear hC
    obtain ⟨rfl, A, n, c, hC⟩ := hcut
    repeat' ((fail_if_success at_builtin); (first | go_skip | go_guarded | go_step))
    go_cut [4] (fun u4 wx => u4 = .int .i64 0 ∧ ∃ A n c, CAx w wx b 10 A n c [X1, X2])
    case first =>
      have k0 := hC.c0
      have k1 := hC.c1
      have kl := hC.lo
      replace hC := hC.at (Below.refl _ _).drew
      refine wp_region_held_drew (S := fun _ => True) (by kernel_rfl) trivial (fun hHeld => ?_)
      refine wpAnyH_ready (rs := [0, 1]) (by kernel_rfl) (by simp) ?_
      refine AllReadyH.cons rfl (fun K hK => ?_) ?_
      · go_simp
        refine hK.out _ _ trivial (fun hHeld => ?_)
        clear hK K
        try simp only [Act.put, List.getElem_toArray, List.getElem_cons_zero, List.getElem_cons_succ, List.setIfInBounds_toArray, List.set_cons_zero, List.set_cons_succ]
        refine wpAnyH_ready (rs := [1]) (by kernel_rfl) (by simp) ?_
        refine AllReadyH.cons rfl (fun K hK => ?_) ?_
        · go_simp
          go_at_call 22
          refine (entry_any _ _ _).mono ?_
          rintro e we ⟨rfl, hbe⟩
          dsimp only
          replace hC := hC.at hbe
          have k0 := hC.c0
          have k1 := hC.c1
          refine hK.out _ _ trivial (fun hHeld => ?_)
          clear hK K
          try simp only [Act.put, List.getElem_toArray, List.getElem_cons_zero, List.getElem_cons_succ, List.setIfInBounds_toArray, List.set_cons_zero, List.set_cons_succ]
          refine wpAnyH_ready (rs := [2]) (by kernel_rfl) (by simp) ?_
          refine AllReadyH.cons rfl (fun K hK => ?_) ?_
          · go_simp
            go_at_call 20
            refine (save_any 10 [X1] E2 2 A n c _ (hR.below hC.below) hC.len hC.seq (by rw [hC.len]; decide) fit_3 fit_E2).mono ?_
            rintro e ws ⟨A', n', c', rfl, hn', hs', hbs⟩
            dsimp only
            replace hC := hC.at hbs
            have hCs := hC
            rw [aw_e2]
            rw [aw_l2] at hn' hs'
            replace hn' := Lib.hid hn'
            have k0 := hC.c0
            have k1 := hC.c1
            have kf := hC.fr
            have kl := hC.lo
            refine hK.out _ _ trivial (fun hHeld => ?_)
            clear hK K
            try simp only [Act.put, List.getElem_toArray, List.getElem_cons_zero, List.getElem_cons_succ, List.setIfInBounds_toArray, List.set_cons_zero, List.set_cons_succ]
            refine wpAnyH_take (i := 3) (v := ?v433) rfl (by kernel_rfl) (by kernel_rfl) (by kernel_rfl) (fun _ _ _ h => h) (Or.inl ⟨by rfl, ?hy433⟩) (by assumption) ?rest433
            case hy433 => (intro w hSw; (try dsimp only at hSw); go_simp; try with_reducible rfl)
            simp only [Act.put, List.getElem_toArray, List.getElem_cons_zero, List.getElem_cons_succ, List.setIfInBounds_toArray, List.set_cons_zero, List.set_cons_succ]
            refine wpAnyH_take (i := 4) (v := ?v434) rfl (by kernel_rfl) (by kernel_rfl) (by kernel_rfl) (fun _ _ _ h => h) (Or.inl ⟨by rfl, ?hy434⟩) (by assumption) ?rest434
            case hy434 => (intro w hSw; (try dsimp only at hSw); go_simp; try with_reducible rfl)
            simp only [Act.put, List.getElem_toArray, List.getElem_cons_zero, List.getElem_cons_succ, List.setIfInBounds_toArray, List.set_cons_zero, List.set_cons_succ]
            refine wpAnyH_take (i := 5) (v := ?v435) rfl (by kernel_rfl) (by kernel_rfl) (by kernel_rfl) (fun _ _ _ h => h) (Or.inl ⟨by rfl, ?hy435⟩) (by assumption) ?rest435
            case hy435 => (intro w hSw; (try dsimp only at hSw); go_simp; try with_reducible rfl)
            simp only [Act.put, List.getElem_toArray, List.getElem_cons_zero, List.getElem_cons_succ, List.setIfInBounds_toArray, List.set_cons_zero, List.set_cons_succ]
            refine wpAnyH_ready (rs := [6]) (by kernel_rfl) (by simp) ?_
            refine AllReadyH.cons rfl (fun K hK => ?_) ?_
            · go_simp
              refine hK.out _ _ trivial (fun hHeld => ?_)
              clear hK K
              try simp only [Act.put, List.getElem_toArray, List.getElem_cons_zero, List.getElem_cons_succ, List.setIfInBounds_toArray, List.set_cons_zero, List.set_cons_succ]
              refine wpAnyH_take (i := 7) (v := ?v436) rfl (by kernel_rfl) (by kernel_rfl) (by kernel_rfl) (fun _ _ _ h => h) (Or.inl ⟨by rfl, ?hy436⟩) (by assumption) ?rest436
              case hy436 => (intro w hSw; (try dsimp only at hSw); go_simp; try with_reducible rfl)
              simp only [Act.put, List.getElem_toArray, List.getElem_cons_zero, List.getElem_cons_succ, List.setIfInBounds_toArray, List.set_cons_zero, List.set_cons_succ]
              refine wpAnyH_done (by kernel_rfl) ?_ _
              repeat' ((fail_if_success at_builtin); (first | go_skip | go_guarded | go_step))
              go_meet
              case rel => exact ⟨rfl, A', n', c', hC.put 10 hn'.out hs'⟩
            exact AllReadyH.nil
          exact AllReadyH.nil
        exact AllReadyH.nil
      refine AllReadyH.cons rfl (fun K hK => ?_) ?_
      · go_simp
        go_at_call 22
        refine (entry_any _ _ _).mono ?_
        rintro e we ⟨rfl, hbe⟩
        dsimp only
        replace hC := hC.at hbe
        have k0 := hC.c0
        have k1 := hC.c1
        refine hK.out _ _ trivial (fun hHeld => ?_)
        clear hK K
        try simp only [Act.put, List.getElem_toArray, List.getElem_cons_zero, List.getElem_cons_succ, List.setIfInBounds_toArray, List.set_cons_zero, List.set_cons_succ]
        refine wpAnyH_ready (rs := [0]) (by kernel_rfl) (by simp) ?_
        refine AllReadyH.cons rfl (fun K hK => ?_) ?_
        · go_simp
          refine hK.out _ _ trivial (fun hHeld => ?_)
          clear hK K
          try simp only [Act.put, List.getElem_toArray, List.getElem_cons_zero, List.getElem_cons_succ, List.setIfInBounds_toArray, List.set_cons_zero, List.set_cons_succ]
          refine wpAnyH_ready (rs := [2]) (by kernel_rfl) (by simp) ?_
          refine AllReadyH.cons rfl (fun K hK => ?_) ?_
          · go_simp
            go_at_call 20
            refine (save_any 10 [X1] E2 2 A n c _ (hR.below hC.below) hC.len hC.seq (by rw [hC.len]; decide) fit_3 fit_E2).mono ?_
            rintro e ws ⟨A', n', c', rfl, hn', hs', hbs⟩
            dsimp only
            replace hC := hC.at hbs
            have hCs := hC
            rw [aw_e2]
            rw [aw_l2] at hn' hs'
            replace hn' := Lib.hid hn'
            have k0 := hC.c0
            have k1 := hC.c1
            have kf := hC.fr
            have kl := hC.lo
            refine hK.out _ _ trivial (fun hHeld => ?_)
            clear hK K
            try simp only [Act.put, List.getElem_toArray, List.getElem_cons_zero, List.getElem_cons_succ, List.setIfInBounds_toArray, List.set_cons_zero, List.set_cons_succ]
            refine wpAnyH_take (i := 3) (v := ?v437) rfl (by kernel_rfl) (by kernel_rfl) (by kernel_rfl) (fun _ _ _ h => h) (Or.inl ⟨by rfl, ?hy437⟩) (by assumption) ?rest437
            case hy437 => (intro w hSw; (try dsimp only at hSw); go_simp; try with_reducible rfl)
            simp only [Act.put, List.getElem_toArray, List.getElem_cons_zero, List.getElem_cons_succ, List.setIfInBounds_toArray, List.set_cons_zero, List.set_cons_succ]
            refine wpAnyH_take (i := 4) (v := ?v438) rfl (by kernel_rfl) (by kernel_rfl) (by kernel_rfl) (fun _ _ _ h => h) (Or.inl ⟨by rfl, ?hy438⟩) (by assumption) ?rest438
            case hy438 => (intro w hSw; (try dsimp only at hSw); go_simp; try with_reducible rfl)
            simp only [Act.put, List.getElem_toArray, List.getElem_cons_zero, List.getElem_cons_succ, List.setIfInBounds_toArray, List.set_cons_zero, List.set_cons_succ]
            refine wpAnyH_take (i := 5) (v := ?v439) rfl (by kernel_rfl) (by kernel_rfl) (by kernel_rfl) (fun _ _ _ h => h) (Or.inl ⟨by rfl, ?hy439⟩) (by assumption) ?rest439
            case hy439 => (intro w hSw; (try dsimp only at hSw); go_simp; try with_reducible rfl)
            simp only [Act.put, List.getElem_toArray, List.getElem_cons_zero, List.getElem_cons_succ, List.setIfInBounds_toArray, List.set_cons_zero, List.set_cons_succ]
            refine wpAnyH_ready (rs := [6]) (by kernel_rfl) (by simp) ?_
            refine AllReadyH.cons rfl (fun K hK => ?_) ?_
            · go_simp
              refine hK.out _ _ trivial (fun hHeld => ?_)
              clear hK K
              try simp only [Act.put, List.getElem_toArray, List.getElem_cons_zero, List.getElem_cons_succ, List.setIfInBounds_toArray, List.set_cons_zero, List.set_cons_succ]
              refine wpAnyH_take (i := 7) (v := ?v440) rfl (by kernel_rfl) (by kernel_rfl) (by kernel_rfl) (fun _ _ _ h => h) (Or.inl ⟨by rfl, ?hy440⟩) (by assumption) ?rest440
              case hy440 => (intro w hSw; (try dsimp only at hSw); go_simp; try with_reducible rfl)
              simp only [Act.put, List.getElem_toArray, List.getElem_cons_zero, List.getElem_cons_succ, List.setIfInBounds_toArray, List.set_cons_zero, List.set_cons_succ]
              refine wpAnyH_done (by kernel_rfl) ?_ _
              repeat' ((fail_if_success at_builtin); (first | go_skip | go_guarded | go_step))
              go_meet
              case rel => exact ⟨rfl, A', n', c', hC.put 10 hn'.out hs'⟩
            exact AllReadyH.nil
          exact AllReadyH.nil
        exact AllReadyH.nil
      exact AllReadyH.nil
    case rest =>
      clear hC
      obtain ⟨rfl, A, n, c, hC⟩ := hcut
      repeat' ((fail_if_success at_builtin); (first | go_skip | go_guarded | go_step))
      go_cut [5, 6] (fun u5 u6 wx => u6 = .int .i64 0 ∧ ∃ d, u5 = .pointer (some ⟨d, 0, none⟩) ∧ (∃ A n c, CAx w wx b 10 A n c [X1, X2]) ∧ ∃ A n c, CAx w wx d 10 A n c [X2, X3])
      case first =>
        have k0 := hC.c0
        have k1 := hC.c1
        have kl := hC.lo
        replace hC := hC.at (Below.refl _ _).drew
        refine wp_region_held_drew (S := fun _ => True) (by kernel_rfl) trivial (fun hHeld => ?_)
        refine wpAnyH_ready (rs := [0, 1, 6]) (by kernel_rfl) (by simp) ?_
        refine AllReadyH.cons rfl (fun K hK => ?_) ?_
        · go_simp
          refine hK.out _ _ trivial (fun hHeld => ?_)
          clear hK K
          try simp only [Act.put, List.getElem_toArray, List.getElem_cons_zero, List.getElem_cons_succ, List.setIfInBounds_toArray, List.set_cons_zero, List.set_cons_succ]
          refine wpAnyH_ready (rs := [1, 6]) (by kernel_rfl) (by simp) ?_
          refine AllReadyH.cons rfl (fun K hK => ?_) ?_
          · go_simp
            go_at_call 22
            refine (entry_any _ _ _).mono ?_
            rintro e we ⟨rfl, hbe⟩
            dsimp only
            replace hC := hC.at hbe
            try replace hD := hD.at hbe
            have k0 := hC.c0
            have k1 := hC.c1
            refine hK.out _ _ trivial (fun hHeld => ?_)
            clear hK K
            try simp only [Act.put, List.getElem_toArray, List.getElem_cons_zero, List.getElem_cons_succ, List.setIfInBounds_toArray, List.set_cons_zero, List.set_cons_succ]
            refine wpAnyH_ready (rs := [2, 6]) (by kernel_rfl) (by simp) ?_
            refine AllReadyH.cons rfl (fun K hK => ?_) ?_
            · go_simp
              go_at_call 20
              refine (save_any 10 [X1, X2] E3 3 A n c _ (hR.below hC.below) hC.len hC.seq (by rw [hC.len]; decide) fit_4 fit_E3).mono ?_
              rintro e ws ⟨A', n', c', rfl, hn', hs', hbs⟩
              dsimp only
              replace hC := hC.at hbs
              have hCs := hC
              try replace hD := hD.at hbs
              first | (have d0 := hD.c0; have d1 := hD.c1; have df := hD.fr; have dl := hD.lo) | skip
              rw [aw_e3]
              rw [aw_l3] at hn' hs'
              replace hn' := Lib.hid hn'
              have k0 := hC.c0
              have k1 := hC.c1
              have kf := hC.fr
              have kl := hC.lo
              refine hK.out _ _ trivial (fun hHeld => ?_)
              clear hK K
              try simp only [Act.put, List.getElem_toArray, List.getElem_cons_zero, List.getElem_cons_succ, List.setIfInBounds_toArray, List.set_cons_zero, List.set_cons_succ]
              refine wpAnyH_take (i := 3) (v := ?v441) rfl (by kernel_rfl) (by kernel_rfl) (by kernel_rfl) (fun _ _ _ h => h) (Or.inl ⟨by rfl, ?hy441⟩) (by assumption) ?rest441
              case hy441 => (intro w hSw; (try dsimp only at hSw); go_simp; try with_reducible rfl)
              simp only [Act.put, List.getElem_toArray, List.getElem_cons_zero, List.getElem_cons_succ, List.setIfInBounds_toArray, List.set_cons_zero, List.set_cons_succ]
              refine wpAnyH_take (i := 4) (v := ?v442) rfl (by kernel_rfl) (by kernel_rfl) (by kernel_rfl) (fun _ _ _ h => h) (Or.inl ⟨by rfl, ?hy442⟩) (by assumption) ?rest442
              case hy442 => (intro w hSw; (try dsimp only at hSw); go_simp; try with_reducible rfl)
              simp only [Act.put, List.getElem_toArray, List.getElem_cons_zero, List.getElem_cons_succ, List.setIfInBounds_toArray, List.set_cons_zero, List.set_cons_succ]
              refine wpAnyH_take (i := 5) (v := ?v443) rfl (by kernel_rfl) (by kernel_rfl) (by kernel_rfl) (fun _ _ _ h => h) (Or.inl ⟨by rfl, ?hy443⟩) (by assumption) ?rest443
              case hy443 => (intro w hSw; (try dsimp only at hSw); go_simp; try with_reducible rfl)
              simp only [Act.put, List.getElem_toArray, List.getElem_cons_zero, List.getElem_cons_succ, List.setIfInBounds_toArray, List.set_cons_zero, List.set_cons_succ]
              refine wpAnyH_ready (rs := [6]) (by kernel_rfl) (by simp) ?_
              refine AllReadyH.cons rfl (fun K hK => ?_) ?_
              · go_simp
                have hD := CAx.fresh (w := w) (c := 0) hC.below 0 (l := []) rfl (seqE_nil _ _ none)
                have hbd := hC.lo
                try simp only [drew_hs] at hD hbd
                replace hC := hC.at ((Below.refl _ _).alloc (Nat.le_refl _) (.cells #[.int .i64 0, .slice none 0 0] 24))
                have k0 := hC.c0
                have k1 := hC.c1
                refine hK.out _ _ trivial (fun hHeld => ?_)
                clear hK K
                try simp only [Act.put, List.getElem_toArray, List.getElem_cons_zero, List.getElem_cons_succ, List.setIfInBounds_toArray, List.set_cons_zero, List.set_cons_succ]
                refine wpAnyH_ready (rs := [7]) (by kernel_rfl) (by simp) ?_
                refine AllReadyH.cons rfl (fun K hK => ?_) ?_
                · go_simp
                  refine hK.out _ _ trivial (fun hHeld => ?_)
                  clear hK K
                  try simp only [Act.put, List.getElem_toArray, List.getElem_cons_zero, List.getElem_cons_succ, List.setIfInBounds_toArray, List.set_cons_zero, List.set_cons_succ]
                  refine wpAnyH_take (i := 8) (v := ?v444) rfl (by kernel_rfl) (by kernel_rfl) (by kernel_rfl) (fun _ _ _ h => h) (Or.inl ⟨by rfl, ?hy444⟩) (by assumption) ?rest444
                  case hy444 => (intro w hSw; (try dsimp only at hSw); go_simp; try with_reducible rfl)
                  simp only [Act.put, List.getElem_toArray, List.getElem_cons_zero, List.getElem_cons_succ, List.setIfInBounds_toArray, List.set_cons_zero, List.set_cons_succ]
                  refine wpAnyH_done (by kernel_rfl) ?_ _
                  repeat' ((fail_if_success at_builtin); (first | go_skip | go_guarded | go_step))
                  go_meet
                  case rel => first
                    | exact ⟨rfl, _, rfl, ⟨A, n, c, hC.far hD hbd _ _⟩, A', n', c', hD.put 10 hn'.out hs'⟩
                    | exact ⟨rfl, _, rfl, ⟨A, n, c, hCs.at ((Below.refl _ _).alloc (Nat.le_refl _) _)⟩, A', n', c', CAx.fresh hCs.below 10 hn'.out hs'⟩
                exact AllReadyH.nil
              exact AllReadyH.nil
            refine AllReadyH.cons rfl (fun K hK => ?_) ?_
            · go_simp
              have hD := CAx.fresh (w := w) (c := 0) hC.below 0 (l := []) rfl (seqE_nil _ _ none)
              have hbd := hC.lo
              try simp only [drew_hs] at hD hbd
              replace hC := hC.at ((Below.refl _ _).alloc (Nat.le_refl _) (.cells #[.int .i64 0, .slice none 0 0] 24))
              have k0 := hC.c0
              have k1 := hC.c1
              refine hK.out _ _ trivial (fun hHeld => ?_)
              clear hK K
              try simp only [Act.put, List.getElem_toArray, List.getElem_cons_zero, List.getElem_cons_succ, List.setIfInBounds_toArray, List.set_cons_zero, List.set_cons_succ]
              refine wpAnyH_ready (rs := [2]) (by kernel_rfl) (by simp) ?_
              refine AllReadyH.cons rfl (fun K hK => ?_) ?_
              · go_simp
                go_at_call 20
                refine (save_any 10 [X1, X2] E3 3 A n c _ (hR.below hC.below) hC.len hC.seq (by rw [hC.len]; decide) fit_4 fit_E3).mono ?_
                rintro e ws ⟨A', n', c', rfl, hn', hs', hbs⟩
                dsimp only
                replace hC := hC.at hbs
                have hCs := hC
                try replace hD := hD.at hbs
                first | (have d0 := hD.c0; have d1 := hD.c1; have df := hD.fr; have dl := hD.lo) | skip
                rw [aw_e3]
                rw [aw_l3] at hn' hs'
                replace hn' := Lib.hid hn'
                have k0 := hC.c0
                have k1 := hC.c1
                have kf := hC.fr
                have kl := hC.lo
                refine hK.out _ _ trivial (fun hHeld => ?_)
                clear hK K
                try simp only [Act.put, List.getElem_toArray, List.getElem_cons_zero, List.getElem_cons_succ, List.setIfInBounds_toArray, List.set_cons_zero, List.set_cons_succ]
                refine wpAnyH_take (i := 3) (v := ?v445) rfl (by kernel_rfl) (by kernel_rfl) (by kernel_rfl) (fun _ _ _ h => h) (Or.inl ⟨by rfl, ?hy445⟩) (by assumption) ?rest445
                case hy445 => (intro w hSw; (try dsimp only at hSw); go_simp; try with_reducible rfl)
                simp only [Act.put, List.getElem_toArray, List.getElem_cons_zero, List.getElem_cons_succ, List.setIfInBounds_toArray, List.set_cons_zero, List.set_cons_succ]
                refine wpAnyH_take (i := 4) (v := ?v446) rfl (by kernel_rfl) (by kernel_rfl) (by kernel_rfl) (fun _ _ _ h => h) (Or.inl ⟨by rfl, ?hy446⟩) (by assumption) ?rest446
                case hy446 => (intro w hSw; (try dsimp only at hSw); go_simp; try with_reducible rfl)
                simp only [Act.put, List.getElem_toArray, List.getElem_cons_zero, List.getElem_cons_succ, List.setIfInBounds_toArray, List.set_cons_zero, List.set_cons_succ]
                refine wpAnyH_take (i := 5) (v := ?v447) rfl (by kernel_rfl) (by kernel_rfl) (by kernel_rfl) (fun _ _ _ h => h) (Or.inl ⟨by rfl, ?hy447⟩) (by assumption) ?rest447
                case hy447 => (intro w hSw; (try dsimp only at hSw); go_simp; try with_reducible rfl)
                simp only [Act.put, List.getElem_toArray, List.getElem_cons_zero, List.getElem_cons_succ, List.setIfInBounds_toArray, List.set_cons_zero, List.set_cons_succ]
                refine wpAnyH_ready (rs := [7]) (by kernel_rfl) (by simp) ?_
                refine AllReadyH.cons rfl (fun K hK => ?_) ?_
                · go_simp
                  refine hK.out _ _ trivial (fun hHeld => ?_)
                  clear hK K
                  try simp only [Act.put, List.getElem_toArray, List.getElem_cons_zero, List.getElem_cons_succ, List.setIfInBounds_toArray, List.set_cons_zero, List.set_cons_succ]
                  refine wpAnyH_take (i := 8) (v := ?v448) rfl (by kernel_rfl) (by kernel_rfl) (by kernel_rfl) (fun _ _ _ h => h) (Or.inl ⟨by rfl, ?hy448⟩) (by assumption) ?rest448
                  case hy448 => (intro w hSw; (try dsimp only at hSw); go_simp; try with_reducible rfl)
                  simp only [Act.put, List.getElem_toArray, List.getElem_cons_zero, List.getElem_cons_succ, List.setIfInBounds_toArray, List.set_cons_zero, List.set_cons_succ]
                  refine wpAnyH_done (by kernel_rfl) ?_ _
                  repeat' ((fail_if_success at_builtin); (first | go_skip | go_guarded | go_step))
                  go_meet
                  case rel => first
                    | exact ⟨rfl, _, rfl, ⟨A, n, c, hC.far hD hbd _ _⟩, A', n', c', hD.put 10 hn'.out hs'⟩
                    | exact ⟨rfl, _, rfl, ⟨A, n, c, hCs.at ((Below.refl _ _).alloc (Nat.le_refl _) _)⟩, A', n', c', CAx.fresh hCs.below 10 hn'.out hs'⟩
                exact AllReadyH.nil
              exact AllReadyH.nil
            exact AllReadyH.nil
          refine AllReadyH.cons rfl (fun K hK => ?_) ?_
          · go_simp
            have hD := CAx.fresh (w := w) (c := 0) hC.below 0 (l := []) rfl (seqE_nil _ _ none)
            have hbd := hC.lo
            try simp only [drew_hs] at hD hbd
            replace hC := hC.at ((Below.refl _ _).alloc (Nat.le_refl _) (.cells #[.int .i64 0, .slice none 0 0] 24))
            have k0 := hC.c0
            have k1 := hC.c1
            refine hK.out _ _ trivial (fun hHeld => ?_)
            clear hK K
            try simp only [Act.put, List.getElem_toArray, List.getElem_cons_zero, List.getElem_cons_succ, List.setIfInBounds_toArray, List.set_cons_zero, List.set_cons_succ]
            refine wpAnyH_ready (rs := [1]) (by kernel_rfl) (by simp) ?_
            refine AllReadyH.cons rfl (fun K hK => ?_) ?_
            · go_simp
              go_at_call 22
              refine (entry_any _ _ _).mono ?_
              rintro e we ⟨rfl, hbe⟩
              dsimp only
              replace hC := hC.at hbe
              try replace hD := hD.at hbe
              have k0 := hC.c0
              have k1 := hC.c1
              refine hK.out _ _ trivial (fun hHeld => ?_)
              clear hK K
              try simp only [Act.put, List.getElem_toArray, List.getElem_cons_zero, List.getElem_cons_succ, List.setIfInBounds_toArray, List.set_cons_zero, List.set_cons_succ]
              refine wpAnyH_ready (rs := [2]) (by kernel_rfl) (by simp) ?_
              refine AllReadyH.cons rfl (fun K hK => ?_) ?_
              · go_simp
                go_at_call 20
                refine (save_any 10 [X1, X2] E3 3 A n c _ (hR.below hC.below) hC.len hC.seq (by rw [hC.len]; decide) fit_4 fit_E3).mono ?_
                rintro e ws ⟨A', n', c', rfl, hn', hs', hbs⟩
                dsimp only
                replace hC := hC.at hbs
                have hCs := hC
                try replace hD := hD.at hbs
                first | (have d0 := hD.c0; have d1 := hD.c1; have df := hD.fr; have dl := hD.lo) | skip
                rw [aw_e3]
                rw [aw_l3] at hn' hs'
                replace hn' := Lib.hid hn'
                have k0 := hC.c0
                have k1 := hC.c1
                have kf := hC.fr
                have kl := hC.lo
                refine hK.out _ _ trivial (fun hHeld => ?_)
                clear hK K
                try simp only [Act.put, List.getElem_toArray, List.getElem_cons_zero, List.getElem_cons_succ, List.setIfInBounds_toArray, List.set_cons_zero, List.set_cons_succ]
                refine wpAnyH_take (i := 3) (v := ?v449) rfl (by kernel_rfl) (by kernel_rfl) (by kernel_rfl) (fun _ _ _ h => h) (Or.inl ⟨by rfl, ?hy449⟩) (by assumption) ?rest449
                case hy449 => (intro w hSw; (try dsimp only at hSw); go_simp; try with_reducible rfl)
                simp only [Act.put, List.getElem_toArray, List.getElem_cons_zero, List.getElem_cons_succ, List.setIfInBounds_toArray, List.set_cons_zero, List.set_cons_succ]
                refine wpAnyH_take (i := 4) (v := ?v450) rfl (by kernel_rfl) (by kernel_rfl) (by kernel_rfl) (fun _ _ _ h => h) (Or.inl ⟨by rfl, ?hy450⟩) (by assumption) ?rest450
                case hy450 => (intro w hSw; (try dsimp only at hSw); go_simp; try with_reducible rfl)
                simp only [Act.put, List.getElem_toArray, List.getElem_cons_zero, List.getElem_cons_succ, List.setIfInBounds_toArray, List.set_cons_zero, List.set_cons_succ]
                refine wpAnyH_take (i := 5) (v := ?v451) rfl (by kernel_rfl) (by kernel_rfl) (by kernel_rfl) (fun _ _ _ h => h) (Or.inl ⟨by rfl, ?hy451⟩) (by assumption) ?rest451
                case hy451 => (intro w hSw; (try dsimp only at hSw); go_simp; try with_reducible rfl)
                simp only [Act.put, List.getElem_toArray, List.getElem_cons_zero, List.getElem_cons_succ, List.setIfInBounds_toArray, List.set_cons_zero, List.set_cons_succ]
                refine wpAnyH_ready (rs := [7]) (by kernel_rfl) (by simp) ?_
                refine AllReadyH.cons rfl (fun K hK => ?_) ?_
                · go_simp
                  refine hK.out _ _ trivial (fun hHeld => ?_)
                  clear hK K
                  try simp only [Act.put, List.getElem_toArray, List.getElem_cons_zero, List.getElem_cons_succ, List.setIfInBounds_toArray, List.set_cons_zero, List.set_cons_succ]
                  refine wpAnyH_take (i := 8) (v := ?v452) rfl (by kernel_rfl) (by kernel_rfl) (by kernel_rfl) (fun _ _ _ h => h) (Or.inl ⟨by rfl, ?hy452⟩) (by assumption) ?rest452
                  case hy452 => (intro w hSw; (try dsimp only at hSw); go_simp; try with_reducible rfl)
                  simp only [Act.put, List.getElem_toArray, List.getElem_cons_zero, List.getElem_cons_succ, List.setIfInBounds_toArray, List.set_cons_zero, List.set_cons_succ]
                  refine wpAnyH_done (by kernel_rfl) ?_ _
                  repeat' ((fail_if_success at_builtin); (first | go_skip | go_guarded | go_step))
                  go_meet
                  case rel => first
                    | exact ⟨rfl, _, rfl, ⟨A, n, c, hC.far hD hbd _ _⟩, A', n', c', hD.put 10 hn'.out hs'⟩
                    | exact ⟨rfl, _, rfl, ⟨A, n, c, hCs.at ((Below.refl _ _).alloc (Nat.le_refl _) _)⟩, A', n', c', CAx.fresh hCs.below 10 hn'.out hs'⟩
                exact AllReadyH.nil
              exact AllReadyH.nil
            exact AllReadyH.nil
          exact AllReadyH.nil
        refine AllReadyH.cons rfl (fun K hK => ?_) ?_
        · go_simp
          go_at_call 22
          refine (entry_any _ _ _).mono ?_
          rintro e we ⟨rfl, hbe⟩
          dsimp only
          replace hC := hC.at hbe
          try replace hD := hD.at hbe
          have k0 := hC.c0
          have k1 := hC.c1
          refine hK.out _ _ trivial (fun hHeld => ?_)
          clear hK K
          try simp only [Act.put, List.getElem_toArray, List.getElem_cons_zero, List.getElem_cons_succ, List.setIfInBounds_toArray, List.set_cons_zero, List.set_cons_succ]
          refine wpAnyH_ready (rs := [0, 6]) (by kernel_rfl) (by simp) ?_
          refine AllReadyH.cons rfl (fun K hK => ?_) ?_
          · go_simp
            refine hK.out _ _ trivial (fun hHeld => ?_)
            clear hK K
            try simp only [Act.put, List.getElem_toArray, List.getElem_cons_zero, List.getElem_cons_succ, List.setIfInBounds_toArray, List.set_cons_zero, List.set_cons_succ]
            refine wpAnyH_ready (rs := [2, 6]) (by kernel_rfl) (by simp) ?_
            refine AllReadyH.cons rfl (fun K hK => ?_) ?_
            · go_simp
              go_at_call 20
              refine (save_any 10 [X1, X2] E3 3 A n c _ (hR.below hC.below) hC.len hC.seq (by rw [hC.len]; decide) fit_4 fit_E3).mono ?_
              rintro e ws ⟨A', n', c', rfl, hn', hs', hbs⟩
              dsimp only
              replace hC := hC.at hbs
              have hCs := hC
              try replace hD := hD.at hbs
              first | (have d0 := hD.c0; have d1 := hD.c1; have df := hD.fr; have dl := hD.lo) | skip
              rw [aw_e3]
              rw [aw_l3] at hn' hs'
              replace hn' := Lib.hid hn'
              have k0 := hC.c0
              have k1 := hC.c1
              have kf := hC.fr
              have kl := hC.lo
              refine hK.out _ _ trivial (fun hHeld => ?_)
              clear hK K
              try simp only [Act.put, List.getElem_toArray, List.getElem_cons_zero, List.getElem_cons_succ, List.setIfInBounds_toArray, List.set_cons_zero, List.set_cons_succ]
              refine wpAnyH_take (i := 3) (v := ?v453) rfl (by kernel_rfl) (by kernel_rfl) (by kernel_rfl) (fun _ _ _ h => h) (Or.inl ⟨by rfl, ?hy453⟩) (by assumption) ?rest453
              case hy453 => (intro w hSw; (try dsimp only at hSw); go_simp; try with_reducible rfl)
              simp only [Act.put, List.getElem_toArray, List.getElem_cons_zero, List.getElem_cons_succ, List.setIfInBounds_toArray, List.set_cons_zero, List.set_cons_succ]
              refine wpAnyH_take (i := 4) (v := ?v454) rfl (by kernel_rfl) (by kernel_rfl) (by kernel_rfl) (fun _ _ _ h => h) (Or.inl ⟨by rfl, ?hy454⟩) (by assumption) ?rest454
              case hy454 => (intro w hSw; (try dsimp only at hSw); go_simp; try with_reducible rfl)
              simp only [Act.put, List.getElem_toArray, List.getElem_cons_zero, List.getElem_cons_succ, List.setIfInBounds_toArray, List.set_cons_zero, List.set_cons_succ]
              refine wpAnyH_take (i := 5) (v := ?v455) rfl (by kernel_rfl) (by kernel_rfl) (by kernel_rfl) (fun _ _ _ h => h) (Or.inl ⟨by rfl, ?hy455⟩) (by assumption) ?rest455
              case hy455 => (intro w hSw; (try dsimp only at hSw); go_simp; try with_reducible rfl)
              simp only [Act.put, List.getElem_toArray, List.getElem_cons_zero, List.getElem_cons_succ, List.setIfInBounds_toArray, List.set_cons_zero, List.set_cons_succ]
              refine wpAnyH_ready (rs := [6]) (by kernel_rfl) (by simp) ?_
              refine AllReadyH.cons rfl (fun K hK => ?_) ?_
              · go_simp
                have hD := CAx.fresh (w := w) (c := 0) hC.below 0 (l := []) rfl (seqE_nil _ _ none)
                have hbd := hC.lo
                try simp only [drew_hs] at hD hbd
                replace hC := hC.at ((Below.refl _ _).alloc (Nat.le_refl _) (.cells #[.int .i64 0, .slice none 0 0] 24))
                have k0 := hC.c0
                have k1 := hC.c1
                refine hK.out _ _ trivial (fun hHeld => ?_)
                clear hK K
                try simp only [Act.put, List.getElem_toArray, List.getElem_cons_zero, List.getElem_cons_succ, List.setIfInBounds_toArray, List.set_cons_zero, List.set_cons_succ]
                refine wpAnyH_ready (rs := [7]) (by kernel_rfl) (by simp) ?_
                refine AllReadyH.cons rfl (fun K hK => ?_) ?_
                · go_simp
                  refine hK.out _ _ trivial (fun hHeld => ?_)
                  clear hK K
                  try simp only [Act.put, List.getElem_toArray, List.getElem_cons_zero, List.getElem_cons_succ, List.setIfInBounds_toArray, List.set_cons_zero, List.set_cons_succ]
                  refine wpAnyH_take (i := 8) (v := ?v456) rfl (by kernel_rfl) (by kernel_rfl) (by kernel_rfl) (fun _ _ _ h => h) (Or.inl ⟨by rfl, ?hy456⟩) (by assumption) ?rest456
                  case hy456 => (intro w hSw; (try dsimp only at hSw); go_simp; try with_reducible rfl)
                  simp only [Act.put, List.getElem_toArray, List.getElem_cons_zero, List.getElem_cons_succ, List.setIfInBounds_toArray, List.set_cons_zero, List.set_cons_succ]
                  refine wpAnyH_done (by kernel_rfl) ?_ _
                  repeat' ((fail_if_success at_builtin); (first | go_skip | go_guarded | go_step))
                  go_meet
                  case rel => first
                    | exact ⟨rfl, _, rfl, ⟨A, n, c, hC.far hD hbd _ _⟩, A', n', c', hD.put 10 hn'.out hs'⟩
                    | exact ⟨rfl, _, rfl, ⟨A, n, c, hCs.at ((Below.refl _ _).alloc (Nat.le_refl _) _)⟩, A', n', c', CAx.fresh hCs.below 10 hn'.out hs'⟩
                exact AllReadyH.nil
              exact AllReadyH.nil
            refine AllReadyH.cons rfl (fun K hK => ?_) ?_
            · go_simp
              have hD := CAx.fresh (w := w) (c := 0) hC.below 0 (l := []) rfl (seqE_nil _ _ none)
              have hbd := hC.lo
              try simp only [drew_hs] at hD hbd
              replace hC := hC.at ((Below.refl _ _).alloc (Nat.le_refl _) (.cells #[.int .i64 0, .slice none 0 0] 24))
              have k0 := hC.c0
              have k1 := hC.c1
              refine hK.out _ _ trivial (fun hHeld => ?_)
              clear hK K
              try simp only [Act.put, List.getElem_toArray, List.getElem_cons_zero, List.getElem_cons_succ, List.setIfInBounds_toArray, List.set_cons_zero, List.set_cons_succ]
              refine wpAnyH_ready (rs := [2]) (by kernel_rfl) (by simp) ?_
              refine AllReadyH.cons rfl (fun K hK => ?_) ?_
              · go_simp
                go_at_call 20
                refine (save_any 10 [X1, X2] E3 3 A n c _ (hR.below hC.below) hC.len hC.seq (by rw [hC.len]; decide) fit_4 fit_E3).mono ?_
                rintro e ws ⟨A', n', c', rfl, hn', hs', hbs⟩
                dsimp only
                replace hC := hC.at hbs
                have hCs := hC
                try replace hD := hD.at hbs
                first | (have d0 := hD.c0; have d1 := hD.c1; have df := hD.fr; have dl := hD.lo) | skip
                rw [aw_e3]
                rw [aw_l3] at hn' hs'
                replace hn' := Lib.hid hn'
                have k0 := hC.c0
                have k1 := hC.c1
                have kf := hC.fr
                have kl := hC.lo
                refine hK.out _ _ trivial (fun hHeld => ?_)
                clear hK K
                try simp only [Act.put, List.getElem_toArray, List.getElem_cons_zero, List.getElem_cons_succ, List.setIfInBounds_toArray, List.set_cons_zero, List.set_cons_succ]
                refine wpAnyH_take (i := 3) (v := ?v457) rfl (by kernel_rfl) (by kernel_rfl) (by kernel_rfl) (fun _ _ _ h => h) (Or.inl ⟨by rfl, ?hy457⟩) (by assumption) ?rest457
                case hy457 => (intro w hSw; (try dsimp only at hSw); go_simp; try with_reducible rfl)
                simp only [Act.put, List.getElem_toArray, List.getElem_cons_zero, List.getElem_cons_succ, List.setIfInBounds_toArray, List.set_cons_zero, List.set_cons_succ]
                refine wpAnyH_take (i := 4) (v := ?v458) rfl (by kernel_rfl) (by kernel_rfl) (by kernel_rfl) (fun _ _ _ h => h) (Or.inl ⟨by rfl, ?hy458⟩) (by assumption) ?rest458
                case hy458 => (intro w hSw; (try dsimp only at hSw); go_simp; try with_reducible rfl)
                simp only [Act.put, List.getElem_toArray, List.getElem_cons_zero, List.getElem_cons_succ, List.setIfInBounds_toArray, List.set_cons_zero, List.set_cons_succ]
                refine wpAnyH_take (i := 5) (v := ?v459) rfl (by kernel_rfl) (by kernel_rfl) (by kernel_rfl) (fun _ _ _ h => h) (Or.inl ⟨by rfl, ?hy459⟩) (by assumption) ?rest459
                case hy459 => (intro w hSw; (try dsimp only at hSw); go_simp; try with_reducible rfl)
                simp only [Act.put, List.getElem_toArray, List.getElem_cons_zero, List.getElem_cons_succ, List.setIfInBounds_toArray, List.set_cons_zero, List.set_cons_succ]
                refine wpAnyH_ready (rs := [7]) (by kernel_rfl) (by simp) ?_
                refine AllReadyH.cons rfl (fun K hK => ?_) ?_
                · go_simp
                  refine hK.out _ _ trivial (fun hHeld => ?_)
                  clear hK K
                  try simp only [Act.put, List.getElem_toArray, List.getElem_cons_zero, List.getElem_cons_succ, List.setIfInBounds_toArray, List.set_cons_zero, List.set_cons_succ]
                  refine wpAnyH_take (i := 8) (v := ?v460) rfl (by kernel_rfl) (by kernel_rfl) (by kernel_rfl) (fun _ _ _ h => h) (Or.inl ⟨by rfl, ?hy460⟩) (by assumption) ?rest460
                  case hy460 => (intro w hSw; (try dsimp only at hSw); go_simp; try with_reducible rfl)
                  simp only [Act.put, List.getElem_toArray, List.getElem_cons_zero, List.getElem_cons_succ, List.setIfInBounds_toArray, List.set_cons_zero, List.set_cons_succ]
                  refine wpAnyH_done (by kernel_rfl) ?_ _
                  repeat' ((fail_if_success at_builtin); (first | go_skip | go_guarded | go_step))
                  go_meet
                  case rel => first
                    | exact ⟨rfl, _, rfl, ⟨A, n, c, hC.far hD hbd _ _⟩, A', n', c', hD.put 10 hn'.out hs'⟩
                    | exact ⟨rfl, _, rfl, ⟨A, n, c, hCs.at ((Below.refl _ _).alloc (Nat.le_refl _) _)⟩, A', n', c', CAx.fresh hCs.below 10 hn'.out hs'⟩
                exact AllReadyH.nil
              exact AllReadyH.nil
            exact AllReadyH.nil
          refine AllReadyH.cons rfl (fun K hK => ?_) ?_
          · go_simp
            have hD := CAx.fresh (w := w) (c := 0) hC.below 0 (l := []) rfl (seqE_nil _ _ none)
            have hbd := hC.lo
            try simp only [drew_hs] at hD hbd
            replace hC := hC.at ((Below.refl _ _).alloc (Nat.le_refl _) (.cells #[.int .i64 0, .slice none 0 0] 24))
            have k0 := hC.c0
            have k1 := hC.c1
            refine hK.out _ _ trivial (fun hHeld => ?_)
            clear hK K
            try simp only [Act.put, List.getElem_toArray, List.getElem_cons_zero, List.getElem_cons_succ, List.setIfInBounds_toArray, List.set_cons_zero, List.set_cons_succ]
            refine wpAnyH_ready (rs := [0]) (by kernel_rfl) (by simp) ?_
            refine AllReadyH.cons rfl (fun K hK => ?_) ?_
            · go_simp
              refine hK.out _ _ trivial (fun hHeld => ?_)
              clear hK K
              try simp only [Act.put, List.getElem_toArray, List.getElem_cons_zero, List.getElem_cons_succ, List.setIfInBounds_toArray, List.set_cons_zero, List.set_cons_succ]
              refine wpAnyH_ready (rs := [2]) (by kernel_rfl) (by simp) ?_
              refine AllReadyH.cons rfl (fun K hK => ?_) ?_
              · go_simp
                go_at_call 20
                refine (save_any 10 [X1, X2] E3 3 A n c _ (hR.below hC.below) hC.len hC.seq (by rw [hC.len]; decide) fit_4 fit_E3).mono ?_
                rintro e ws ⟨A', n', c', rfl, hn', hs', hbs⟩
                dsimp only
                replace hC := hC.at hbs
                have hCs := hC
                try replace hD := hD.at hbs
                first | (have d0 := hD.c0; have d1 := hD.c1; have df := hD.fr; have dl := hD.lo) | skip
                rw [aw_e3]
                rw [aw_l3] at hn' hs'
                replace hn' := Lib.hid hn'
                have k0 := hC.c0
                have k1 := hC.c1
                have kf := hC.fr
                have kl := hC.lo
                refine hK.out _ _ trivial (fun hHeld => ?_)
                clear hK K
                try simp only [Act.put, List.getElem_toArray, List.getElem_cons_zero, List.getElem_cons_succ, List.setIfInBounds_toArray, List.set_cons_zero, List.set_cons_succ]
                refine wpAnyH_take (i := 3) (v := ?v461) rfl (by kernel_rfl) (by kernel_rfl) (by kernel_rfl) (fun _ _ _ h => h) (Or.inl ⟨by rfl, ?hy461⟩) (by assumption) ?rest461
                case hy461 => (intro w hSw; (try dsimp only at hSw); go_simp; try with_reducible rfl)
                simp only [Act.put, List.getElem_toArray, List.getElem_cons_zero, List.getElem_cons_succ, List.setIfInBounds_toArray, List.set_cons_zero, List.set_cons_succ]
                refine wpAnyH_take (i := 4) (v := ?v462) rfl (by kernel_rfl) (by kernel_rfl) (by kernel_rfl) (fun _ _ _ h => h) (Or.inl ⟨by rfl, ?hy462⟩) (by assumption) ?rest462
                case hy462 => (intro w hSw; (try dsimp only at hSw); go_simp; try with_reducible rfl)
                simp only [Act.put, List.getElem_toArray, List.getElem_cons_zero, List.getElem_cons_succ, List.setIfInBounds_toArray, List.set_cons_zero, List.set_cons_succ]
                refine wpAnyH_take (i := 5) (v := ?v463) rfl (by kernel_rfl) (by kernel_rfl) (by kernel_rfl) (fun _ _ _ h => h) (Or.inl ⟨by rfl, ?hy463⟩) (by assumption) ?rest463
                case hy463 => (intro w hSw; (try dsimp only at hSw); go_simp; try with_reducible rfl)
                simp only [Act.put, List.getElem_toArray, List.getElem_cons_zero, List.getElem_cons_succ, List.setIfInBounds_toArray, List.set_cons_zero, List.set_cons_succ]
                refine wpAnyH_ready (rs := [7]) (by kernel_rfl) (by simp) ?_
                refine AllReadyH.cons rfl (fun K hK => ?_) ?_
                · go_simp
                  refine hK.out _ _ trivial (fun hHeld => ?_)
                  clear hK K
                  try simp only [Act.put, List.getElem_toArray, List.getElem_cons_zero, List.getElem_cons_succ, List.setIfInBounds_toArray, List.set_cons_zero, List.set_cons_succ]
                  refine wpAnyH_take (i := 8) (v := ?v464) rfl (by kernel_rfl) (by kernel_rfl) (by kernel_rfl) (fun _ _ _ h => h) (Or.inl ⟨by rfl, ?hy464⟩) (by assumption) ?rest464
                  case hy464 => (intro w hSw; (try dsimp only at hSw); go_simp; try with_reducible rfl)
                  simp only [Act.put, List.getElem_toArray, List.getElem_cons_zero, List.getElem_cons_succ, List.setIfInBounds_toArray, List.set_cons_zero, List.set_cons_succ]
                  refine wpAnyH_done (by kernel_rfl) ?_ _
                  repeat' ((fail_if_success at_builtin); (first | go_skip | go_guarded | go_step))
                  go_meet
                  case rel => first
                    | exact ⟨rfl, _, rfl, ⟨A, n, c, hC.far hD hbd _ _⟩, A', n', c', hD.put 10 hn'.out hs'⟩
                    | exact ⟨rfl, _, rfl, ⟨A, n, c, hCs.at ((Below.refl _ _).alloc (Nat.le_refl _) _)⟩, A', n', c', CAx.fresh hCs.below 10 hn'.out hs'⟩
                exact AllReadyH.nil
              exact AllReadyH.nil
            exact AllReadyH.nil
          exact AllReadyH.nil
        refine AllReadyH.cons rfl (fun K hK => ?_) ?_
        · go_simp
          have hD := CAx.fresh (w := w) (c := 0) hC.below 0 (l := []) rfl (seqE_nil _ _ none)
          have hbd := hC.lo
          try simp only [drew_hs] at hD hbd
          replace hC := hC.at ((Below.refl _ _).alloc (Nat.le_refl _) (.cells #[.int .i64 0, .slice none 0 0] 24))
          have k0 := hC.c0
          have k1 := hC.c1
          refine hK.out _ _ trivial (fun hHeld => ?_)
          clear hK K
          try simp only [Act.put, List.getElem_toArray, List.getElem_cons_zero, List.getElem_cons_succ, List.setIfInBounds_toArray, List.set_cons_zero, List.set_cons_succ]
          refine wpAnyH_ready (rs := [0, 1]) (by kernel_rfl) (by simp) ?_
          refine AllReadyH.cons rfl (fun K hK => ?_) ?_
          · go_simp
            refine hK.out _ _ trivial (fun hHeld => ?_)
            clear hK K
            try simp only [Act.put, List.getElem_toArray, List.getElem_cons_zero, List.getElem_cons_succ, List.setIfInBounds_toArray, List.set_cons_zero, List.set_cons_succ]
            refine wpAnyH_ready (rs := [1]) (by kernel_rfl) (by simp) ?_
            refine AllReadyH.cons rfl (fun K hK => ?_) ?_
            · go_simp
              go_at_call 22
              refine (entry_any _ _ _).mono ?_
              rintro e we ⟨rfl, hbe⟩
              dsimp only
              replace hC := hC.at hbe
              try replace hD := hD.at hbe
              have k0 := hC.c0
              have k1 := hC.c1
              refine hK.out _ _ trivial (fun hHeld => ?_)
              clear hK K
              try simp only [Act.put, List.getElem_toArray, List.getElem_cons_zero, List.getElem_cons_succ, List.setIfInBounds_toArray, List.set_cons_zero, List.set_cons_succ]
              refine wpAnyH_ready (rs := [2]) (by kernel_rfl) (by simp) ?_
              refine AllReadyH.cons rfl (fun K hK => ?_) ?_
              · go_simp
                go_at_call 20
                refine (save_any 10 [X1, X2] E3 3 A n c _ (hR.below hC.below) hC.len hC.seq (by rw [hC.len]; decide) fit_4 fit_E3).mono ?_
                rintro e ws ⟨A', n', c', rfl, hn', hs', hbs⟩
                dsimp only
                replace hC := hC.at hbs
                have hCs := hC
                try replace hD := hD.at hbs
                first | (have d0 := hD.c0; have d1 := hD.c1; have df := hD.fr; have dl := hD.lo) | skip
                rw [aw_e3]
                rw [aw_l3] at hn' hs'
                replace hn' := Lib.hid hn'
                have k0 := hC.c0
                have k1 := hC.c1
                have kf := hC.fr
                have kl := hC.lo
                refine hK.out _ _ trivial (fun hHeld => ?_)
                clear hK K
                try simp only [Act.put, List.getElem_toArray, List.getElem_cons_zero, List.getElem_cons_succ, List.setIfInBounds_toArray, List.set_cons_zero, List.set_cons_succ]
                refine wpAnyH_take (i := 3) (v := ?v465) rfl (by kernel_rfl) (by kernel_rfl) (by kernel_rfl) (fun _ _ _ h => h) (Or.inl ⟨by rfl, ?hy465⟩) (by assumption) ?rest465
                case hy465 => (intro w hSw; (try dsimp only at hSw); go_simp; try with_reducible rfl)
                simp only [Act.put, List.getElem_toArray, List.getElem_cons_zero, List.getElem_cons_succ, List.setIfInBounds_toArray, List.set_cons_zero, List.set_cons_succ]
                refine wpAnyH_take (i := 4) (v := ?v466) rfl (by kernel_rfl) (by kernel_rfl) (by kernel_rfl) (fun _ _ _ h => h) (Or.inl ⟨by rfl, ?hy466⟩) (by assumption) ?rest466
                case hy466 => (intro w hSw; (try dsimp only at hSw); go_simp; try with_reducible rfl)
                simp only [Act.put, List.getElem_toArray, List.getElem_cons_zero, List.getElem_cons_succ, List.setIfInBounds_toArray, List.set_cons_zero, List.set_cons_succ]
                refine wpAnyH_take (i := 5) (v := ?v467) rfl (by kernel_rfl) (by kernel_rfl) (by kernel_rfl) (fun _ _ _ h => h) (Or.inl ⟨by rfl, ?hy467⟩) (by assumption) ?rest467
                case hy467 => (intro w hSw; (try dsimp only at hSw); go_simp; try with_reducible rfl)
                simp only [Act.put, List.getElem_toArray, List.getElem_cons_zero, List.getElem_cons_succ, List.setIfInBounds_toArray, List.set_cons_zero, List.set_cons_succ]
                refine wpAnyH_ready (rs := [7]) (by kernel_rfl) (by simp) ?_
                refine AllReadyH.cons rfl (fun K hK => ?_) ?_
                · go_simp
                  refine hK.out _ _ trivial (fun hHeld => ?_)
                  clear hK K
                  try simp only [Act.put, List.getElem_toArray, List.getElem_cons_zero, List.getElem_cons_succ, List.setIfInBounds_toArray, List.set_cons_zero, List.set_cons_succ]
                  refine wpAnyH_take (i := 8) (v := ?v468) rfl (by kernel_rfl) (by kernel_rfl) (by kernel_rfl) (fun _ _ _ h => h) (Or.inl ⟨by rfl, ?hy468⟩) (by assumption) ?rest468
                  case hy468 => (intro w hSw; (try dsimp only at hSw); go_simp; try with_reducible rfl)
                  simp only [Act.put, List.getElem_toArray, List.getElem_cons_zero, List.getElem_cons_succ, List.setIfInBounds_toArray, List.set_cons_zero, List.set_cons_succ]
                  refine wpAnyH_done (by kernel_rfl) ?_ _
                  repeat' ((fail_if_success at_builtin); (first | go_skip | go_guarded | go_step))
                  go_meet
                  case rel => first
                    | exact ⟨rfl, _, rfl, ⟨A, n, c, hC.far hD hbd _ _⟩, A', n', c', hD.put 10 hn'.out hs'⟩
                    | exact ⟨rfl, _, rfl, ⟨A, n, c, hCs.at ((Below.refl _ _).alloc (Nat.le_refl _) _)⟩, A', n', c', CAx.fresh hCs.below 10 hn'.out hs'⟩
                exact AllReadyH.nil
              exact AllReadyH.nil
            exact AllReadyH.nil
          refine AllReadyH.cons rfl (fun K hK => ?_) ?_
          · go_simp
            go_at_call 22
            refine (entry_any _ _ _).mono ?_
            rintro e we ⟨rfl, hbe⟩
            dsimp only
            replace hC := hC.at hbe
            try replace hD := hD.at hbe
            have k0 := hC.c0
            have k1 := hC.c1
            refine hK.out _ _ trivial (fun hHeld => ?_)
            clear hK K
            try simp only [Act.put, List.getElem_toArray, List.getElem_cons_zero, List.getElem_cons_succ, List.setIfInBounds_toArray, List.set_cons_zero, List.set_cons_succ]
            refine wpAnyH_ready (rs := [0]) (by kernel_rfl) (by simp) ?_
            refine AllReadyH.cons rfl (fun K hK => ?_) ?_
            · go_simp
              refine hK.out _ _ trivial (fun hHeld => ?_)
              clear hK K
              try simp only [Act.put, List.getElem_toArray, List.getElem_cons_zero, List.getElem_cons_succ, List.setIfInBounds_toArray, List.set_cons_zero, List.set_cons_succ]
              refine wpAnyH_ready (rs := [2]) (by kernel_rfl) (by simp) ?_
              refine AllReadyH.cons rfl (fun K hK => ?_) ?_
              · go_simp
                go_at_call 20
                refine (save_any 10 [X1, X2] E3 3 A n c _ (hR.below hC.below) hC.len hC.seq (by rw [hC.len]; decide) fit_4 fit_E3).mono ?_
                rintro e ws ⟨A', n', c', rfl, hn', hs', hbs⟩
                dsimp only
                replace hC := hC.at hbs
                have hCs := hC
                try replace hD := hD.at hbs
                first | (have d0 := hD.c0; have d1 := hD.c1; have df := hD.fr; have dl := hD.lo) | skip
                rw [aw_e3]
                rw [aw_l3] at hn' hs'
                replace hn' := Lib.hid hn'
                have k0 := hC.c0
                have k1 := hC.c1
                have kf := hC.fr
                have kl := hC.lo
                refine hK.out _ _ trivial (fun hHeld => ?_)
                clear hK K
                try simp only [Act.put, List.getElem_toArray, List.getElem_cons_zero, List.getElem_cons_succ, List.setIfInBounds_toArray, List.set_cons_zero, List.set_cons_succ]
                refine wpAnyH_take (i := 3) (v := ?v469) rfl (by kernel_rfl) (by kernel_rfl) (by kernel_rfl) (fun _ _ _ h => h) (Or.inl ⟨by rfl, ?hy469⟩) (by assumption) ?rest469
                case hy469 => (intro w hSw; (try dsimp only at hSw); go_simp; try with_reducible rfl)
                simp only [Act.put, List.getElem_toArray, List.getElem_cons_zero, List.getElem_cons_succ, List.setIfInBounds_toArray, List.set_cons_zero, List.set_cons_succ]
                refine wpAnyH_take (i := 4) (v := ?v470) rfl (by kernel_rfl) (by kernel_rfl) (by kernel_rfl) (fun _ _ _ h => h) (Or.inl ⟨by rfl, ?hy470⟩) (by assumption) ?rest470
                case hy470 => (intro w hSw; (try dsimp only at hSw); go_simp; try with_reducible rfl)
                simp only [Act.put, List.getElem_toArray, List.getElem_cons_zero, List.getElem_cons_succ, List.setIfInBounds_toArray, List.set_cons_zero, List.set_cons_succ]
                refine wpAnyH_take (i := 5) (v := ?v471) rfl (by kernel_rfl) (by kernel_rfl) (by kernel_rfl) (fun _ _ _ h => h) (Or.inl ⟨by rfl, ?hy471⟩) (by assumption) ?rest471
                case hy471 => (intro w hSw; (try dsimp only at hSw); go_simp; try with_reducible rfl)
                simp only [Act.put, List.getElem_toArray, List.getElem_cons_zero, List.getElem_cons_succ, List.setIfInBounds_toArray, List.set_cons_zero, List.set_cons_succ]
                refine wpAnyH_ready (rs := [7]) (by kernel_rfl) (by simp) ?_
                refine AllReadyH.cons rfl (fun K hK => ?_) ?_
                · go_simp
                  refine hK.out _ _ trivial (fun hHeld => ?_)
                  clear hK K
                  try simp only [Act.put, List.getElem_toArray, List.getElem_cons_zero, List.getElem_cons_succ, List.setIfInBounds_toArray, List.set_cons_zero, List.set_cons_succ]
                  refine wpAnyH_take (i := 8) (v := ?v472) rfl (by kernel_rfl) (by kernel_rfl) (by kernel_rfl) (fun _ _ _ h => h) (Or.inl ⟨by rfl, ?hy472⟩) (by assumption) ?rest472
                  case hy472 => (intro w hSw; (try dsimp only at hSw); go_simp; try with_reducible rfl)
                  simp only [Act.put, List.getElem_toArray, List.getElem_cons_zero, List.getElem_cons_succ, List.setIfInBounds_toArray, List.set_cons_zero, List.set_cons_succ]
                  refine wpAnyH_done (by kernel_rfl) ?_ _
                  repeat' ((fail_if_success at_builtin); (first | go_skip | go_guarded | go_step))
                  go_meet
                  case rel => first
                    | exact ⟨rfl, _, rfl, ⟨A, n, c, hC.far hD hbd _ _⟩, A', n', c', hD.put 10 hn'.out hs'⟩
                    | exact ⟨rfl, _, rfl, ⟨A, n, c, hCs.at ((Below.refl _ _).alloc (Nat.le_refl _) _)⟩, A', n', c', CAx.fresh hCs.below 10 hn'.out hs'⟩
                exact AllReadyH.nil
              exact AllReadyH.nil
            exact AllReadyH.nil
          exact AllReadyH.nil
        exact AllReadyH.nil
      case rest =>
        clear hC
        obtain ⟨rfl, d, rfl, ⟨A, n, c, hC⟩, A2, n2, c2, hD⟩ := hcut
        have k0 := hC.c0
        have k1 := hC.c1
        have kl := hC.lo
        have d1 := hD.c1
        have dl := hD.lo
        obtain ⟨b9, o9, rfl, hb9, he⟩ := ent_at (i := 0) hD.seq hD.len rfl
        repeat' ((fail_if_success at_builtin); (first | go_skip | go_guarded | go_step))
        have hba := (Below.refl _ wc).alloc (Nat.le_refl _) (.cells #[.string ⟨#[103, 111, 45]⟩] 9)
        have hC := hC.at hba
        have hD := hD.at hba
        have he := he.map (fun j => hba.cell (p := ⟨b9, o9 + 0 * 8 + j, none⟩) hb9)
        have hb9 := Nat.lt_of_lt_of_le hb9 hba.size
        have hq : Seq (wc.alloc (.cells #[.string ⟨#[103, 111, 45]⟩] 9)) (wc.alloc (.cells #[.string ⟨#[103, 111, 45]⟩] 9)).heap.size 1 (some ⟨wc.heap.size, 0, none⟩) 1 ([(⟨#[103, 111, 45]⟩ : ByteArray)].map Value.string) := ⟨rfl, fun _ => ⟨wc.heap.size, 0, rfl, by simp, fun j u hu => by
          match j, hu with
          | 0, hu => cases hu; simp [go_sem]⟩⟩
        clear hba
        generalize World.alloc wc _ = w7 at *
        refine (restore_any [X1, X2] A n c ⟨#[103, 111, 45, 51]⟩ [⟨#[103, 111, 45]⟩] _ 1 1 w7 hC.len hC.seq (by rw [hC.len]; decide) rfl hq (by decide)).mono ?_
        rintro e w8 ⟨rfl, hb8⟩
        dsimp only
        rw [aw_r]
        have hC := hC.at hb8
        have hD := hD.at hb8
        obtain ⟨e0, e1, e2, e3, e4, e5, e6, e7⟩ := he.map (fun j => hb8.cell (p := ⟨b9, o9 + 0 * 8 + j, none⟩) hb9)
        have hb9 := Nat.lt_of_lt_of_le hb9 hb8.size
        have k0 := hC.c0
        have k1 := hC.c1
        have kl := hC.lo
        have d1 := hD.c1
        have dl := hD.lo
        have hlen := hD.len
        clear hq hb8 he
        have hU := fun (w' : World) (h : Below w8.heap.size w8 w') => used_any 10 [X1, X2] A n c w' (hC.at h).len (hC.at h).seq (by rw [hC.len]; decide) (fun x hx => by
          rcases List.mem_cons.1 hx with rfl | hx
          · exact fit_X1.z
          · rw [List.mem_singleton.1 hx]; exact fit_X2.z)
        rw [aw_u] at hU
        have hbw := hC.below
        replace hU := Lib.hid hU
        replace hC := Lib.hid hC
        replace hD := Lib.hid hD
        dsimp only [Option.getD_some, Option.isSome_some]
        have hlen : n2 = 2 := hlen
        subst hlen
        have hkk : X2.key.toList = [103, 111, 45, 50] := by kernel_rfl
        repeat' ((fail_if_success at_builtin); (first | go_skip | go_guarded | go_step))
        refine (hU.out _ ((Below.refl _ _).alloc (Nat.le_refl _) _)).mono ?_
        rintro e w9 ⟨rfl, hb9'⟩
        dsimp only
        repeat' ((fail_if_success at_builtin); (first | go_skip | go_guarded | go_step))
        go_ret
        exact ⟨rfl, hbw.trans (Below.mono (((Below.refl _ _).alloc (Nat.le_refl _) _).trans (hb9'.mono (by simp))) hbw.size)⟩
end Go.Proofs.YtpdlapdnjmoaoaaDoor
