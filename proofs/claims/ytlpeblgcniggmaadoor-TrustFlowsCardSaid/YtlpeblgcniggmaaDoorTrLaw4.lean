/- The law about flows. -/
import Derived.Test.YtlpeblgcniggmaaDoorTrLaw1
namespace Go.Proofs.YtlpeblgcniggmaaDoor
open Go.RowKit
/-- the three origins lie in a block -/
def OrgsAt (w : World) (g : Nat) (os : Nat → Org) : Prop := ∀ i, i < 3 → w.cell? ⟨g, i * 3, none⟩ = some (.string (os i).prj) ∧ w.cell? ⟨g, i * 3 + 1, none⟩ = some (.string (os i).ref) ∧ w.cell? ⟨g, i * 3 + 2, none⟩ = some (.bool (os i).fork)
def LvlsAt (w : World) (g : Nat) (L : Nat → Int) : Prop := ∀ i, i < 3 → w.cell? ⟨g, i, none⟩ = some (.int .i64 (L i))
def ScpsAt (w : World) (g : Nat) (ss : Nat → Scp) : Prop := ∀ i, i < 3 → w.cell? ⟨g, i * 3, none⟩ = some (.string (ss i).prj) ∧ w.cell? ⟨g, i * 3 + 1, none⟩ = some (.int .i64 (ss i).trust) ∧ w.cell? ⟨g, i * 3 + 2, none⟩ = some (.string (ss i).ref)
abbrev ocells3 (os : Nat → Org) : Array Value := #[.string (os 0).prj, .string (os 0).ref, .bool (os 0).fork, .string (os 1).prj, .string (os 1).ref, .bool (os 1).fork, .string (os 2).prj, .string (os 2).ref, .bool (os 2).fork]
section
variable {w w' : World} {g : Nat}
theorem OrgsAt.below {os : Nat → Org} (h : OrgsAt w g os) (hb : Below w.heap.size w w') (hg : g < w.heap.size) : OrgsAt w' g os := fun i hi => by
  obtain ⟨h0, h1, h2⟩ := h i hi
  exact ⟨(hb.cell (p := ⟨g, i * 3, none⟩) hg).trans h0, (hb.cell (p := ⟨g, i * 3 + 1, none⟩) hg).trans h1, (hb.cell (p := ⟨g, i * 3 + 2, none⟩) hg).trans h2⟩
theorem LvlsAt.below {L : Nat → Int} (h : LvlsAt w g L) (hb : Below w.heap.size w w') (hg : g < w.heap.size) : LvlsAt w' g L := fun i hi => (hb.cell (p := ⟨g, i, none⟩) hg).trans (h i hi)
theorem ScpsAt.below {ss : Nat → Scp} (h : ScpsAt w g ss) (hb : Below w.heap.size w w') (hg : g < w.heap.size) : ScpsAt w' g ss := fun i hi => by
  obtain ⟨h0, h1, h2⟩ := h i hi
  exact ⟨(hb.cell (p := ⟨g, i * 3, none⟩) hg).trans h0, (hb.cell (p := ⟨g, i * 3 + 1, none⟩) hg).trans h1, (hb.cell (p := ⟨g, i * 3 + 2, none⟩) hg).trans h2⟩
end
theorem LvlsAt.set {w : World} {g : Nat} {L : Nat → Int} (h : LvlsAt w g L) (i : Nat) (hi : i < 3) (v : Int) : LvlsAt (w.setCell ⟨g, i, none⟩ (.int .i64 v)) g (fun j => if j = i then v else L j) := by
  intro j hj
  show _ = some (Value.int .i64 (if j = i then v else L j))
  by_cases hji : j = i
  · subst hji
    rw [if_pos rfl, World.cell?_setCell_same w _ _ (h j hj)]
  · rw [if_neg hji, World.cell?_setCell_other w _ _ _ (by intro e; injection e with e1 e2; exact hji e2.symm)]
    exact h j hj
theorem LvlsAt.congr {w : World} {g : Nat} {L L' : Nat → Int} (h : LvlsAt w g L) (hc : ∀ j, j < 3 → L j = L' j) : LvlsAt w g L' := fun j hj => by rw [← hc j hj]; exact h j hj
theorem ScpsAt.congr {w : World} {g : Nat} {L L' : Nat → Scp} (h : ScpsAt w g L) (hc : ∀ j, j < 3 → L j = L' j) : ScpsAt w g L' := fun j hj => by rw [← hc j hj]; exact h j hj
theorem ScpsAt.set {w : World} {g : Nat} {L : Nat → Scp} (h : ScpsAt w g L) (i : Nat) (hi : i < 3) (v : Scp) :
    ScpsAt (((w.setCell ⟨g, i * 3, none⟩ (.string v.prj)).setCell ⟨g, i * 3 + 1, none⟩ (.int .i64 v.trust)).setCell ⟨g, i * 3 + 2, none⟩ (.string v.ref)) g (fun j => if j = i then v else L j) := by
  have ne : ∀ a b : Nat, a ≠ b → (⟨g, a, none⟩ : Addr) ≠ ⟨g, b, none⟩ := by intro a b hab e; injection e with e1 e2; exact hab e2
  intro j hj
  obtain ⟨h0, h1, h2⟩ := h j hj
  by_cases hji : j = i
  · subst hji
    simp only [if_pos]
    refine ⟨?_, ?_, ?_⟩
    · rw [World.cell?_setCell_other _ _ _ _ (ne _ _ (by omega)), World.cell?_setCell_other _ _ _ _ (ne _ _ (by omega)), World.cell?_setCell_same w _ _ h0]
    · rw [World.cell?_setCell_other _ _ _ _ (ne _ _ (by omega)), World.cell?_setCell_same _ _ _ (by rw [World.cell?_setCell_other _ _ _ _ (ne _ _ (by omega))]; exact h1)]
    · rw [World.cell?_setCell_same _ _ _ (by rw [World.cell?_setCell_other _ _ _ _ (ne _ _ (by omega)), World.cell?_setCell_other _ _ _ _ (ne _ _ (by omega))]; exact h2)]
  · simp only [if_neg hji]
    refine ⟨?_, ?_, ?_⟩
    · rw [World.cell?_setCell_other _ _ _ _ (ne _ _ (by omega)), World.cell?_setCell_other _ _ _ _ (ne _ _ (by omega)), World.cell?_setCell_other _ _ _ _ (ne _ _ (by omega))]; exact h0
    · rw [World.cell?_setCell_other _ _ _ _ (ne _ _ (by omega)), World.cell?_setCell_other _ _ _ _ (ne _ _ (by omega)), World.cell?_setCell_other _ _ _ _ (ne _ _ (by omega))]; exact h1
    · rw [World.cell?_setCell_other _ _ _ _ (ne _ _ (by omega)), World.cell?_setCell_other _ _ _ _ (ne _ _ (by omega)), World.cell?_setCell_other _ _ _ _ (ne _ _ (by omega))]; exact h2
/-- what lies in a cell -/
def cellV (w : World) (g o : Nat) : Value := (w.cell? ⟨g, o, none⟩).getD undef
theorem cellV_of {w : World} {g o : Nat} (h : (w.cell? ⟨g, o, none⟩).isSome = true) : w.cell? ⟨g, o, none⟩ = some (cellV w g o) := by
  unfold cellV
  cases hq : w.cell? ⟨g, o, none⟩ with
  | none => rw [hq] at h; cases h
  | some v => rfl
/-- what the region that stores scope i keeps -/
structure FS (w7 w' : World) (gs i : Nat) (ss : Nat → Scp) : Prop where
  below : Below gs w7 w'
  size : w7.heap.size ≤ w'.heap.size
  there : w'.there gs (i * 3) 3
  rest : ∀ j, j < 3 → j ≠ i → w'.cell? ⟨gs, j * 3, none⟩ = some (.string (ss j).prj) ∧ w'.cell? ⟨gs, j * 3 + 1, none⟩ = some (.int .i64 (ss j).trust) ∧ w'.cell? ⟨gs, j * 3 + 2, none⟩ = some (.string (ss j).ref)
  frz : ∀ j, w'.frozen? ⟨gs, j, none⟩ = false
theorem FS.call {w7 w' w'' : World} {gs i : Nat} {ss : Nat → Scp} (h : FS w7 w' gs i ss) (hc : Below w'.heap.size w' w'') (hg : gs < w'.heap.size) : FS w7 w'' gs i ss where
  below := h.below.trans (hc.mono (Nat.le_of_lt hg))
  size := Nat.le_trans h.size hc.size
  there := fun j hj => ⟨by rw [hc.cell (p := ⟨gs, i * 3 + j, none⟩) hg]; exact (h.there j hj).1, by rw [hc.frozen (p := ⟨gs, i * 3 + j, none⟩) hg]; exact (h.there j hj).2⟩
  rest := fun j hj hne => by
    obtain ⟨h0, h1, h2⟩ := h.rest j hj hne
    exact ⟨(hc.cell (p := ⟨gs, j * 3, none⟩) hg).trans h0, (hc.cell (p := ⟨gs, j * 3 + 1, none⟩) hg).trans h1, (hc.cell (p := ⟨gs, j * 3 + 2, none⟩) hg).trans h2⟩
  frz := fun j => (hc.frozen (p := ⟨gs, j, none⟩) hg).trans (h.frz j)
theorem FS.store {w7 w' : World} {gs i : Nat} {ss : Nat → Scp} (h : FS w7 w' gs i ss) (s : Scp) : FS w7 (w'.setCells gs (i * 3) [.string s.prj, .int .i64 s.trust, .string s.ref]) gs i ss where
  below := Below.trans h.below (by
    have h1 := ((Below.refl gs w').setCell (p := ⟨gs, i * 3, none⟩) (Nat.le_refl _) (.string s.prj))
    exact (h1.setCell (p := ⟨gs, i * 3 + 1, none⟩) (Nat.le_refl _) _).setCell (p := ⟨gs, i * 3 + 1 + 1, none⟩) (Nat.le_refl _) _)
  size := by simpa [World.setCells, World.setCell] using h.size
  there := fun j hj => by
    have h1 := h.there
    refine ⟨?_, by simpa [World.setCells, go_sem] using (h1 j hj).2⟩
    have := World.cell?_setCells_in gs [Value.string s.prj, .int .i64 s.trust, .string s.ref] (i * 3) w' (fun k hk => (h1 k hk).1) j hj
    rw [this]; rfl
  rest := fun j hj hne => by
    obtain ⟨h0, h1, h2⟩ := h.rest j hj hne
    have o := fun k (hk : k < i * 3 ∨ i * 3 + 3 ≤ k) => World.cell?_setCells_out gs [Value.string s.prj, .int .i64 s.trust, .string s.ref] (i * 3) w' ⟨gs, k, none⟩ (fun _ _ => hk)
    refine ⟨(o _ (by omega)).trans h0, (o _ (by omega)).trans h1, (o _ (by omega)).trans h2⟩
  frz := fun j => by simpa [World.setCells, go_sem] using h.frz j
theorem FS.done {w7 w' : World} {gs i : Nat} {ss : Nat → Scp} (h : FS w7 w' gs i ss) (hi : i < 3) (s : Scp) : ScpsAt (w'.setCells gs (i * 3) [.string s.prj, .int .i64 s.trust, .string s.ref]) gs (fun j => if j = i then s else ss j) := by
  intro j hj
  by_cases hji : j = i
  · subst hji
    simp only [if_pos]
    have q := fun k hk => World.cell?_setCells_in gs [Value.string s.prj, .int .i64 s.trust, .string s.ref] (j * 3) w' (fun k hk => (h.there k hk).1) k hk
    exact ⟨q 0 (by simp), q 1 (by simp), q 2 (by simp)⟩
  · simp only [if_neg hji]
    exact (h.store s).rest j hj hji
theorem step_store {P : Program} {ops : Array Oper} {o : Oper} {a : Act} {K : Act → World → Prop} {Q : Exit → Act → World → Prop} {E : Prop} {w : World} (ty : TypeId) (x y : Operand)
    (b k : Nat) (cells : Array Value) (ht : w.there b k cells.size) (hi : (P.info? ty).map (·.size) = some cells.size) (h1 : cells.all (·.oneCell') = true)
    (h : K (a.put o.dst undef) (w.setCells b k cells.toList)) (hgd : o.guard = none := by rfl) (ho : o.op = .store ty x y := by rfl) (hx : a.eval x = .pointer (some ⟨b, k, none⟩) := by rfl) (hy : a.eval y = .agg cells := by rfl) :
    if Region.wanted o (yielded ops a.tmps) = true then Oper.wp P o a w K Q else E := by
  rw [if_pos (by simp [Region.wanted, hgd])]
  exact wp_store_mid ty x y ho b k cells hx hy ht hi h1 h
theorem pcells_one (s : Scp) : (pcells s).all (·.oneCell') = true := all_oneCell_toArray (cs := [.string s.prj, .int .i64 s.trust, .string s.ref]) (fun v hv => by
  simp only [List.mem_cons, List.not_mem_nil, or_false] at hv
  rcases hv with rfl | rfl | rfl <;> rfl)
theorem mayR_parts {o p : Org} {t u : Int} (h : mayR o t (scpS p u) = true) : (p.prj.toList == o.prj.toList) = true ∧ t ≤ u ∧ ((p.ref.toList == o.ref.toList) = true ∨ u = 2) := by
  unfold mayR scpS sameS at h
  simp only [Bool.and_eq_true, Bool.or_eq_true, decide_eq_true_eq] at h
  obtain ⟨h1, h2, h3, h4, h5⟩ := h
  exact ⟨h1, h4, h5.imp id (fun h => by simpa using h)⟩
theorem mayR_mk {o p : Org} {t u : Int} (h1 : (p.prj.toList == o.prj.toList) = true) (h2 : lvlB u = true) (h3 : lvlB t = true) (h4 : t ≤ u) (h5 : (p.ref.toList == o.ref.toList) = true ∨ u = 2) : mayR o t (scpS p u) = true := by
  unfold mayR scpS sameS
  simp only [Bool.and_eq_true, Bool.or_eq_true, decide_eq_true_eq]
  exact ⟨h1, h2, h3, h4, h5.imp id (fun h => by simpa using h)⟩
theorem scp_size : (Tryd.prog.info? 34).map (·.size) = some 3 := by kernel_rfl
def scpA (os : Nat → Org) (L : Nat → Int) (i j : Nat) : Scp := if j < i then scpS (os j) (L j) else ⟨⟨#[]⟩, 0, ⟨#[]⟩⟩
def lvlA (L : Nat → Int) (i j : Nat) : Int := if j < i then L j else 0
theorem Lib_drewN (w : World) (n : Nat) : Below w.heap.size w (w.drewN n) := ⟨rfl, rfl, rfl, Nat.le_refl _, fun _ _ => rfl⟩
theorem lt3 {i : Nat} (h : i < 3) : i = 0 ∨ i = 1 ∨ i = 2 := by omega
set_option maxRecDepth 100000 in
set_option maxHeartbeats 4000000 in
theorem flows_law (os : Nat → Org) (ps : List ByteArray) (A : Option Addr) (c : Nat) (w : World) (hR : Ready w) (h1 : ∀ i, i < 3 → (os i).prj.size ≤ 9223372036854775807) (h2 : ∀ i, i < 3 → (os i).ref.size ≤ 9223372036854775807)
    (hs : Seq w w.heap.size 1 A ps.length (ps.map Value.string)) (hl : ps.length ≤ 9223372036854775807) (hm : ∀ p ∈ ps, p.size ≤ 9223372036854775807) :
    Calls Tryd.prog 7 #[.agg (ocells3 os), .slice A ps.length c] w fun e w' => e = .returned (.bool true) ∧ Below w.heap.size w w' := by
  have hb1 := (Below.refl w.heap.size w).alloc (Nat.le_refl _) (.cells (ocells3 os) 39)
  have hz : w.heap.size < (w.alloc (.cells (ocells3 os) 39)).heap.size := by simp
  have hO : OrgsAt (w.alloc (.cells (ocells3 os) 39)) w.heap.size os := by
    intro i hi
    rcases lt3 hi with rfl | rfl | rfl <;> refine ⟨?_, ?_, ?_⟩ <;> simp [go_sem]
  have d := fun i hi => hO i hi
  replace h1 := Lib.hid h1
  replace h2 := Lib.hid h2
  replace hO := Lib.hid hO
  obtain ⟨d00, d01, d02⟩ := d 0 (by omega)
  obtain ⟨d10, d11, d12⟩ := d 1 (by omega)
  obtain ⟨d20, d21, d22⟩ := d 2 (by omega)
  simp only [Nat.zero_mul, Nat.one_mul, Nat.zero_add, Nat.reduceMul, Nat.reduceAdd] at d00 d01 d02 d10 d11 d12 d20 d21 d22
  clear d
  go_enter Tryd.func7, Tryd.ntmps7
  repeat' ((fail_if_success at_builtin); (first | go_skip | go_guarded | go_step))
  generalize w.alloc (.cells (ocells3 os) 39) = w1 at *
  replace hs := (hs.below hb1).more hb1.size
  have hR1 := hR.below hb1
  have CA := fun w' (h : Below w1.heap.size w1 w') => awake_any w' (hR1.below h)
  have CF := fun w' (h : Below w1.heap.size w1 w') => few_any ps A c w' ((hs.below h).more h.size) hl hm
  replace CA := Lib.hid CA
  replace CF := Lib.hid CF
  refine (short_any (os 0) w1 (h1.out 0 (by omega)) (h2.out 0 (by omega))).mono ?_
  rintro e w2 ⟨b0, rfl, hc2, hsh0⟩
  have hk2 := hc2
  replace hsh0 := Lib.hid hsh0
  dsimp only
  cases b0 with
  | false =>
    repeat' ((fail_if_success at_builtin); (first | go_skip | go_guarded | go_step))
    refine (CA.out _ hk2).mono ?_
    rintro e w9 ⟨rfl, hb9⟩
    dsimp only
    repeat' ((fail_if_success at_builtin); (first | go_skip | go_guarded | go_step))
    go_ret
    exact ⟨rfl, hb1.trans ((hk2.trans (hb9.mono hk2.size)).mono hb1.size)⟩
  | true =>
    have d10x := (hk2.cell (p := ⟨w.heap.size, 3, none⟩) hz).trans d10
    have d11x := (hk2.cell (p := ⟨w.heap.size, 4, none⟩) hz).trans d11
    have d12x := (hk2.cell (p := ⟨w.heap.size, 5, none⟩) hz).trans d12
    repeat' ((fail_if_success at_builtin); (first | go_skip | go_guarded | go_step))
    refine (short_any (os 1) w2 (h1.out 1 (by omega)) (h2.out 1 (by omega))).mono ?_
    rintro e w3 ⟨b1, rfl, hc3, hsh1⟩
    have hk3 := hk2.trans (hc3.mono hk2.size)
    replace hsh1 := Lib.hid hsh1
    dsimp only
    cases b1 with
    | false =>
      repeat' ((fail_if_success at_builtin); (first | go_skip | go_guarded | go_step))
      refine (CA.out _ hk3).mono ?_
      rintro e w9 ⟨rfl, hb9⟩
      dsimp only
      repeat' ((fail_if_success at_builtin); (first | go_skip | go_guarded | go_step))
      go_ret
      exact ⟨rfl, hb1.trans ((hk3.trans (hb9.mono hk3.size)).mono hb1.size)⟩
    | true =>
      have d20x := (hk3.cell (p := ⟨w.heap.size, 6, none⟩) hz).trans d20
      have d21x := (hk3.cell (p := ⟨w.heap.size, 7, none⟩) hz).trans d21
      have d22x := (hk3.cell (p := ⟨w.heap.size, 8, none⟩) hz).trans d22
      repeat' ((fail_if_success at_builtin); (first | go_skip | go_guarded | go_step))
      refine (short_any (os 2) w3 (h1.out 2 (by omega)) (h2.out 2 (by omega))).mono ?_
      rintro e w4 ⟨b2, rfl, hc4, hsh2⟩
      have hk4 := hk3.trans (hc4.mono hk3.size)
      replace hsh2 := Lib.hid hsh2
      dsimp only
      cases b2 with
      | false =>
        repeat' ((fail_if_success at_builtin); (first | go_skip | go_guarded | go_step))
        refine (CA.out _ hk4).mono ?_
        rintro e w9 ⟨rfl, hb9⟩
        dsimp only
        repeat' ((fail_if_success at_builtin); (first | go_skip | go_guarded | go_step))
        go_ret
        exact ⟨rfl, hb1.trans ((hk4.trans (hb9.mono hk4.size)).mono hb1.size)⟩
      | true =>
        repeat' ((fail_if_success at_builtin); (first | go_skip | go_guarded | go_step))
        refine (CF.out _ hk4).mono ?_
        rintro e w5 ⟨b3, rfl, hc5, hfw⟩
        have hk5 := hk4.trans (hc5.mono hk4.size)
        replace hfw := Lib.hid hfw
        dsimp only
        cases b3 with
        | false =>
          repeat' ((fail_if_success at_builtin); (first | go_skip | go_guarded | go_step))
          refine (CA.out _ hk5).mono ?_
          rintro e w9 ⟨rfl, hb9⟩
          dsimp only
          repeat' ((fail_if_success at_builtin); (first | go_skip | go_guarded | go_step))
          go_ret
          exact ⟨rfl, hb1.trans ((hk5.trans (hb9.mono hk5.size)).mono hb1.size)⟩
        | true =>
          have hsz1 := hsh0.out rfl
          have hsz2 := hsh1.out rfl
          have hsz3 := hsh2.out rfl
          obtain ⟨hpl, hpz⟩ := hfw.out rfl
          have hop : ∀ i, i < 3 → (os i).prj.size ≤ 600 ∧ (os i).ref.size ≤ 600 := by
            intro i hi
            rcases lt3 hi with rfl | rfl | rfl
            · exact hsz1
            · exact hsz2
            · exact hsz3
          have hO5 := hO.out.below hk5 hz
          replace hop := Lib.hid hop
          replace hpz := Lib.hid hpz
          replace hO5 := Lib.hid hO5
          clear hsz1 hsz2 hsz3 hsh0 hsh1 hsh2 hfw d00 d01 d02 d10 d11 d12 d20 d21 d22 d10x d11x d12x d20x d21x d22x CF hk2 hk3 hk4 hc2 hc3 hc4 hc5 h1 h2 hO hl hm
          repeat' ((fail_if_success at_builtin); (first | go_skip | go_guarded | go_step))
          obtain ⟨L, hL⟩ : ∃ L : Nat → Int, L = fun j => lvlS (os j) (toL ps) := ⟨_, rfl⟩
          replace hL := Lib.hid hL
          go_loopw [7] (fun u7 wr => ∃ i : Nat, i ≤ 3 ∧ u7 = .int .i64 (i : Int) ∧ w5.heap.size + 1 < wr.heap.size ∧ Below w5.heap.size w5 wr ∧ LvlsAt wr w5.heap.size (lvlA L i) ∧ ScpsAt wr (w5.heap.size + 1) (scpA os L i) ∧ (∀ j, wr.frozen? ⟨w5.heap.size, j, none⟩ = false) ∧ ∀ j, wr.frozen? ⟨w5.heap.size + 1, j, none⟩ = false) (fun u7 _ => 3 - (intOf u7).toNat)
          case atStart =>
            refine ⟨0, by omega, rfl, by simp, ((Below.refl _ _).alloc (Nat.le_refl _) _).alloc (by simp) _, ?_, ?_, fun j => by simp [go_sem], fun j => by simp [go_sem]⟩
            · intro j hj
              rcases lt3 hj with rfl | rfl | rfl <;> simp [go_sem, lvlA]
            · intro j hj
              rcases lt3 hj with rfl | rfl | rfl <;> refine ⟨?_, ?_, ?_⟩ <;> simp [go_sem, scpA]
          case round =>
            obtain ⟨i, hi, rfl, hzr, hbr, hLv, hSc, hf1, hf2⟩ := hrel
            by_cases hlt : i < 3
            · have i1 : (i : Int) < 3 := by omega
              have i0 : (0 : Int) ≤ (i : Int) := by omega
              obtain ⟨q0, q1, q2⟩ := (hO5.out.below hbr (Nat.lt_of_lt_of_le hz hk5.size)) i hlt
              obtain ⟨hp1, hp2⟩ := hop.out i hlt
              have hkr := hk5.trans (hbr.mono hk5.size)
              have C6 := lev_any (os i) ps A c wr (hR1.below hkr) ((hs.below hkr).more hkr.size) (by omega) (fun p hp => by have := hpz.out p hp; omega) (by omega) (by omega)
              rw [show lvlS (os i) (toL ps) = L i by rw [hL.out]] at C6
              replace C6 := Lib.hid C6
              replace hLv := Lib.hid hLv
              replace hSc := Lib.hid hSc
              replace hf1 := Lib.hid hf1
              replace hf2 := Lib.hid hf2
              repeat' ((fail_if_success at_builtin); (first | go_skip | go_guarded | go_step))
              refine C6.out.mono ?_
              rintro e w6 ⟨rfl, hb6⟩
              have hLv6 := Lib.hid (hLv.out.below hb6 (by omega))
              have hSc6 := Lib.hid (hSc.out.below hb6 hzr)
              have p0 := (hb6.cell (p := ⟨w.heap.size, i * 3, none⟩) (by have := hkr.size; dsimp only; omega)).trans q0
              have p1 := (hb6.cell (p := ⟨w.heap.size, i * 3 + 1, none⟩) (by have := hkr.size; dsimp only; omega)).trans q1
              have p2 := (hb6.cell (p := ⟨w.heap.size, i * 3 + 2, none⟩) (by have := hkr.size; dsimp only; omega)).trans q2
              have e6 := hLv6.out i hlt
              have f6 := (hb6.frozen (p := ⟨w5.heap.size, i, none⟩) (by dsimp only; omega)).trans (hf1.out i)
              dsimp only
              repeat' ((fail_if_success at_builtin); (first | go_skip | go_guarded | go_step))
              have hb7 : Below w5.heap.size w5 (w6.setCell ⟨w5.heap.size, i, none⟩ (.int .i64 (L i))) := (hbr.trans (hb6.mono hbr.size)).setCell (p := ⟨w5.heap.size, i, none⟩) (Nat.le_refl _) _
              have hLv7 := hLv6.out.set i hlt (L i)
              have fr : ∀ (v : Value) (p : Addr), p.block ≠ w5.heap.size → (w6.setCell ⟨w5.heap.size, i, none⟩ v).cell? p = w6.cell? p := fun v p hp => World.cell?_setCell_far _ _ _ _ (fun e => hp e.symm)
              have hSc7 : ScpsAt (w6.setCell ⟨w5.heap.size, i, none⟩ (.int .i64 (L i))) (w5.heap.size + 1) (scpA os L i) := by
                intro j hj
                obtain ⟨h0, h1, h2⟩ := hSc6.out j hj
                exact ⟨(fr _ ⟨w5.heap.size + 1, j * 3, none⟩ (by dsimp only; omega)).trans h0, (fr _ ⟨w5.heap.size + 1, j * 3 + 1, none⟩ (by dsimp only; omega)).trans h1, (fr _ ⟨w5.heap.size + 1, j * 3 + 2, none⟩ (by dsimp only; omega)).trans h2⟩
              have g0 := (fr (.int .i64 (L i)) ⟨w.heap.size, i * 3, none⟩ (by have := hk5.size; dsimp only; omega)).trans p0
              have g1 := (fr (.int .i64 (L i)) ⟨w.heap.size, i * 3 + 1, none⟩ (by have := hk5.size; dsimp only; omega)).trans p1
              have g2 := (fr (.int .i64 (L i)) ⟨w.heap.size, i * 3 + 2, none⟩ (by have := hk5.size; dsimp only; omega)).trans p2
              have g3 := hLv7 i hlt
              dsimp only at g3
              rw [if_pos rfl] at g3
              have hz7 : w5.heap.size + 1 < (w6.setCell ⟨w5.heap.size, i, none⟩ (.int .i64 (L i))).heap.size := by have := hb6.size; simp [World.setCell]; omega
              have hf71 : ∀ j, (w6.setCell ⟨w5.heap.size, i, none⟩ (.int .i64 (L i))).frozen? ⟨w5.heap.size, j, none⟩ = false := fun j => by
                have := (hb6.frozen (p := ⟨w5.heap.size, j, none⟩) (by dsimp only; omega)).trans (hf1.out j)
                simpa [go_sem] using this
              have hf72 : ∀ j, (w6.setCell ⟨w5.heap.size, i, none⟩ (.int .i64 (L i))).frozen? ⟨w5.heap.size + 1, j, none⟩ = false := fun j => by
                have := (hb6.frozen (p := ⟨w5.heap.size + 1, j, none⟩) (by dsimp only; omega)).trans (hf2.out j)
                simpa [go_sem] using this
              clear fr e6 f6 p0 p1 p2 hLv6 hSc6 C6 q0 q1 q2 hb6 hf1 hf2 hLv hSc hbr hkr
              generalize w6.setCell ⟨w5.heap.size, i, none⟩ (.int .i64 (L i)) = w7 at *
              have CS := fun w' => scope_any (os i) (L i) w'
              replace CS := Lib.hid CS
              replace hLv7 := Lib.hid hLv7
              replace hSc7 := Lib.hid hSc7
              replace hf71 := Lib.hid hf71
              replace hf72 := Lib.hid hf72
              have hwz : w.heap.size < w5.heap.size := by have := hk5.size; omega
              have hF : FS w7 w7 (w5.heap.size + 1) i (scpA os L i) := ⟨Below.refl _ _, Nat.le_refl _, fun j hj => ⟨by
                obtain ⟨h0, h1, h2⟩ := hSc7.out i hlt
                rcases lt3 hj with rfl | rfl | rfl
                · rw [show i * 3 + 0 = i * 3 by omega, h0]; rfl
                · rw [h1]; rfl
                · rw [h2]; rfl, hf72.out _⟩, fun j hj _ => hSc7.out j hj, hf72.out⟩
              have hF1 := hF.call (Below.refl _ _).drew hz7
              have hS : (FS w7 w7.drew (w5.heap.size + 1) i (scpA os L i)) ∧ w7.drew.cell? ⟨w.heap.size, i * 3, none⟩ = some (.string (os i).prj) ∧ w7.drew.cell? ⟨w.heap.size, i * 3 + 1, none⟩ = some (.string (os i).ref) ∧ w7.drew.cell? ⟨w.heap.size, i * 3 + 2, none⟩ = some (.bool (os i).fork) ∧ w7.drew.cell? ⟨w5.heap.size, i, none⟩ = some (.int .i64 (L i)) ∧ w7.drew.cell? ⟨w5.heap.size + 1, i * 3, none⟩ = some (cellV w7.drew (w5.heap.size + 1) (i * 3)) ∧ w7.drew.frozen? ⟨w5.heap.size + 1, i * 3, none⟩ = false ∧ w7.drew.cell? ⟨w5.heap.size + 1, i * 3 + 1, none⟩ = some (cellV w7.drew (w5.heap.size + 1) (i * 3 + 1)) ∧ w7.drew.frozen? ⟨w5.heap.size + 1, i * 3 + 1, none⟩ = false ∧ w7.drew.cell? ⟨w5.heap.size + 1, i * 3 + 2, none⟩ = some (cellV w7.drew (w5.heap.size + 1) (i * 3 + 2)) ∧ w7.drew.frozen? ⟨w5.heap.size + 1, i * 3 + 2, none⟩ = false := ⟨hF1, g0, g1, g2, g3, cellV_of (hF1.there 0 (by omega)).1, (hF1.there 0 (by omega)).2, cellV_of (hF1.there 1 (by omega)).1, (hF1.there 1 (by omega)).2, cellV_of (hF1.there 2 (by omega)).1, (hF1.there 2 (by omega)).2⟩
              have hS0 : (FS w7 w7 (w5.heap.size + 1) i (scpA os L i)) ∧ w7.cell? ⟨w.heap.size, i * 3, none⟩ = some (.string (os i).prj) ∧ w7.cell? ⟨w.heap.size, i * 3 + 1, none⟩ = some (.string (os i).ref) ∧ w7.cell? ⟨w.heap.size, i * 3 + 2, none⟩ = some (.bool (os i).fork) ∧ w7.cell? ⟨w5.heap.size, i, none⟩ = some (.int .i64 (L i)) ∧ w7.cell? ⟨w5.heap.size + 1, i * 3, none⟩ = some (cellV w7 (w5.heap.size + 1) (i * 3)) ∧ w7.frozen? ⟨w5.heap.size + 1, i * 3, none⟩ = false ∧ w7.cell? ⟨w5.heap.size + 1, i * 3 + 1, none⟩ = some (cellV w7 (w5.heap.size + 1) (i * 3 + 1)) ∧ w7.frozen? ⟨w5.heap.size + 1, i * 3 + 1, none⟩ = false ∧ w7.cell? ⟨w5.heap.size + 1, i * 3 + 2, none⟩ = some (cellV w7 (w5.heap.size + 1) (i * 3 + 2)) ∧ w7.frozen? ⟨w5.heap.size + 1, i * 3 + 2, none⟩ = false := ⟨hF, g0, g1, g2, g3, cellV_of (hF.there 0 (by omega)).1, (hF.there 0 (by omega)).2, cellV_of (hF.there 1 (by omega)).1, (hF.there 1 (by omega)).2, cellV_of (hF.there 2 (by omega)).1, (hF.there 2 (by omega)).2⟩
              have keepF : ∀ w' w'', ((FS w7 w' (w5.heap.size + 1) i (scpA os L i)) ∧ w'.cell? ⟨w.heap.size, i * 3, none⟩ = some (.string (os i).prj) ∧ w'.cell? ⟨w.heap.size, i * 3 + 1, none⟩ = some (.string (os i).ref) ∧ w'.cell? ⟨w.heap.size, i * 3 + 2, none⟩ = some (.bool (os i).fork) ∧ w'.cell? ⟨w5.heap.size, i, none⟩ = some (.int .i64 (L i)) ∧ w'.cell? ⟨w5.heap.size + 1, i * 3, none⟩ = some (cellV w' (w5.heap.size + 1) (i * 3)) ∧ w'.frozen? ⟨w5.heap.size + 1, i * 3, none⟩ = false ∧ w'.cell? ⟨w5.heap.size + 1, i * 3 + 1, none⟩ = some (cellV w' (w5.heap.size + 1) (i * 3 + 1)) ∧ w'.frozen? ⟨w5.heap.size + 1, i * 3 + 1, none⟩ = false ∧ w'.cell? ⟨w5.heap.size + 1, i * 3 + 2, none⟩ = some (cellV w' (w5.heap.size + 1) (i * 3 + 2)) ∧ w'.frozen? ⟨w5.heap.size + 1, i * 3 + 2, none⟩ = false) → Below w'.heap.size w' w'' → ((FS w7 w'' (w5.heap.size + 1) i (scpA os L i)) ∧ w''.cell? ⟨w.heap.size, i * 3, none⟩ = some (.string (os i).prj) ∧ w''.cell? ⟨w.heap.size, i * 3 + 1, none⟩ = some (.string (os i).ref) ∧ w''.cell? ⟨w.heap.size, i * 3 + 2, none⟩ = some (.bool (os i).fork) ∧ w''.cell? ⟨w5.heap.size, i, none⟩ = some (.int .i64 (L i)) ∧ w''.cell? ⟨w5.heap.size + 1, i * 3, none⟩ = some (cellV w'' (w5.heap.size + 1) (i * 3)) ∧ w''.frozen? ⟨w5.heap.size + 1, i * 3, none⟩ = false ∧ w''.cell? ⟨w5.heap.size + 1, i * 3 + 1, none⟩ = some (cellV w'' (w5.heap.size + 1) (i * 3 + 1)) ∧ w''.frozen? ⟨w5.heap.size + 1, i * 3 + 1, none⟩ = false ∧ w''.cell? ⟨w5.heap.size + 1, i * 3 + 2, none⟩ = some (cellV w'' (w5.heap.size + 1) (i * 3 + 2)) ∧ w''.frozen? ⟨w5.heap.size + 1, i * 3 + 2, none⟩ = false) := fun w' w'' h hc => by
                have hq := h.1.call hc (Nat.lt_of_lt_of_le hz7 h.1.size)
                exact ⟨hq, (hc.cell (p := ⟨w.heap.size, i * 3, none⟩) (by have := h.1.size; dsimp only; omega)).trans h.2.1, (hc.cell (p := ⟨w.heap.size, i * 3 + 1, none⟩) (by have := h.1.size; dsimp only; omega)).trans h.2.2.1, (hc.cell (p := ⟨w.heap.size, i * 3 + 2, none⟩) (by have := h.1.size; dsimp only; omega)).trans h.2.2.2.1, (hc.cell (p := ⟨w5.heap.size, i, none⟩) (by have := h.1.size; dsimp only; omega)).trans h.2.2.2.2.1, cellV_of (hq.there 0 (by omega)).1, (hq.there 0 (by omega)).2, cellV_of (hq.there 1 (by omega)).1, (hq.there 1 (by omega)).2, cellV_of (hq.there 2 (by omega)).1, (hq.there 2 (by omega)).2⟩
              have keepG : ∀ w', ((FS w7 w' (w5.heap.size + 1) i (scpA os L i)) ∧ w'.cell? ⟨w.heap.size, i * 3, none⟩ = some (.string (os i).prj) ∧ w'.cell? ⟨w.heap.size, i * 3 + 1, none⟩ = some (.string (os i).ref) ∧ w'.cell? ⟨w.heap.size, i * 3 + 2, none⟩ = some (.bool (os i).fork) ∧ w'.cell? ⟨w5.heap.size, i, none⟩ = some (.int .i64 (L i)) ∧ w'.cell? ⟨w5.heap.size + 1, i * 3, none⟩ = some (cellV w' (w5.heap.size + 1) (i * 3)) ∧ w'.frozen? ⟨w5.heap.size + 1, i * 3, none⟩ = false ∧ w'.cell? ⟨w5.heap.size + 1, i * 3 + 1, none⟩ = some (cellV w' (w5.heap.size + 1) (i * 3 + 1)) ∧ w'.frozen? ⟨w5.heap.size + 1, i * 3 + 1, none⟩ = false ∧ w'.cell? ⟨w5.heap.size + 1, i * 3 + 2, none⟩ = some (cellV w' (w5.heap.size + 1) (i * 3 + 2)) ∧ w'.frozen? ⟨w5.heap.size + 1, i * 3 + 2, none⟩ = false) → ((FS w7 (w'.setCells (w5.heap.size + 1) (i * 3) [.string (scpS (os i) (L i)).prj, .int .i64 (scpS (os i) (L i)).trust, .string (scpS (os i) (L i)).ref]) (w5.heap.size + 1) i (scpA os L i)) ∧ (w'.setCells (w5.heap.size + 1) (i * 3) [.string (scpS (os i) (L i)).prj, .int .i64 (scpS (os i) (L i)).trust, .string (scpS (os i) (L i)).ref]).cell? ⟨w.heap.size, i * 3, none⟩ = some (.string (os i).prj) ∧ (w'.setCells (w5.heap.size + 1) (i * 3) [.string (scpS (os i) (L i)).prj, .int .i64 (scpS (os i) (L i)).trust, .string (scpS (os i) (L i)).ref]).cell? ⟨w.heap.size, i * 3 + 1, none⟩ = some (.string (os i).ref) ∧ (w'.setCells (w5.heap.size + 1) (i * 3) [.string (scpS (os i) (L i)).prj, .int .i64 (scpS (os i) (L i)).trust, .string (scpS (os i) (L i)).ref]).cell? ⟨w.heap.size, i * 3 + 2, none⟩ = some (.bool (os i).fork) ∧ (w'.setCells (w5.heap.size + 1) (i * 3) [.string (scpS (os i) (L i)).prj, .int .i64 (scpS (os i) (L i)).trust, .string (scpS (os i) (L i)).ref]).cell? ⟨w5.heap.size, i, none⟩ = some (.int .i64 (L i)) ∧ (w'.setCells (w5.heap.size + 1) (i * 3) [.string (scpS (os i) (L i)).prj, .int .i64 (scpS (os i) (L i)).trust, .string (scpS (os i) (L i)).ref]).cell? ⟨w5.heap.size + 1, i * 3, none⟩ = some (cellV (w'.setCells (w5.heap.size + 1) (i * 3) [.string (scpS (os i) (L i)).prj, .int .i64 (scpS (os i) (L i)).trust, .string (scpS (os i) (L i)).ref]) (w5.heap.size + 1) (i * 3)) ∧ (w'.setCells (w5.heap.size + 1) (i * 3) [.string (scpS (os i) (L i)).prj, .int .i64 (scpS (os i) (L i)).trust, .string (scpS (os i) (L i)).ref]).frozen? ⟨w5.heap.size + 1, i * 3, none⟩ = false ∧ (w'.setCells (w5.heap.size + 1) (i * 3) [.string (scpS (os i) (L i)).prj, .int .i64 (scpS (os i) (L i)).trust, .string (scpS (os i) (L i)).ref]).cell? ⟨w5.heap.size + 1, i * 3 + 1, none⟩ = some (cellV (w'.setCells (w5.heap.size + 1) (i * 3) [.string (scpS (os i) (L i)).prj, .int .i64 (scpS (os i) (L i)).trust, .string (scpS (os i) (L i)).ref]) (w5.heap.size + 1) (i * 3 + 1)) ∧ (w'.setCells (w5.heap.size + 1) (i * 3) [.string (scpS (os i) (L i)).prj, .int .i64 (scpS (os i) (L i)).trust, .string (scpS (os i) (L i)).ref]).frozen? ⟨w5.heap.size + 1, i * 3 + 1, none⟩ = false ∧ (w'.setCells (w5.heap.size + 1) (i * 3) [.string (scpS (os i) (L i)).prj, .int .i64 (scpS (os i) (L i)).trust, .string (scpS (os i) (L i)).ref]).cell? ⟨w5.heap.size + 1, i * 3 + 2, none⟩ = some (cellV (w'.setCells (w5.heap.size + 1) (i * 3) [.string (scpS (os i) (L i)).prj, .int .i64 (scpS (os i) (L i)).trust, .string (scpS (os i) (L i)).ref]) (w5.heap.size + 1) (i * 3 + 2)) ∧ (w'.setCells (w5.heap.size + 1) (i * 3) [.string (scpS (os i) (L i)).prj, .int .i64 (scpS (os i) (L i)).trust, .string (scpS (os i) (L i)).ref]).frozen? ⟨w5.heap.size + 1, i * 3 + 2, none⟩ = false) := fun w' h => by
                have o := fun (p : Addr) (hp : p.block ≠ w5.heap.size + 1) => World.cell?_setCells_out (w5.heap.size + 1) [Value.string (scpS (os i) (L i)).prj, .int .i64 (scpS (os i) (L i)).trust, .string (scpS (os i) (L i)).ref] (i * 3) w' p (fun e => absurd e hp)
                have hq := h.1.store (scpS (os i) (L i))
                exact ⟨hq, (o ⟨w.heap.size, i * 3, none⟩ (by dsimp only; omega)).trans h.2.1, (o ⟨w.heap.size, i * 3 + 1, none⟩ (by dsimp only; omega)).trans h.2.2.1, (o ⟨w.heap.size, i * 3 + 2, none⟩ (by dsimp only; omega)).trans h.2.2.2.1, (o ⟨w5.heap.size, i, none⟩ (by dsimp only; omega)).trans h.2.2.2.2.1, cellV_of (hq.there 0 (by omega)).1, (hq.there 0 (by omega)).2, cellV_of (hq.there 1 (by omega)).1, (hq.there 1 (by omega)).2, cellV_of (hq.there 2 (by omega)).1, (hq.there 2 (by omega)).2⟩
              replace keepF := Lib.hid keepF
              replace keepG := Lib.hid keepG
              go_region_held3 (fun w' => (FS w7 w' (w5.heap.size + 1) i (scpA os L i)) ∧ w'.cell? ⟨w.heap.size, i * 3, none⟩ = some (.string (os i).prj) ∧ w'.cell? ⟨w.heap.size, i * 3 + 1, none⟩ = some (.string (os i).ref) ∧ w'.cell? ⟨w.heap.size, i * 3 + 2, none⟩ = some (.bool (os i).fork) ∧ w'.cell? ⟨w5.heap.size, i, none⟩ = some (.int .i64 (L i)) ∧ w'.cell? ⟨w5.heap.size + 1, i * 3, none⟩ = some (cellV w' (w5.heap.size + 1) (i * 3)) ∧ w'.frozen? ⟨w5.heap.size + 1, i * 3, none⟩ = false ∧ w'.cell? ⟨w5.heap.size + 1, i * 3 + 1, none⟩ = some (cellV w' (w5.heap.size + 1) (i * 3 + 1)) ∧ w'.frozen? ⟨w5.heap.size + 1, i * 3 + 1, none⟩ = false ∧ w'.cell? ⟨w5.heap.size + 1, i * 3 + 2, none⟩ = some (cellV w' (w5.heap.size + 1) (i * 3 + 2)) ∧ w'.frozen? ⟨w5.heap.size + 1, i * 3 + 2, none⟩ = false)
                (first | exact hS | exact hS0 | exact keepF.out _ _ (by assumption) hbq | exact keepG.out _ (by assumption))
                (first
                  | (go_at_call 15; refine (CS.out _).mono ?_; rintro e w8 ⟨rfl, hbq⟩; dsimp only))
              have hpre := hF1.call hbq hz7
              have hpost := hpre.store (scpS (os i) (L i))
              have hdone := hpre.done hlt (scpS (os i) (L i))
              repeat' ((fail_if_success at_builtin); (first | go_skip | go_guarded | go_step))
              go_roundw
              case rel =>
                refine ⟨i + 1, by omega, by go_num, Nat.lt_of_lt_of_le hz7 hpost.size, hb7.trans (hpost.below.mono (Nat.le_succ _)), fun j hj => ?_, hdone.congr fun j _ => ?_, fun j => (hpost.below.frozen (p := ⟨w5.heap.size, j, none⟩) (Nat.lt_succ_self _)).trans (hf71.out j), hpost.frz⟩
                · refine (hpost.below.cell (p := ⟨w5.heap.size, j, none⟩) (Nat.lt_succ_self _)).trans ((hLv7.out j hj).trans ?_)
                  unfold lvlA
                  by_cases h1 : j = i
                  · simp [h1]
                  · by_cases h2 : j < i
                    · simp [h1, h2, show j < i + 1 by omega]
                    · simp [h1, h2, show ¬ j < i + 1 by omega]
                · unfold scpA
                  by_cases h1 : j = i
                  · simp [h1]
                  · by_cases h2 : j < i
                    · simp [h1, h2, show j < i + 1 by omega]
                    · simp [h1, h2, show ¬ j < i + 1 by omega]
              case measure => simp [intOf]; omega
            · have hie : ¬ (i : Int) < 3 := by omega
              have hLz : LvlsAt wr w5.heap.size L := hLv.congr fun j hj => by unfold lvlA; rw [if_pos (by omega)]
              have hSz : ScpsAt wr (w5.heap.size + 1) (fun j => scpS (os j) (L j)) := hSc.congr fun j hj => by unfold scpA; rw [if_pos (by omega)]
              clear hlt hi
              have hOz := hO5.out.below hbr (Nat.lt_of_lt_of_le hz hk5.size)
              have hkr := hk5.trans (hbr.mono hk5.size)
              have hwz : w.heap.size < w5.heap.size := by have := hk5.size; omega
              clear hLv hSc hf1 hf2 hbr hO5
              repeat' ((fail_if_success at_builtin); (first | go_skip | go_guarded | go_step))
              obtain ⟨wz, hwz'⟩ : ∃ wz : World, wz = wr := ⟨wr, rfl⟩
              subst hwz'
              have hzz := hzr
              have FO := fun (w' : World) (h : Below wz.heap.size wz w') => hOz.below h (by omega)
              have FL := fun (w' : World) (h : Below wz.heap.size wz w') => hLz.below h (by omega)
              have FP := fun (w' : World) (h : Below wz.heap.size wz w') => hSz.below h hzz
              have FM := fun (i k : Nat) (w' : World) => mayRead_any (os i) (L i) (scpS (os k) (L k)) w'
              have hLr : ∀ j, lvlB (L j) = true := fun j => by
                rw [hL.out]
                dsimp only
                unfold lvlS
                split
                · rfl
                · split <;> rfl
              replace hLr := Lib.hid hLr
              replace FM := Lib.hid FM
              clear hOz hLz hSz
              go_loopw [8] (fun u8 wr => ∃ i : Nat, i ≤ 3 ∧ u8 = .int .i64 (i : Int) ∧ Below wz.heap.size wz wr) (fun u8 _ => 3 - (intOf u8).toNat)
              case atStart => exact ⟨0, by omega, rfl, Below.refl _ _⟩
              case round =>
                obtain ⟨i, hi, rfl, hbz⟩ := hrel
                by_cases hlt : i < 3
                · have i1 : (i : Int) < 3 := by omega
                  have i0 : (0 : Int) ≤ (i : Int) := by omega
                  repeat' ((fail_if_success at_builtin); (first | go_skip | go_guarded | go_step))
                  go_loopw [9] (fun u9 wr => ∃ k : Nat, k ≤ 3 ∧ u9 = .int .i64 (k : Int) ∧ Below wz.heap.size wz wr) (fun u9 _ => 3 - (intOf u9).toNat)
                  case atStart => exact ⟨0, by omega, rfl, hbz⟩
                  case round =>
                    obtain ⟨k, hk, rfl, hbz⟩ := hrel
                    obtain ⟨wx, hwx⟩ : ∃ wx : World, wx = wr := ⟨wr, rfl⟩
                    subst hwx
                    by_cases hkl : k < 3
                    · have k1 : (k : Int) < 3 := by omega
                      have k0 : (0 : Int) ≤ (k : Int) := by omega
                      have CM := FM.out i k
                      cases hm : mayR (os i) (L i) (scpS (os k) (L k)) with
                      | false =>
                        rw [hm] at CM
                        replace CM := Lib.hid CM
                        repeat' ((fail_if_success at_builtin); (first | go_skip | go_guarded | go_step))
                        obtain ⟨x0, x1, x2⟩ := (FO _ hbz) i (by omega)
                        have x3 := (FL _ hbz) i (by omega)
                        obtain ⟨x4, x5, x6⟩ := (FP _ hbz) k (by omega)
                        have hzb : w5.heap.size + 1 < wx.heap.size := Nat.lt_of_lt_of_le hzz hbz.size
                        have hT : Below wx.heap.size wx wx.drew ∧ wx.drew.cell? ⟨w.heap.size, i * 3, none⟩ = some (.string (os i).prj) ∧ wx.drew.cell? ⟨w.heap.size, i * 3 + 1, none⟩ = some (.string (os i).ref) ∧ wx.drew.cell? ⟨w.heap.size, i * 3 + 2, none⟩ = some (.bool (os i).fork) ∧ wx.drew.cell? ⟨w5.heap.size, i, none⟩ = some (.int .i64 (L i)) ∧ wx.drew.cell? ⟨(w5.heap.size + 1), k * 3, none⟩ = some (.string (scpS (os k) (L k)).prj) ∧ wx.drew.cell? ⟨(w5.heap.size + 1), k * 3 + 1, none⟩ = some (.int .i64 (scpS (os k) (L k)).trust) ∧ wx.drew.cell? ⟨(w5.heap.size + 1), k * 3 + 2, none⟩ = some (.string (scpS (os k) (L k)).ref) := ⟨(Below.refl _ _).drew, x0, x1, x2, x3, x4, x5, x6⟩
                        have hT0 : Below wx.heap.size wx wx ∧ wx.cell? ⟨w.heap.size, i * 3, none⟩ = some (.string (os i).prj) ∧ wx.cell? ⟨w.heap.size, i * 3 + 1, none⟩ = some (.string (os i).ref) ∧ wx.cell? ⟨w.heap.size, i * 3 + 2, none⟩ = some (.bool (os i).fork) ∧ wx.cell? ⟨w5.heap.size, i, none⟩ = some (.int .i64 (L i)) ∧ wx.cell? ⟨(w5.heap.size + 1), k * 3, none⟩ = some (.string (scpS (os k) (L k)).prj) ∧ wx.cell? ⟨(w5.heap.size + 1), k * 3 + 1, none⟩ = some (.int .i64 (scpS (os k) (L k)).trust) ∧ wx.cell? ⟨(w5.heap.size + 1), k * 3 + 2, none⟩ = some (.string (scpS (os k) (L k)).ref) := ⟨(Below.refl _ _), x0, x1, x2, x3, x4, x5, x6⟩
                        have keepT : ∀ w' w'', (Below wx.heap.size wx w' ∧ w'.cell? ⟨w.heap.size, i * 3, none⟩ = some (.string (os i).prj) ∧ w'.cell? ⟨w.heap.size, i * 3 + 1, none⟩ = some (.string (os i).ref) ∧ w'.cell? ⟨w.heap.size, i * 3 + 2, none⟩ = some (.bool (os i).fork) ∧ w'.cell? ⟨w5.heap.size, i, none⟩ = some (.int .i64 (L i)) ∧ w'.cell? ⟨(w5.heap.size + 1), k * 3, none⟩ = some (.string (scpS (os k) (L k)).prj) ∧ w'.cell? ⟨(w5.heap.size + 1), k * 3 + 1, none⟩ = some (.int .i64 (scpS (os k) (L k)).trust) ∧ w'.cell? ⟨(w5.heap.size + 1), k * 3 + 2, none⟩ = some (.string (scpS (os k) (L k)).ref)) → Below w'.heap.size w' w'' → (Below wx.heap.size wx w'' ∧ w''.cell? ⟨w.heap.size, i * 3, none⟩ = some (.string (os i).prj) ∧ w''.cell? ⟨w.heap.size, i * 3 + 1, none⟩ = some (.string (os i).ref) ∧ w''.cell? ⟨w.heap.size, i * 3 + 2, none⟩ = some (.bool (os i).fork) ∧ w''.cell? ⟨w5.heap.size, i, none⟩ = some (.int .i64 (L i)) ∧ w''.cell? ⟨(w5.heap.size + 1), k * 3, none⟩ = some (.string (scpS (os k) (L k)).prj) ∧ w''.cell? ⟨(w5.heap.size + 1), k * 3 + 1, none⟩ = some (.int .i64 (scpS (os k) (L k)).trust) ∧ w''.cell? ⟨(w5.heap.size + 1), k * 3 + 2, none⟩ = some (.string (scpS (os k) (L k)).ref)) := fun w' w'' h hc => ⟨h.1.trans (hc.mono h.1.size), (hc.cell (p := ⟨w.heap.size, i * 3, none⟩) (by have := h.1.size; dsimp only; omega)).trans h.2.1, (hc.cell (p := ⟨w.heap.size, i * 3 + 1, none⟩) (by have := h.1.size; dsimp only; omega)).trans h.2.2.1, (hc.cell (p := ⟨w.heap.size, i * 3 + 2, none⟩) (by have := h.1.size; dsimp only; omega)).trans h.2.2.2.1, (hc.cell (p := ⟨w5.heap.size, i, none⟩) (by have := h.1.size; dsimp only; omega)).trans h.2.2.2.2.1, (hc.cell (p := ⟨w5.heap.size + 1, k * 3, none⟩) (by have := h.1.size; dsimp only; omega)).trans h.2.2.2.2.2.1, (hc.cell (p := ⟨w5.heap.size + 1, k * 3 + 1, none⟩) (by have := h.1.size; dsimp only; omega)).trans h.2.2.2.2.2.2.1, (hc.cell (p := ⟨w5.heap.size + 1, k * 3 + 2, none⟩) (by have := h.1.size; dsimp only; omega)).trans h.2.2.2.2.2.2.2⟩
                        replace keepT := Lib.hid keepT
                        go_region_held3 (fun w' => Below wx.heap.size wx w' ∧ w'.cell? ⟨w.heap.size, i * 3, none⟩ = some (.string (os i).prj) ∧ w'.cell? ⟨w.heap.size, i * 3 + 1, none⟩ = some (.string (os i).ref) ∧ w'.cell? ⟨w.heap.size, i * 3 + 2, none⟩ = some (.bool (os i).fork) ∧ w'.cell? ⟨w5.heap.size, i, none⟩ = some (.int .i64 (L i)) ∧ w'.cell? ⟨(w5.heap.size + 1), k * 3, none⟩ = some (.string (scpS (os k) (L k)).prj) ∧ w'.cell? ⟨(w5.heap.size + 1), k * 3 + 1, none⟩ = some (.int .i64 (scpS (os k) (L k)).trust) ∧ w'.cell? ⟨(w5.heap.size + 1), k * 3 + 2, none⟩ = some (.string (scpS (os k) (L k)).ref))
                          (first | exact hT | exact hT0 | exact keepT.out _ _ (by assumption) hbq)
                          (first | (go_at_call 17; refine (CM.out _).mono ?_; rintro e w8 ⟨rfl, hbq⟩; dsimp only))
                        have hbx := And.left (by assumption : Below wx.heap.size wx w8 ∧ w8.cell? ⟨w.heap.size, i * 3, none⟩ = some (.string (os i).prj) ∧ w8.cell? ⟨w.heap.size, i * 3 + 1, none⟩ = some (.string (os i).ref) ∧ w8.cell? ⟨w.heap.size, i * 3 + 2, none⟩ = some (.bool (os i).fork) ∧ w8.cell? ⟨w5.heap.size, i, none⟩ = some (.int .i64 (L i)) ∧ w8.cell? ⟨(w5.heap.size + 1), k * 3, none⟩ = some (.string (scpS (os k) (L k)).prj) ∧ w8.cell? ⟨(w5.heap.size + 1), k * 3 + 1, none⟩ = some (.int .i64 (scpS (os k) (L k)).trust) ∧ w8.cell? ⟨(w5.heap.size + 1), k * 3 + 2, none⟩ = some (.string (scpS (os k) (L k)).ref))
                        clear hT hT0 keepT x0 x1 x2 x3 x4 x5 x6
                        repeat' ((fail_if_success at_builtin); (first | go_skip | go_guarded | go_step))
                        go_roundw
                        case rel => exact ⟨k + 1, by omega, by go_num, hbz.trans (hbx.mono hbz.size)⟩
                        case measure => simp [intOf]; omega
                      | true =>
                        rw [hm] at CM
                        replace CM := Lib.hid CM
                        repeat' ((fail_if_success at_builtin); (first | go_skip | go_guarded | go_step))
                        obtain ⟨x0, x1, x2⟩ := (FO _ hbz) i (by omega)
                        have x3 := (FL _ hbz) i (by omega)
                        obtain ⟨x4, x5, x6⟩ := (FP _ hbz) k (by omega)
                        have hzb : w5.heap.size + 1 < wx.heap.size := Nat.lt_of_lt_of_le hzz hbz.size
                        have hT : Below wx.heap.size wx wx.drew ∧ wx.drew.cell? ⟨w.heap.size, i * 3, none⟩ = some (.string (os i).prj) ∧ wx.drew.cell? ⟨w.heap.size, i * 3 + 1, none⟩ = some (.string (os i).ref) ∧ wx.drew.cell? ⟨w.heap.size, i * 3 + 2, none⟩ = some (.bool (os i).fork) ∧ wx.drew.cell? ⟨w5.heap.size, i, none⟩ = some (.int .i64 (L i)) ∧ wx.drew.cell? ⟨(w5.heap.size + 1), k * 3, none⟩ = some (.string (scpS (os k) (L k)).prj) ∧ wx.drew.cell? ⟨(w5.heap.size + 1), k * 3 + 1, none⟩ = some (.int .i64 (scpS (os k) (L k)).trust) ∧ wx.drew.cell? ⟨(w5.heap.size + 1), k * 3 + 2, none⟩ = some (.string (scpS (os k) (L k)).ref) := ⟨(Below.refl _ _).drew, x0, x1, x2, x3, x4, x5, x6⟩
                        have hT0 : Below wx.heap.size wx wx ∧ wx.cell? ⟨w.heap.size, i * 3, none⟩ = some (.string (os i).prj) ∧ wx.cell? ⟨w.heap.size, i * 3 + 1, none⟩ = some (.string (os i).ref) ∧ wx.cell? ⟨w.heap.size, i * 3 + 2, none⟩ = some (.bool (os i).fork) ∧ wx.cell? ⟨w5.heap.size, i, none⟩ = some (.int .i64 (L i)) ∧ wx.cell? ⟨(w5.heap.size + 1), k * 3, none⟩ = some (.string (scpS (os k) (L k)).prj) ∧ wx.cell? ⟨(w5.heap.size + 1), k * 3 + 1, none⟩ = some (.int .i64 (scpS (os k) (L k)).trust) ∧ wx.cell? ⟨(w5.heap.size + 1), k * 3 + 2, none⟩ = some (.string (scpS (os k) (L k)).ref) := ⟨(Below.refl _ _), x0, x1, x2, x3, x4, x5, x6⟩
                        have keepT : ∀ w' w'', (Below wx.heap.size wx w' ∧ w'.cell? ⟨w.heap.size, i * 3, none⟩ = some (.string (os i).prj) ∧ w'.cell? ⟨w.heap.size, i * 3 + 1, none⟩ = some (.string (os i).ref) ∧ w'.cell? ⟨w.heap.size, i * 3 + 2, none⟩ = some (.bool (os i).fork) ∧ w'.cell? ⟨w5.heap.size, i, none⟩ = some (.int .i64 (L i)) ∧ w'.cell? ⟨(w5.heap.size + 1), k * 3, none⟩ = some (.string (scpS (os k) (L k)).prj) ∧ w'.cell? ⟨(w5.heap.size + 1), k * 3 + 1, none⟩ = some (.int .i64 (scpS (os k) (L k)).trust) ∧ w'.cell? ⟨(w5.heap.size + 1), k * 3 + 2, none⟩ = some (.string (scpS (os k) (L k)).ref)) → Below w'.heap.size w' w'' → (Below wx.heap.size wx w'' ∧ w''.cell? ⟨w.heap.size, i * 3, none⟩ = some (.string (os i).prj) ∧ w''.cell? ⟨w.heap.size, i * 3 + 1, none⟩ = some (.string (os i).ref) ∧ w''.cell? ⟨w.heap.size, i * 3 + 2, none⟩ = some (.bool (os i).fork) ∧ w''.cell? ⟨w5.heap.size, i, none⟩ = some (.int .i64 (L i)) ∧ w''.cell? ⟨(w5.heap.size + 1), k * 3, none⟩ = some (.string (scpS (os k) (L k)).prj) ∧ w''.cell? ⟨(w5.heap.size + 1), k * 3 + 1, none⟩ = some (.int .i64 (scpS (os k) (L k)).trust) ∧ w''.cell? ⟨(w5.heap.size + 1), k * 3 + 2, none⟩ = some (.string (scpS (os k) (L k)).ref)) := fun w' w'' h hc => ⟨h.1.trans (hc.mono h.1.size), (hc.cell (p := ⟨w.heap.size, i * 3, none⟩) (by have := h.1.size; dsimp only; omega)).trans h.2.1, (hc.cell (p := ⟨w.heap.size, i * 3 + 1, none⟩) (by have := h.1.size; dsimp only; omega)).trans h.2.2.1, (hc.cell (p := ⟨w.heap.size, i * 3 + 2, none⟩) (by have := h.1.size; dsimp only; omega)).trans h.2.2.2.1, (hc.cell (p := ⟨w5.heap.size, i, none⟩) (by have := h.1.size; dsimp only; omega)).trans h.2.2.2.2.1, (hc.cell (p := ⟨w5.heap.size + 1, k * 3, none⟩) (by have := h.1.size; dsimp only; omega)).trans h.2.2.2.2.2.1, (hc.cell (p := ⟨w5.heap.size + 1, k * 3 + 1, none⟩) (by have := h.1.size; dsimp only; omega)).trans h.2.2.2.2.2.2.1, (hc.cell (p := ⟨w5.heap.size + 1, k * 3 + 2, none⟩) (by have := h.1.size; dsimp only; omega)).trans h.2.2.2.2.2.2.2⟩
                        replace keepT := Lib.hid keepT
                        go_region_held3 (fun w' => Below wx.heap.size wx w' ∧ w'.cell? ⟨w.heap.size, i * 3, none⟩ = some (.string (os i).prj) ∧ w'.cell? ⟨w.heap.size, i * 3 + 1, none⟩ = some (.string (os i).ref) ∧ w'.cell? ⟨w.heap.size, i * 3 + 2, none⟩ = some (.bool (os i).fork) ∧ w'.cell? ⟨w5.heap.size, i, none⟩ = some (.int .i64 (L i)) ∧ w'.cell? ⟨(w5.heap.size + 1), k * 3, none⟩ = some (.string (scpS (os k) (L k)).prj) ∧ w'.cell? ⟨(w5.heap.size + 1), k * 3 + 1, none⟩ = some (.int .i64 (scpS (os k) (L k)).trust) ∧ w'.cell? ⟨(w5.heap.size + 1), k * 3 + 2, none⟩ = some (.string (scpS (os k) (L k)).ref))
                          (first | exact hT | exact hT0 | exact keepT.out _ _ (by assumption) hbq)
                          (first | (go_at_call 17; refine (CM.out _).mono ?_; rintro e w8 ⟨rfl, hbq⟩; dsimp only))
                        have hbx := And.left (by assumption : Below wx.heap.size wx w8 ∧ w8.cell? ⟨w.heap.size, i * 3, none⟩ = some (.string (os i).prj) ∧ w8.cell? ⟨w.heap.size, i * 3 + 1, none⟩ = some (.string (os i).ref) ∧ w8.cell? ⟨w.heap.size, i * 3 + 2, none⟩ = some (.bool (os i).fork) ∧ w8.cell? ⟨w5.heap.size, i, none⟩ = some (.int .i64 (L i)) ∧ w8.cell? ⟨(w5.heap.size + 1), k * 3, none⟩ = some (.string (scpS (os k) (L k)).prj) ∧ w8.cell? ⟨(w5.heap.size + 1), k * 3 + 1, none⟩ = some (.int .i64 (scpS (os k) (L k)).trust) ∧ w8.cell? ⟨(w5.heap.size + 1), k * 3 + 2, none⟩ = some (.string (scpS (os k) (L k)).ref))
                        clear hT hT0 keepT x0 x1 x2 x3 x4 x5 x6
                        obtain ⟨m1, m2, m3⟩ := mayR_parts hm
                        have hb8 := hbz.trans (hbx.mono hbz.size)
                        obtain ⟨x0, x1, x2⟩ := (FO _ hb8) i (by omega)
                        have x3 := (FL _ hb8) i (by omega)
                        obtain ⟨y0, y1, y2⟩ := (FO _ hb8) k (by omega)
                        have y3 := (FL _ hb8) k (by omega)
                        have m2' : ¬ (L k < L i) := by omega
                        have mq : decide (L k < L i) = false := decide_eq_false m2'
                        rcases m3 with m3 | m3
                        · repeat' ((fail_if_success at_builtin); (first | go_skip | go_guarded | go_step))
                          go_quiet (fail)
                          have hbr2 := hb8.trans (Below.mono (Lib_drewN w8 nq) hb8.size)
                          repeat' ((fail_if_success at_builtin); (first | go_skip | go_guarded | go_step))
                          go_roundw
                          case rel => exact ⟨k + 1, by omega, by go_num, hbr2⟩
                          case measure => simp [intOf]; omega
                        · have m5 : (L k != 2) = false := by simp [m3]
                          have m4 : ((os k).ref.toList == (os i).ref.toList) = true ∨ ((os k).ref.toList == (os i).ref.toList) = false := by cases ((os k).ref.toList == (os i).ref.toList) <;> simp
                          clear m3
                          rcases m4 with m4 | m4
                          · clear m5
                            repeat' ((fail_if_success at_builtin); (first | go_skip | go_guarded | go_step))
                            go_quiet (fail)
                            have hbr2 := hb8.trans (Below.mono (Lib_drewN w8 nq) hb8.size)
                            repeat' ((fail_if_success at_builtin); (first | go_skip | go_guarded | go_step))
                            go_roundw
                            case rel => exact ⟨k + 1, by omega, by go_num, hbr2⟩
                            case measure => simp [intOf]; omega
                          · repeat' ((fail_if_success at_builtin); (first | go_skip | go_guarded | go_step))
                            go_quiet (fail)
                            have hbr2 := hb8.trans (Below.mono (Lib_drewN w8 nq) hb8.size)
                            repeat' ((fail_if_success at_builtin); (first | go_skip | go_guarded | go_step))
                            go_roundw
                            case rel => exact ⟨k + 1, by omega, by go_num, hbr2⟩
                            case measure => simp [intOf]; omega
                    · have k1 : ¬ (k : Int) < 3 := by omega
                      clear hkl hk
                      have CM := FM.out i i
                      have hm : mayR (os i) (L i) (scpS (os i) (L i)) = true := mayR_mk (by simp) (hLr.out i) (hLr.out i) (Int.le_refl _) (.inl (by simp))
                      rw [hm] at CM
                      replace CM := Lib.hid CM
                      clear hm
                      repeat' ((fail_if_success at_builtin); (first | go_skip | go_guarded | go_step))
                      obtain ⟨x0, x1, x2⟩ := (FO _ hbz) i (by omega)
                      have x3 := (FL _ hbz) i (by omega)
                      obtain ⟨x4, x5, x6⟩ := (FP _ hbz) i (by omega)
                      have hzb : w5.heap.size + 1 < wx.heap.size := Nat.lt_of_lt_of_le hzz hbz.size
                      have hT : Below wx.heap.size wx wx.drew ∧ wx.drew.cell? ⟨w.heap.size, i * 3, none⟩ = some (.string (os i).prj) ∧ wx.drew.cell? ⟨w.heap.size, i * 3 + 1, none⟩ = some (.string (os i).ref) ∧ wx.drew.cell? ⟨w.heap.size, i * 3 + 2, none⟩ = some (.bool (os i).fork) ∧ wx.drew.cell? ⟨w5.heap.size, i, none⟩ = some (.int .i64 (L i)) ∧ wx.drew.cell? ⟨(w5.heap.size + 1), i * 3, none⟩ = some (.string (scpS (os i) (L i)).prj) ∧ wx.drew.cell? ⟨(w5.heap.size + 1), i * 3 + 1, none⟩ = some (.int .i64 (scpS (os i) (L i)).trust) ∧ wx.drew.cell? ⟨(w5.heap.size + 1), i * 3 + 2, none⟩ = some (.string (scpS (os i) (L i)).ref) := ⟨(Below.refl _ _).drew, x0, x1, x2, x3, x4, x5, x6⟩
                      have hT0 : Below wx.heap.size wx wx ∧ wx.cell? ⟨w.heap.size, i * 3, none⟩ = some (.string (os i).prj) ∧ wx.cell? ⟨w.heap.size, i * 3 + 1, none⟩ = some (.string (os i).ref) ∧ wx.cell? ⟨w.heap.size, i * 3 + 2, none⟩ = some (.bool (os i).fork) ∧ wx.cell? ⟨w5.heap.size, i, none⟩ = some (.int .i64 (L i)) ∧ wx.cell? ⟨(w5.heap.size + 1), i * 3, none⟩ = some (.string (scpS (os i) (L i)).prj) ∧ wx.cell? ⟨(w5.heap.size + 1), i * 3 + 1, none⟩ = some (.int .i64 (scpS (os i) (L i)).trust) ∧ wx.cell? ⟨(w5.heap.size + 1), i * 3 + 2, none⟩ = some (.string (scpS (os i) (L i)).ref) := ⟨(Below.refl _ _), x0, x1, x2, x3, x4, x5, x6⟩
                      have keepT : ∀ w' w'', (Below wx.heap.size wx w' ∧ w'.cell? ⟨w.heap.size, i * 3, none⟩ = some (.string (os i).prj) ∧ w'.cell? ⟨w.heap.size, i * 3 + 1, none⟩ = some (.string (os i).ref) ∧ w'.cell? ⟨w.heap.size, i * 3 + 2, none⟩ = some (.bool (os i).fork) ∧ w'.cell? ⟨w5.heap.size, i, none⟩ = some (.int .i64 (L i)) ∧ w'.cell? ⟨(w5.heap.size + 1), i * 3, none⟩ = some (.string (scpS (os i) (L i)).prj) ∧ w'.cell? ⟨(w5.heap.size + 1), i * 3 + 1, none⟩ = some (.int .i64 (scpS (os i) (L i)).trust) ∧ w'.cell? ⟨(w5.heap.size + 1), i * 3 + 2, none⟩ = some (.string (scpS (os i) (L i)).ref)) → Below w'.heap.size w' w'' → (Below wx.heap.size wx w'' ∧ w''.cell? ⟨w.heap.size, i * 3, none⟩ = some (.string (os i).prj) ∧ w''.cell? ⟨w.heap.size, i * 3 + 1, none⟩ = some (.string (os i).ref) ∧ w''.cell? ⟨w.heap.size, i * 3 + 2, none⟩ = some (.bool (os i).fork) ∧ w''.cell? ⟨w5.heap.size, i, none⟩ = some (.int .i64 (L i)) ∧ w''.cell? ⟨(w5.heap.size + 1), i * 3, none⟩ = some (.string (scpS (os i) (L i)).prj) ∧ w''.cell? ⟨(w5.heap.size + 1), i * 3 + 1, none⟩ = some (.int .i64 (scpS (os i) (L i)).trust) ∧ w''.cell? ⟨(w5.heap.size + 1), i * 3 + 2, none⟩ = some (.string (scpS (os i) (L i)).ref)) := fun w' w'' h hc => ⟨h.1.trans (hc.mono h.1.size), (hc.cell (p := ⟨w.heap.size, i * 3, none⟩) (by have := h.1.size; dsimp only; omega)).trans h.2.1, (hc.cell (p := ⟨w.heap.size, i * 3 + 1, none⟩) (by have := h.1.size; dsimp only; omega)).trans h.2.2.1, (hc.cell (p := ⟨w.heap.size, i * 3 + 2, none⟩) (by have := h.1.size; dsimp only; omega)).trans h.2.2.2.1, (hc.cell (p := ⟨w5.heap.size, i, none⟩) (by have := h.1.size; dsimp only; omega)).trans h.2.2.2.2.1, (hc.cell (p := ⟨w5.heap.size + 1, i * 3, none⟩) (by have := h.1.size; dsimp only; omega)).trans h.2.2.2.2.2.1, (hc.cell (p := ⟨w5.heap.size + 1, i * 3 + 1, none⟩) (by have := h.1.size; dsimp only; omega)).trans h.2.2.2.2.2.2.1, (hc.cell (p := ⟨w5.heap.size + 1, i * 3 + 2, none⟩) (by have := h.1.size; dsimp only; omega)).trans h.2.2.2.2.2.2.2⟩
                      replace keepT := Lib.hid keepT
                      go_region_held3 (fun w' => Below wx.heap.size wx w' ∧ w'.cell? ⟨w.heap.size, i * 3, none⟩ = some (.string (os i).prj) ∧ w'.cell? ⟨w.heap.size, i * 3 + 1, none⟩ = some (.string (os i).ref) ∧ w'.cell? ⟨w.heap.size, i * 3 + 2, none⟩ = some (.bool (os i).fork) ∧ w'.cell? ⟨w5.heap.size, i, none⟩ = some (.int .i64 (L i)) ∧ w'.cell? ⟨(w5.heap.size + 1), i * 3, none⟩ = some (.string (scpS (os i) (L i)).prj) ∧ w'.cell? ⟨(w5.heap.size + 1), i * 3 + 1, none⟩ = some (.int .i64 (scpS (os i) (L i)).trust) ∧ w'.cell? ⟨(w5.heap.size + 1), i * 3 + 2, none⟩ = some (.string (scpS (os i) (L i)).ref))
                        (first | exact hT | exact hT0 | exact keepT.out _ _ (by assumption) hbq)
                        (first | (go_at_call 17; refine (CM.out _).mono ?_; rintro e w8 ⟨rfl, hbq⟩; dsimp only))
                      have hbx := And.left (by assumption : Below wx.heap.size wx w8 ∧ w8.cell? ⟨w.heap.size, i * 3, none⟩ = some (.string (os i).prj) ∧ w8.cell? ⟨w.heap.size, i * 3 + 1, none⟩ = some (.string (os i).ref) ∧ w8.cell? ⟨w.heap.size, i * 3 + 2, none⟩ = some (.bool (os i).fork) ∧ w8.cell? ⟨w5.heap.size, i, none⟩ = some (.int .i64 (L i)) ∧ w8.cell? ⟨(w5.heap.size + 1), i * 3, none⟩ = some (.string (scpS (os i) (L i)).prj) ∧ w8.cell? ⟨(w5.heap.size + 1), i * 3 + 1, none⟩ = some (.int .i64 (scpS (os i) (L i)).trust) ∧ w8.cell? ⟨(w5.heap.size + 1), i * 3 + 2, none⟩ = some (.string (scpS (os i) (L i)).ref))
                      clear hT hT0 keepT x0 x1 x2 x3 x4 x5 x6
                      repeat' ((fail_if_success at_builtin); (first | go_skip | go_guarded | go_step))
                      go_roundw
                      case rel => exact ⟨i + 1, by omega, by go_num, hbz.trans (hbx.mono hbz.size)⟩
                      case measure => simp [intOf]; omega
                · have i1 : ¬ (i : Int) < 3 := by omega
                  clear hlt hi
                  obtain ⟨wx, hwx⟩ : ∃ wx : World, wx = wr := ⟨wr, rfl⟩
                  subst hwx
                  have hmt : mayR (os 1) (L 1) (scpS (os 0) (L 0)) = true → mayR (os 2) (L 2) (scpS (os 1) (L 1)) = true → ¬ L 0 < L 2 ∧ ((os 0).prj.toList == (os 2).prj.toList) = true ∧ (((os 2).ref.toList == (os 0).ref.toList) = true ∨ L 0 = 2 → mayR (os 2) (L 2) (scpS (os 0) (L 0)) = true) := by
                    intro h1 h2
                    obtain ⟨p1, p2, p3⟩ := mayR_parts h1
                    obtain ⟨r1, r2, r3⟩ := mayR_parts h2
                    have e1 : (os 0).prj.toList = (os 1).prj.toList := by simpa using p1
                    have e2 : (os 1).prj.toList = (os 2).prj.toList := by simpa using r1
                    have e3 : ((os 0).prj.toList == (os 2).prj.toList) = true := by simp [e1, e2]
                    refine ⟨by omega, e3, fun h => mayR_mk e3 (hLr.out 0) (hLr.out 2) (by omega) ?_⟩
                    rcases h with h | h
                    · left
                      have : (os 2).ref.toList = (os 0).ref.toList := by simpa using h
                      simp [this]
                    · exact .inr h
                  have F10 := FM.out 1 0
                  have F21 := FM.out 2 1
                  have F20 := FM.out 2 0
                  generalize mayR (os 1) (L 1) (scpS (os 0) (L 0)) = b10 at *
                  generalize mayR (os 2) (L 2) (scpS (os 1) (L 1)) = b21 at *
                  generalize mayR (os 2) (L 2) (scpS (os 0) (L 0)) = b20 at *
                  replace F10 := Lib.hid F10
                  replace F21 := Lib.hid F21
                  replace F20 := Lib.hid F20
                  replace hmt := Lib.hid hmt
                  obtain ⟨o0, o1, o2⟩ := (FO _ hbz) 0 (by omega)
                  obtain ⟨a0, a1, a2⟩ := (FO _ hbz) 1 (by omega)
                  obtain ⟨c0, c1, c2⟩ := (FO _ hbz) 2 (by omega)
                  have l0 := (FL _ hbz) 0 (by omega)
                  have l1 := (FL _ hbz) 1 (by omega)
                  have l2 := (FL _ hbz) 2 (by omega)
                  obtain ⟨s0, s1, s2⟩ := (FP _ hbz) 0 (by omega)
                  obtain ⟨t0, t1, t2⟩ := (FP _ hbz) 1 (by omega)
                  simp only [Nat.zero_mul, Nat.one_mul, Nat.zero_add, Nat.reduceMul, Nat.reduceAdd] at o0 o1 o2 a0 a1 a2 c0 c1 c2 s0 s1 s2 t0 t1 t2
                  repeat' ((fail_if_success at_builtin); (first | go_skip | go_guarded | go_step))
                  refine (F10.out _).mono ?_
                  rintro e w8 ⟨rfl, hbq⟩
                  have hb8 := hbz.trans (hbq.mono hbz.size)
                  clear hbq
                  dsimp only
                  clear o0 o1 o2 a0 a1 a2 c0 c1 c2 l0 l1 l2 s0 s1 s2 t0 t1 t2
                  obtain ⟨o0, o1, o2⟩ := (FO _ hb8) 0 (by omega)
                  obtain ⟨a0, a1, a2⟩ := (FO _ hb8) 1 (by omega)
                  obtain ⟨c0, c1, c2⟩ := (FO _ hb8) 2 (by omega)
                  have l0 := (FL _ hb8) 0 (by omega)
                  have l1 := (FL _ hb8) 1 (by omega)
                  have l2 := (FL _ hb8) 2 (by omega)
                  obtain ⟨s0, s1, s2⟩ := (FP _ hb8) 0 (by omega)
                  obtain ⟨t0, t1, t2⟩ := (FP _ hb8) 1 (by omega)
                  simp only [Nat.zero_mul, Nat.one_mul, Nat.zero_add, Nat.reduceMul, Nat.reduceAdd] at o0 o1 o2 a0 a1 a2 c0 c1 c2 s0 s1 s2 t0 t1 t2
                  have hk8 := hkr.trans (hb8.mono hkr.size)
                  cases b10 with
                  | false =>
                    have q1 : ((os 2).ref.toList == (os 0).ref.toList) = true ∨ ((os 2).ref.toList == (os 0).ref.toList) = false := by cases ((os 2).ref.toList == (os 0).ref.toList) <;> simp
                    rcases q1 with q1 | q1
                    · repeat' ((fail_if_success at_builtin); (first | go_skip | go_guarded | go_step))
                      refine (CA.out _ hk8).mono ?_
                      rintro e w9 ⟨rfl, hb9⟩
                      dsimp only
                      repeat' ((fail_if_success at_builtin); (first | go_skip | go_guarded | go_step))
                      go_ret
                      exact ⟨rfl, hb1.trans ((hk8.trans (hb9.mono hk8.size)).mono hb1.size)⟩
                    · repeat' ((fail_if_success at_builtin); (first | go_skip | go_guarded | go_step))
                      refine (CA.out _ hk8).mono ?_
                      rintro e w9 ⟨rfl, hb9⟩
                      dsimp only
                      repeat' ((fail_if_success at_builtin); (first | go_skip | go_guarded | go_step))
                      go_ret
                      exact ⟨rfl, hb1.trans ((hk8.trans (hb9.mono hk8.size)).mono hb1.size)⟩
                  | true =>
                    repeat' ((fail_if_success at_builtin); (first | go_skip | go_guarded | go_step))
                    refine (F21.out _).mono ?_
                    rintro e w11 ⟨rfl, hbq⟩
                    have hb11 := hb8.trans (hbq.mono hb8.size)
                    clear hbq
                    dsimp only
                    clear o0 o1 o2 a0 a1 a2 c0 c1 c2 l0 l1 l2 s0 s1 s2 t0 t1 t2
                    obtain ⟨o0, o1, o2⟩ := (FO _ hb11) 0 (by omega)
                    obtain ⟨a0, a1, a2⟩ := (FO _ hb11) 1 (by omega)
                    obtain ⟨c0, c1, c2⟩ := (FO _ hb11) 2 (by omega)
                    have l0 := (FL _ hb11) 0 (by omega)
                    have l1 := (FL _ hb11) 1 (by omega)
                    have l2 := (FL _ hb11) 2 (by omega)
                    obtain ⟨s0, s1, s2⟩ := (FP _ hb11) 0 (by omega)
                    obtain ⟨t0, t1, t2⟩ := (FP _ hb11) 1 (by omega)
                    simp only [Nat.zero_mul, Nat.one_mul, Nat.zero_add, Nat.reduceMul, Nat.reduceAdd] at o0 o1 o2 a0 a1 a2 c0 c1 c2 s0 s1 s2 t0 t1 t2
                    have hk11 := hkr.trans (hb11.mono hkr.size)
                    have q1 : ((os 2).ref.toList == (os 0).ref.toList) = true ∨ ((os 2).ref.toList == (os 0).ref.toList) = false := by cases ((os 2).ref.toList == (os 0).ref.toList) <;> simp
                    cases b21 with
                    | false =>
                      rcases q1 with q1 | q1
                      · repeat' ((fail_if_success at_builtin); (first | go_skip | go_guarded | go_step))
                        refine (CA.out _ hk11).mono ?_
                        rintro e w9 ⟨rfl, hb9⟩
                        dsimp only
                        repeat' ((fail_if_success at_builtin); (first | go_skip | go_guarded | go_step))
                        go_ret
                        exact ⟨rfl, hb1.trans ((hk11.trans (hb9.mono hk11.size)).mono hb1.size)⟩
                      · repeat' ((fail_if_success at_builtin); (first | go_skip | go_guarded | go_step))
                        refine (CA.out _ hk11).mono ?_
                        rintro e w9 ⟨rfl, hb9⟩
                        dsimp only
                        repeat' ((fail_if_success at_builtin); (first | go_skip | go_guarded | go_step))
                        go_ret
                        exact ⟨rfl, hb1.trans ((hk11.trans (hb9.mono hk11.size)).mono hb1.size)⟩
                    | true =>
                      obtain ⟨n1, n2, n3⟩ := hmt.out rfl rfl
                      have n1' : decide (L 0 < L 2) = false := decide_eq_false n1
                      rcases q1 with q1 | q1
                      · have e20 := n3 (.inl q1)
                        subst e20
                        clear n3
                        repeat' ((fail_if_success at_builtin); (first | go_skip | go_guarded | go_step))
                        refine (F20.out _).mono ?_
                        rintro e w12 ⟨rfl, hbq⟩
                        have hk12 := hk11.trans (hbq.mono hk11.size)
                        dsimp only
                        repeat' ((fail_if_success at_builtin); (first | go_skip | go_guarded | go_step))
                        refine (CA.out _ hk12).mono ?_
                        rintro e w9 ⟨rfl, hb9⟩
                        dsimp only
                        repeat' ((fail_if_success at_builtin); (first | go_skip | go_guarded | go_step))
                        go_ret
                        exact ⟨rfl, hb1.trans ((hk12.trans (hb9.mono hk12.size)).mono hb1.size)⟩
                      · by_cases h2 : L 0 = 2
                        · have e20 := n3 (.inr h2)
                          subst e20
                          have h2' : (L 0 == 2) = true := by simp [h2]
                          clear n3 h2
                          repeat' ((fail_if_success at_builtin); (first | go_skip | go_guarded | go_step))
                          refine (F20.out _).mono ?_
                          rintro e w12 ⟨rfl, hbq⟩
                          have hk12 := hk11.trans (hbq.mono hk11.size)
                          dsimp only
                          repeat' ((fail_if_success at_builtin); (first | go_skip | go_guarded | go_step))
                          refine (CA.out _ hk12).mono ?_
                          rintro e w9 ⟨rfl, hb9⟩
                          dsimp only
                          repeat' ((fail_if_success at_builtin); (first | go_skip | go_guarded | go_step))
                          go_ret
                          exact ⟨rfl, hb1.trans ((hk12.trans (hb9.mono hk12.size)).mono hb1.size)⟩
                        · have h2' : (L 0 == 2) = false := by simp [h2]
                          clear n3 h2
                          repeat' ((fail_if_success at_builtin); (first | go_skip | go_guarded | go_step))
                          refine (CA.out _ hk11).mono ?_
                          rintro e w9 ⟨rfl, hb9⟩
                          dsimp only
                          repeat' ((fail_if_success at_builtin); (first | go_skip | go_guarded | go_step))
                          go_ret
                          exact ⟨rfl, hb1.trans ((hk11.trans (hb9.mono hk11.size)).mono hb1.size)⟩
end Go.Proofs.YtlpeblgcniggmaaDoor
