/- Cache: Valid: the document's walk. -/
import Derived.Test.YtpdlapdnjmoaoaaDoorCaV
namespace Go.Proofs.YtpdlapdnjmoaoaaDoor
open Go.RowKit
theorem any_take (f : Ent → Bool) : ∀ (l : List Ent) (i : Nat), i ≤ l.length → (l.take i).any f = decide (posE f l < i)
  | l, 0, _ => by simp
  | [], i + 1, h => by simp at h
  | x :: l, i + 1, h => by
    rw [List.take_succ_cons, List.any_cons, posE]
    cases hx : f x with
    | true => simp
    | false =>
      rw [any_take f l i (by simpa using h), Bool.false_or]
      simp
theorem posE_at (f : Ent → Bool) : ∀ (l : List Ent) (i : Nat) (x : Ent), l[i]? = some x → f x = true → posE f l ≤ i
  | [], i, x, h, _ => by simp at h
  | y :: l, 0, x, h, hf => by
    simp only [List.getElem?_cons_zero, Option.some.injEq] at h
    subst h
    rw [posE, if_pos hf]
    exact Nat.le_refl _
  | y :: l, i + 1, x, h, hf => by
    have := posE_at f l i x (by simpa using h) hf
    unfold posE
    split <;> omega
theorem hitE_self (x : Ent) : hitE x.sc x.key x = true := by
  unfold hitE
  rw [sameP_self]
  simp
/-- the first with a name of its own: it is the entry itself just if no earlier one has the name -/
theorem find_self {l : List Ent} {i : Nat} {x : Ent} (hx : l[i]? = some x) : ∃ m : Nat, findI x.sc x.key l = (m : Int) ∧ (l.take i).any (hitE x.sc x.key) = decide (m ≠ i) := by
  have hi := (List.getElem?_eq_some_iff.1 hx).1
  have h := posE_at _ l i x hx (hitE_self x)
  refine ⟨posE (hitE x.sc x.key) l, ?_, ?_⟩
  · unfold findI
    rw [if_pos (by omega)]
  · rw [any_take _ l i (by omega)]
    exact decide_eq_decide.2 ⟨fun h2 => by omega, fun h2 => by omega⟩
set_option maxRecDepth 100000 in
set_option maxHeartbeats 8000000 in
theorem refValid_any (z : Int) (l : List Ent) (A : Option Addr) (n c : Nat) (w : World) (hn : n = l.length) (hs : Seq w w.heap.size 8 A n (entsC l)) (hl : n ≤ 1000000000) (hf : ∀ x ∈ l, x.fit) :
    Calls Tryd.prog 12 #[cval z A n c] w fun e w' => e = .returned (.int .i64 (errV z l)) ∧ Below w.heap.size w w' := by
  have hb0 := (Below.refl w.heap.size w).alloc (Nat.le_refl _) (.cells #[.int .i64 z, .slice A n c] 24)
  replace hf := Lib.hid hf
  replace hs := Lib.hid hs
  have hn2 := Lib.hid hn
  by_cases hz : inR z 0 1099511627776 = true
  · by_cases hl2 : n ≤ 1024
    · have hl3 : ¬ (1024 : Int) < (n : Int) := by omega
      have hval : validS z l = (allGood l && decide (usedS l ≤ z)) := by unfold validS; rw [hz, decide_eq_true (by omega : l.length ≤ 1024)]; rfl
      replace hval := Lib.hid hval
      clear hn
      go_enter Tryd.func12, Tryd.ntmps12
      repeat' ((fail_if_success at_builtin); (first | go_skip | go_guarded | go_step))
      refine (inside_any _ _ _ _).mono ?_
      rintro e w1 ⟨rfl, rfl⟩
      dsimp only
      rw [hz]
      repeat' ((fail_if_success at_builtin); (first | go_skip | go_guarded | go_step))
      have p0 : (w.alloc (.cells #[.int .i64 z, .slice A n c] 24)).cell? ⟨w.heap.size, 0, none⟩ = some (.int .i64 z) := by simp [go_sem]
      have p1 : (w.alloc (.cells #[.int .i64 z, .slice A n c] 24)).cell? ⟨w.heap.size, 1, none⟩ = some (.slice A n c) := by simp [go_sem]
      have hsz2 : (w.alloc (.cells #[.int .i64 z, .slice A n c] 24)).heap.size = w.heap.size + 1 := by simp
      generalize World.alloc w _ = w1 at *
      go_loopw [3] (fun u3 wr => ∃ i : Nat, i ≤ n ∧ u3 = .int .i64 (i : Int) ∧ GoodTo l i ∧ Below w.heap.size w wr ∧ Below w1.heap.size w1 wr) (fun u3 _ => n - (intOf u3).toNat)
      case atStart => exact ⟨0, by omega, rfl, fun j x hj => by omega, hb0, Below.refl _ _⟩
      case round =>
        obtain ⟨i, hi, rfl, hgood, hbr, hw1r⟩ := hrel
        have hsr := hw1r.size
        have q0 := (hw1r.cell (p := ⟨w.heap.size, 0, none⟩) (by show w.heap.size < _; omega)).trans p0
        have q1 := (hw1r.cell (p := ⟨w.heap.size, 1, none⟩) (by show w.heap.size < _; omega)).trans p1
        have l0 : w.heap.size < wr.heap.size := by omega
        by_cases hlt : i < n
        · have hlt2 : i < l.length := by have := hn2.out; omega
          have hx : l[i]? = some l[i] := List.getElem?_eq_getElem hlt2
          obtain ⟨b, o, rfl, hbB, hc⟩ := ent_at hs.out hn2.out hx
          have hc := hc.map (fun j => hbr.cell (p := ⟨b, o + i * 8 + j, none⟩) hbB)
          have hxf := hf.out _ (List.getElem_mem hlt2)
          obtain ⟨m, hfi, hany⟩ := find_self hx
          generalize l[i] = x at *
          obtain ⟨c0, c1, c2, c3, c4, c5, c6, c7⟩ := hc
          have i0 : (0 : Int) ≤ (i : Int) := by omega
          have i1 : (i : Int) < (n : Int) := by omega
          have i2 : IntKind.i64.wrap ((i : Int) + 1) = (i : Int) + 1 := IntWalk.i64_in _ (by omega)
          have hga : goodAt l i x = (rightS x && !decide (m ≠ i) && prevOk l i x) := by rw [← hany]; rfl
          replace hga := Lib.hid hga
          replace hgood := Lib.hid hgood
          replace hx := Lib.hid hx
          clear hany
          repeat' ((fail_if_success at_builtin); (first | go_skip | go_guarded | go_step))
          generalize hw8 : World.alloc wr _ = w8
          have hbw : Below wr.heap.size wr w8 := by rw [← hw8]; exact (Below.refl _ _).alloc (Nat.le_refl _) _
          have e0 : w8.cell? ⟨wr.heap.size, 0, none⟩ = some (.string x.sc.prj) := by rw [← hw8]; simp [go_sem]
          have e1 : w8.cell? ⟨wr.heap.size, 1, none⟩ = some (.int .i64 x.sc.trust) := by rw [← hw8]; simp [go_sem]
          have e2 : w8.cell? ⟨wr.heap.size, 2, none⟩ = some (.string x.sc.ref) := by rw [← hw8]; simp [go_sem]
          have e3 : w8.cell? ⟨wr.heap.size, 3, none⟩ = some (.string x.key) := by rw [← hw8]; simp [go_sem]
          have e4 : w8.cell? ⟨wr.heap.size, 4, none⟩ = some (.int .u64 x.dig) := by rw [← hw8]; simp [go_sem]
          have e5 : w8.cell? ⟨wr.heap.size, 5, none⟩ = some (.int .i64 x.size) := by rw [← hw8]; simp [go_sem]
          have e6 : w8.cell? ⟨wr.heap.size, 6, none⟩ = some (.int .i64 x.created) := by rw [← hw8]; simp [go_sem]
          have e7 : w8.cell? ⟨wr.heap.size, 7, none⟩ = some (.int .i64 x.used) := by rw [← hw8]; simp [go_sem]
          have hz8 : w8.heap.size = wr.heap.size + 1 := by rw [← hw8]; simp
          clear hw8
          have hb8 := hbr.trans (hbw.mono hbr.size)
          have hw18 := hw1r.trans (hbw.mono hw1r.size)
          have le : wr.heap.size < w8.heap.size := by omega
          have l1 : w.heap.size < w8.heap.size := by omega
          replace q1 := (hbw.cell (p := ⟨w.heap.size, 1, none⟩) l0).trans q1
          have CN := fun (w' : World) (h : Below w8.heap.size w8 w') => right_any x w' hxf.p hxf.r
          have CF : ∀ (w' : World) (h : Below w8.heap.size w8 w'), Calls Tryd.prog 32 #[.slice (some ⟨b, o, none⟩) n c, .agg (pcells x.sc), .string x.key] w' fun e w2 => e = .returned (.int .i64 (m : Int)) ∧ Below w'.heap.size w' w2 := fun w' h => by
            rw [← hfi]
            exact refFind_any x.sc x.key l (some ⟨b, o, none⟩) n c w' hn2.out ((hs.out.below (hb8.trans (h.mono hb8.size))).more (Nat.le_trans hb8.size h.size)) (by omega)
          clear c0 c1 c2 c3 c4 c5 c6 c7 hbr hfi hw1r
          cases hN : rightS x with
          | false =>
            have hbad : errV z l = 1 := errV_bad (validS_bad hx.out (by rw [hga.out, hN]; simp))
            replace hbad := Lib.hid hbad
            have hS : ∀ w', Below w8.heap.size w8 w' → Below w8.heap.size w8 w' ∧ w'.cell? ⟨wr.heap.size, 0, none⟩ = some (.string x.sc.prj) ∧ w'.cell? ⟨wr.heap.size, 1, none⟩ = some (.int .i64 x.sc.trust) ∧ w'.cell? ⟨wr.heap.size, 2, none⟩ = some (.string x.sc.ref) ∧ w'.cell? ⟨wr.heap.size, 3, none⟩ = some (.string x.key) ∧ w'.cell? ⟨wr.heap.size, 4, none⟩ = some (.int .u64 x.dig) ∧ w'.cell? ⟨wr.heap.size, 5, none⟩ = some (.int .i64 x.size) ∧ w'.cell? ⟨wr.heap.size, 6, none⟩ = some (.int .i64 x.created) ∧ w'.cell? ⟨wr.heap.size, 7, none⟩ = some (.int .i64 x.used) ∧ w'.cell? ⟨w.heap.size, 1, none⟩ = some (.slice (some ⟨b, o, none⟩) n c) := fun w' hb => ⟨hb, (hb.cell (p := ⟨wr.heap.size, 0, none⟩) le).trans e0, (hb.cell (p := ⟨wr.heap.size, 1, none⟩) le).trans e1, (hb.cell (p := ⟨wr.heap.size, 2, none⟩) le).trans e2, (hb.cell (p := ⟨wr.heap.size, 3, none⟩) le).trans e3, (hb.cell (p := ⟨wr.heap.size, 4, none⟩) le).trans e4, (hb.cell (p := ⟨wr.heap.size, 5, none⟩) le).trans e5, (hb.cell (p := ⟨wr.heap.size, 6, none⟩) le).trans e6, (hb.cell (p := ⟨wr.heap.size, 7, none⟩) le).trans e7, (hb.cell (p := ⟨w.heap.size, 1, none⟩) l1).trans q1⟩
            have keepS : ∀ w' w'', (Below w8.heap.size w8 w' ∧ w'.cell? ⟨wr.heap.size, 0, none⟩ = some (.string x.sc.prj) ∧ w'.cell? ⟨wr.heap.size, 1, none⟩ = some (.int .i64 x.sc.trust) ∧ w'.cell? ⟨wr.heap.size, 2, none⟩ = some (.string x.sc.ref) ∧ w'.cell? ⟨wr.heap.size, 3, none⟩ = some (.string x.key) ∧ w'.cell? ⟨wr.heap.size, 4, none⟩ = some (.int .u64 x.dig) ∧ w'.cell? ⟨wr.heap.size, 5, none⟩ = some (.int .i64 x.size) ∧ w'.cell? ⟨wr.heap.size, 6, none⟩ = some (.int .i64 x.created) ∧ w'.cell? ⟨wr.heap.size, 7, none⟩ = some (.int .i64 x.used) ∧ w'.cell? ⟨w.heap.size, 1, none⟩ = some (.slice (some ⟨b, o, none⟩) n c)) → Below w'.heap.size w' w'' → (Below w8.heap.size w8 w'' ∧ w''.cell? ⟨wr.heap.size, 0, none⟩ = some (.string x.sc.prj) ∧ w''.cell? ⟨wr.heap.size, 1, none⟩ = some (.int .i64 x.sc.trust) ∧ w''.cell? ⟨wr.heap.size, 2, none⟩ = some (.string x.sc.ref) ∧ w''.cell? ⟨wr.heap.size, 3, none⟩ = some (.string x.key) ∧ w''.cell? ⟨wr.heap.size, 4, none⟩ = some (.int .u64 x.dig) ∧ w''.cell? ⟨wr.heap.size, 5, none⟩ = some (.int .i64 x.size) ∧ w''.cell? ⟨wr.heap.size, 6, none⟩ = some (.int .i64 x.created) ∧ w''.cell? ⟨wr.heap.size, 7, none⟩ = some (.int .i64 x.used) ∧ w''.cell? ⟨w.heap.size, 1, none⟩ = some (.slice (some ⟨b, o, none⟩) n c)) := fun w' w'' h hc => hS w'' (h.1.trans (hc.mono h.1.size))
            have CN2 := fun w' (h : Below w8.heap.size w8 w' ∧ w'.cell? ⟨wr.heap.size, 0, none⟩ = some (.string x.sc.prj) ∧ w'.cell? ⟨wr.heap.size, 1, none⟩ = some (.int .i64 x.sc.trust) ∧ w'.cell? ⟨wr.heap.size, 2, none⟩ = some (.string x.sc.ref) ∧ w'.cell? ⟨wr.heap.size, 3, none⟩ = some (.string x.key) ∧ w'.cell? ⟨wr.heap.size, 4, none⟩ = some (.int .u64 x.dig) ∧ w'.cell? ⟨wr.heap.size, 5, none⟩ = some (.int .i64 x.size) ∧ w'.cell? ⟨wr.heap.size, 6, none⟩ = some (.int .i64 x.created) ∧ w'.cell? ⟨wr.heap.size, 7, none⟩ = some (.int .i64 x.used) ∧ w'.cell? ⟨w.heap.size, 1, none⟩ = some (.slice (some ⟨b, o, none⟩) n c)) => CN w' h.1
            have CF2 := fun w' (h : Below w8.heap.size w8 w' ∧ w'.cell? ⟨wr.heap.size, 0, none⟩ = some (.string x.sc.prj) ∧ w'.cell? ⟨wr.heap.size, 1, none⟩ = some (.int .i64 x.sc.trust) ∧ w'.cell? ⟨wr.heap.size, 2, none⟩ = some (.string x.sc.ref) ∧ w'.cell? ⟨wr.heap.size, 3, none⟩ = some (.string x.key) ∧ w'.cell? ⟨wr.heap.size, 4, none⟩ = some (.int .u64 x.dig) ∧ w'.cell? ⟨wr.heap.size, 5, none⟩ = some (.int .i64 x.size) ∧ w'.cell? ⟨wr.heap.size, 6, none⟩ = some (.int .i64 x.created) ∧ w'.cell? ⟨wr.heap.size, 7, none⟩ = some (.int .i64 x.used) ∧ w'.cell? ⟨w.heap.size, 1, none⟩ = some (.slice (some ⟨b, o, none⟩) n c)) => CF w' h.1
            have hS1 : Below w8.heap.size w8 w8.drew ∧ w8.drew.cell? ⟨wr.heap.size, 0, none⟩ = some (.string x.sc.prj) ∧ w8.drew.cell? ⟨wr.heap.size, 1, none⟩ = some (.int .i64 x.sc.trust) ∧ w8.drew.cell? ⟨wr.heap.size, 2, none⟩ = some (.string x.sc.ref) ∧ w8.drew.cell? ⟨wr.heap.size, 3, none⟩ = some (.string x.key) ∧ w8.drew.cell? ⟨wr.heap.size, 4, none⟩ = some (.int .u64 x.dig) ∧ w8.drew.cell? ⟨wr.heap.size, 5, none⟩ = some (.int .i64 x.size) ∧ w8.drew.cell? ⟨wr.heap.size, 6, none⟩ = some (.int .i64 x.created) ∧ w8.drew.cell? ⟨wr.heap.size, 7, none⟩ = some (.int .i64 x.used) ∧ w8.drew.cell? ⟨w.heap.size, 1, none⟩ = some (.slice (some ⟨b, o, none⟩) n c) := hS w8.drew (Below.refl _ _).drew
            replace keepS := Lib.hid keepS
            replace CN2 := Lib.hid CN2
            replace CF2 := Lib.hid CF2
            clear hS
            refine wp_region_held_drew (S := fun w' => Below w8.heap.size w8 w' ∧ w'.cell? ⟨wr.heap.size, 0, none⟩ = some (.string x.sc.prj) ∧ w'.cell? ⟨wr.heap.size, 1, none⟩ = some (.int .i64 x.sc.trust) ∧ w'.cell? ⟨wr.heap.size, 2, none⟩ = some (.string x.sc.ref) ∧ w'.cell? ⟨wr.heap.size, 3, none⟩ = some (.string x.key) ∧ w'.cell? ⟨wr.heap.size, 4, none⟩ = some (.int .u64 x.dig) ∧ w'.cell? ⟨wr.heap.size, 5, none⟩ = some (.int .i64 x.size) ∧ w'.cell? ⟨wr.heap.size, 6, none⟩ = some (.int .i64 x.created) ∧ w'.cell? ⟨wr.heap.size, 7, none⟩ = some (.int .i64 x.used) ∧ w'.cell? ⟨w.heap.size, 1, none⟩ = some (.slice (some ⟨b, o, none⟩) n c)) (by kernel_rfl) ?_ (fun hHeld => ?_)
            · (try dsimp only)
              exact hS1
            refine wpAnyH_take (i := 0) (v := ?v205) rfl (by kernel_rfl) (by kernel_rfl) (by kernel_rfl) (fun _ _ _ h => h) (Or.inl ⟨by rfl, ?hy205⟩) (by assumption) ?rest205
            case hy205 => (intro w hSw; (try dsimp only at hSw); go_simp; try with_reducible rfl)
            simp only [Act.put, List.getElem_toArray, List.getElem_cons_zero, List.setIfInBounds_toArray, List.set_cons_zero, List.set_cons_succ]
            refine wpAnyH_ready (rs := [1]) (by kernel_rfl) (by simp) ?_
            refine AllReadyH.cons rfl (fun K hK => ?_) AllReadyH.nil
            go_simp
            go_at_call 38
            refine (CN2.out _ (by assumption)).mono ?_
            rintro e w7 ⟨rfl, hbq⟩
            dsimp only
            simp only [hN]
            refine hK.out _ _ ?_ (fun hHeld => ?_)
            · (try dsimp only)
              exact keepS.out _ _ (by assumption) hbq
            clear hK K
            try simp only [Act.put, List.getElem_toArray, List.getElem_cons_zero, List.getElem_cons_succ, List.setIfInBounds_toArray, List.set_cons_zero, List.set_cons_succ]
            refine wpAnyH_take (i := 2) (v := ?v206) rfl (by kernel_rfl) (by kernel_rfl) (by kernel_rfl) (fun _ _ _ h => h) (Or.inl ⟨by rfl, ?hy206⟩) (by assumption) ?rest206
            case hy206 => (intro w hSw; (try dsimp only at hSw); go_simp; try with_reducible rfl)
            simp only [Act.put, List.getElem_toArray, List.getElem_cons_zero, List.getElem_cons_succ, List.setIfInBounds_toArray, List.set_cons_zero, List.set_cons_succ]
            refine wpAnyH_take (i := 3) (v := ?v207) rfl (by kernel_rfl) (by kernel_rfl) (by kernel_rfl) (fun _ _ _ h => h) (Or.inl ⟨by rfl, ?hy207⟩) (by assumption) ?rest207
            case hy207 => (intro w hSw; (try dsimp only at hSw); go_simp; try with_reducible rfl)
            simp only [Act.put, List.getElem_toArray, List.getElem_cons_zero, List.getElem_cons_succ, List.setIfInBounds_toArray, List.set_cons_zero, List.set_cons_succ]
            refine wpAnyH_take (i := 4) (v := undef) rfl (by kernel_rfl) (by kernel_rfl) (by kernel_rfl) (fun _ _ _ h => h) (Or.inr ⟨by rfl, rfl⟩) (by assumption) ?_
            simp only [Act.put, List.getElem_toArray, List.getElem_cons_zero, List.getElem_cons_succ, List.setIfInBounds_toArray, List.set_cons_zero, List.set_cons_succ]
            refine wpAnyH_take (i := 5) (v := undef) rfl (by kernel_rfl) (by kernel_rfl) (by kernel_rfl) (fun _ _ _ h => h) (Or.inr ⟨by rfl, rfl⟩) (by assumption) ?_
            simp only [Act.put, List.getElem_toArray, List.getElem_cons_zero, List.getElem_cons_succ, List.setIfInBounds_toArray, List.set_cons_zero, List.set_cons_succ]
            refine wpAnyH_take (i := 6) (v := undef) rfl (by kernel_rfl) (by kernel_rfl) (by kernel_rfl) (fun _ _ _ h => h) (Or.inr ⟨by rfl, rfl⟩) (by assumption) ?_
            simp only [Act.put, List.getElem_toArray, List.getElem_cons_zero, List.getElem_cons_succ, List.setIfInBounds_toArray, List.set_cons_zero, List.set_cons_succ]
            refine wpAnyH_take (i := 7) (v := undef) rfl (by kernel_rfl) (by kernel_rfl) (by kernel_rfl) (fun _ _ _ h => h) (Or.inr ⟨by rfl, rfl⟩) (by assumption) ?_
            simp only [Act.put, List.getElem_toArray, List.getElem_cons_zero, List.getElem_cons_succ, List.setIfInBounds_toArray, List.set_cons_zero, List.set_cons_succ]
            refine wpAnyH_take (i := 8) (v := undef) rfl (by kernel_rfl) (by kernel_rfl) (by kernel_rfl) (fun _ _ _ h => h) (Or.inr ⟨by rfl, rfl⟩) (by assumption) ?_
            simp only [Act.put, List.getElem_toArray, List.getElem_cons_zero, List.getElem_cons_succ, List.setIfInBounds_toArray, List.set_cons_zero, List.set_cons_succ]
            refine wpAnyH_take (i := 9) (v := undef) rfl (by kernel_rfl) (by kernel_rfl) (by kernel_rfl) (fun _ _ _ h => h) (Or.inr ⟨by rfl, rfl⟩) (by assumption) ?_
            simp only [Act.put, List.getElem_toArray, List.getElem_cons_zero, List.getElem_cons_succ, List.setIfInBounds_toArray, List.set_cons_zero, List.set_cons_succ]
            refine wpAnyH_take (i := 10) (v := undef) rfl (by kernel_rfl) (by kernel_rfl) (by kernel_rfl) (fun _ _ _ h => h) (Or.inr ⟨by rfl, rfl⟩) (by assumption) ?_
            simp only [Act.put, List.getElem_toArray, List.getElem_cons_zero, List.getElem_cons_succ, List.setIfInBounds_toArray, List.set_cons_zero, List.set_cons_succ]
            refine wpAnyH_take (i := 11) (v := undef) rfl (by kernel_rfl) (by kernel_rfl) (by kernel_rfl) (fun _ _ _ h => h) (Or.inr ⟨by rfl, rfl⟩) (by assumption) ?_
            simp only [Act.put, List.getElem_toArray, List.getElem_cons_zero, List.getElem_cons_succ, List.setIfInBounds_toArray, List.set_cons_zero, List.set_cons_succ]
            refine wpAnyH_take (i := 12) (v := undef) rfl (by kernel_rfl) (by kernel_rfl) (by kernel_rfl) (fun _ _ _ h => h) (Or.inr ⟨by rfl, rfl⟩) (by assumption) ?_
            simp only [Act.put, List.getElem_toArray, List.getElem_cons_zero, List.getElem_cons_succ, List.setIfInBounds_toArray, List.set_cons_zero, List.set_cons_succ]
            refine wpAnyH_take (i := 13) (v := ?v208) rfl (by kernel_rfl) (by kernel_rfl) (by kernel_rfl) (fun _ _ _ h => h) (Or.inl ⟨by rfl, ?hy208⟩) (by assumption) ?rest208
            case hy208 => (intro w hSw; (try dsimp only at hSw); go_simp; try with_reducible rfl)
            simp only [Act.put, List.getElem_toArray, List.getElem_cons_zero, List.getElem_cons_succ, List.setIfInBounds_toArray, List.set_cons_zero, List.set_cons_succ]
            refine wpAnyH_take (i := 14) (v := ?v209) rfl (by kernel_rfl) (by kernel_rfl) (by kernel_rfl) (fun _ _ _ h => h) (Or.inl ⟨by rfl, ?hy209⟩) (by assumption) ?rest209
            case hy209 => (intro w hSw; (try dsimp only at hSw); go_simp; try with_reducible rfl)
            simp only [Act.put, List.getElem_toArray, List.getElem_cons_zero, List.getElem_cons_succ, List.setIfInBounds_toArray, List.set_cons_zero, List.set_cons_succ]
            refine wpAnyH_take (i := 15) (v := undef) rfl (by kernel_rfl) (by kernel_rfl) (by kernel_rfl) (fun _ _ _ h => h) (Or.inr ⟨by rfl, rfl⟩) (by assumption) ?_
            simp only [Act.put, List.getElem_toArray, List.getElem_cons_zero, List.getElem_cons_succ, List.setIfInBounds_toArray, List.set_cons_zero, List.set_cons_succ]
            refine wpAnyH_take (i := 16) (v := undef) rfl (by kernel_rfl) (by kernel_rfl) (by kernel_rfl) (fun _ _ _ h => h) (Or.inr ⟨by rfl, rfl⟩) (by assumption) ?_
            simp only [Act.put, List.getElem_toArray, List.getElem_cons_zero, List.getElem_cons_succ, List.setIfInBounds_toArray, List.set_cons_zero, List.set_cons_succ]
            refine wpAnyH_take (i := 17) (v := undef) rfl (by kernel_rfl) (by kernel_rfl) (by kernel_rfl) (fun _ _ _ h => h) (Or.inr ⟨by rfl, rfl⟩) (by assumption) ?_
            simp only [Act.put, List.getElem_toArray, List.getElem_cons_zero, List.getElem_cons_succ, List.setIfInBounds_toArray, List.set_cons_zero, List.set_cons_succ]
            refine wpAnyH_take (i := 18) (v := undef) rfl (by kernel_rfl) (by kernel_rfl) (by kernel_rfl) (fun _ _ _ h => h) (Or.inr ⟨by rfl, rfl⟩) (by assumption) ?_
            simp only [Act.put, List.getElem_toArray, List.getElem_cons_zero, List.getElem_cons_succ, List.setIfInBounds_toArray, List.set_cons_zero, List.set_cons_succ]
            refine wpAnyH_take (i := 19) (v := undef) rfl (by kernel_rfl) (by kernel_rfl) (by kernel_rfl) (fun _ _ _ h => h) (Or.inr ⟨by rfl, rfl⟩) (by assumption) ?_
            simp only [Act.put, List.getElem_toArray, List.getElem_cons_zero, List.getElem_cons_succ, List.setIfInBounds_toArray, List.set_cons_zero, List.set_cons_succ]
            refine wpAnyH_take (i := 20) (v := undef) rfl (by kernel_rfl) (by kernel_rfl) (by kernel_rfl) (fun _ _ _ h => h) (Or.inr ⟨by rfl, rfl⟩) (by assumption) ?_
            simp only [Act.put, List.getElem_toArray, List.getElem_cons_zero, List.getElem_cons_succ, List.setIfInBounds_toArray, List.set_cons_zero, List.set_cons_succ]
            refine wpAnyH_take (i := 21) (v := undef) rfl (by kernel_rfl) (by kernel_rfl) (by kernel_rfl) (fun _ _ _ h => h) (Or.inr ⟨by rfl, rfl⟩) (by assumption) ?_
            simp only [Act.put, List.getElem_toArray, List.getElem_cons_zero, List.getElem_cons_succ, List.setIfInBounds_toArray, List.set_cons_zero, List.set_cons_succ]
            refine wpAnyH_take (i := 22) (v := undef) rfl (by kernel_rfl) (by kernel_rfl) (by kernel_rfl) (fun _ _ _ h => h) (Or.inr ⟨by rfl, rfl⟩) (by assumption) ?_
            simp only [Act.put, List.getElem_toArray, List.getElem_cons_zero, List.getElem_cons_succ, List.setIfInBounds_toArray, List.set_cons_zero, List.set_cons_succ]
            refine wpAnyH_take (i := 23) (v := undef) rfl (by kernel_rfl) (by kernel_rfl) (by kernel_rfl) (fun _ _ _ h => h) (Or.inr ⟨by rfl, rfl⟩) (by assumption) ?_
            simp only [Act.put, List.getElem_toArray, List.getElem_cons_zero, List.getElem_cons_succ, List.setIfInBounds_toArray, List.set_cons_zero, List.set_cons_succ]
            refine wpAnyH_take (i := 24) (v := undef) rfl (by kernel_rfl) (by kernel_rfl) (by kernel_rfl) (fun _ _ _ h => h) (Or.inr ⟨by rfl, rfl⟩) (by assumption) ?_
            simp only [Act.put, List.getElem_toArray, List.getElem_cons_zero, List.getElem_cons_succ, List.setIfInBounds_toArray, List.set_cons_zero, List.set_cons_succ]
            refine wpAnyH_take (i := 25) (v := undef) rfl (by kernel_rfl) (by kernel_rfl) (by kernel_rfl) (fun _ _ _ h => h) (Or.inr ⟨by rfl, rfl⟩) (by assumption) ?_
            simp only [Act.put, List.getElem_toArray, List.getElem_cons_zero, List.getElem_cons_succ, List.setIfInBounds_toArray, List.set_cons_zero, List.set_cons_succ]
            refine wpAnyH_take (i := 26) (v := undef) rfl (by kernel_rfl) (by kernel_rfl) (by kernel_rfl) (fun _ _ _ h => h) (Or.inr ⟨by rfl, rfl⟩) (by assumption) ?_
            simp only [Act.put, List.getElem_toArray, List.getElem_cons_zero, List.getElem_cons_succ, List.setIfInBounds_toArray, List.set_cons_zero, List.set_cons_succ]
            refine wpAnyH_take (i := 27) (v := undef) rfl (by kernel_rfl) (by kernel_rfl) (by kernel_rfl) (fun _ _ _ h => h) (Or.inr ⟨by rfl, rfl⟩) (by assumption) ?_
            simp only [Act.put, List.getElem_toArray, List.getElem_cons_zero, List.getElem_cons_succ, List.setIfInBounds_toArray, List.set_cons_zero, List.set_cons_succ]
            refine wpAnyH_take (i := 28) (v := undef) rfl (by kernel_rfl) (by kernel_rfl) (by kernel_rfl) (fun _ _ _ h => h) (Or.inr ⟨by rfl, rfl⟩) (by assumption) ?_
            simp only [Act.put, List.getElem_toArray, List.getElem_cons_zero, List.getElem_cons_succ, List.setIfInBounds_toArray, List.set_cons_zero, List.set_cons_succ]
            refine wpAnyH_take (i := 29) (v := ?v210) rfl (by kernel_rfl) (by kernel_rfl) (by kernel_rfl) (fun _ _ _ h => h) (Or.inl ⟨by rfl, ?hy210⟩) (by assumption) ?rest210
            case hy210 => (intro w hSw; (try dsimp only at hSw); go_simp; try with_reducible rfl)
            simp only [Act.put, List.getElem_toArray, List.getElem_cons_zero, List.getElem_cons_succ, List.setIfInBounds_toArray, List.set_cons_zero, List.set_cons_succ]
            refine wpAnyH_done (by kernel_rfl) ?_ _
            have hb9 := hHeld.1
            repeat' ((fail_if_success at_builtin); (first | go_skip | go_guarded | go_step))
            go_ret
            exact ⟨ret_i hbad.out.symm, hb8.trans (hb9.mono hb8.size)⟩
          | true =>
            by_cases hm : m = i
            · have hgb : goodAt l i x = prevOk l i x := by rw [hga.out, hN, decide_eq_false (by omega : ¬ m ≠ i)]; simp
              have hm2 := hm.symm
              clear hm
              subst hm2
              cases i with
              | zero =>
                have hgok := hgood.out.snoc hx.out (by rw [hgb]; rfl)
                replace hgok := Lib.hid hgok
                have hS : ∀ w', Below w8.heap.size w8 w' → Below w8.heap.size w8 w' ∧ w'.cell? ⟨wr.heap.size, 0, none⟩ = some (.string x.sc.prj) ∧ w'.cell? ⟨wr.heap.size, 1, none⟩ = some (.int .i64 x.sc.trust) ∧ w'.cell? ⟨wr.heap.size, 2, none⟩ = some (.string x.sc.ref) ∧ w'.cell? ⟨wr.heap.size, 3, none⟩ = some (.string x.key) ∧ w'.cell? ⟨wr.heap.size, 4, none⟩ = some (.int .u64 x.dig) ∧ w'.cell? ⟨wr.heap.size, 5, none⟩ = some (.int .i64 x.size) ∧ w'.cell? ⟨wr.heap.size, 6, none⟩ = some (.int .i64 x.created) ∧ w'.cell? ⟨wr.heap.size, 7, none⟩ = some (.int .i64 x.used) ∧ w'.cell? ⟨w.heap.size, 1, none⟩ = some (.slice (some ⟨b, o, none⟩) n c) := fun w' hb => ⟨hb, (hb.cell (p := ⟨wr.heap.size, 0, none⟩) le).trans e0, (hb.cell (p := ⟨wr.heap.size, 1, none⟩) le).trans e1, (hb.cell (p := ⟨wr.heap.size, 2, none⟩) le).trans e2, (hb.cell (p := ⟨wr.heap.size, 3, none⟩) le).trans e3, (hb.cell (p := ⟨wr.heap.size, 4, none⟩) le).trans e4, (hb.cell (p := ⟨wr.heap.size, 5, none⟩) le).trans e5, (hb.cell (p := ⟨wr.heap.size, 6, none⟩) le).trans e6, (hb.cell (p := ⟨wr.heap.size, 7, none⟩) le).trans e7, (hb.cell (p := ⟨w.heap.size, 1, none⟩) l1).trans q1⟩
                have keepS : ∀ w' w'', (Below w8.heap.size w8 w' ∧ w'.cell? ⟨wr.heap.size, 0, none⟩ = some (.string x.sc.prj) ∧ w'.cell? ⟨wr.heap.size, 1, none⟩ = some (.int .i64 x.sc.trust) ∧ w'.cell? ⟨wr.heap.size, 2, none⟩ = some (.string x.sc.ref) ∧ w'.cell? ⟨wr.heap.size, 3, none⟩ = some (.string x.key) ∧ w'.cell? ⟨wr.heap.size, 4, none⟩ = some (.int .u64 x.dig) ∧ w'.cell? ⟨wr.heap.size, 5, none⟩ = some (.int .i64 x.size) ∧ w'.cell? ⟨wr.heap.size, 6, none⟩ = some (.int .i64 x.created) ∧ w'.cell? ⟨wr.heap.size, 7, none⟩ = some (.int .i64 x.used) ∧ w'.cell? ⟨w.heap.size, 1, none⟩ = some (.slice (some ⟨b, o, none⟩) n c)) → Below w'.heap.size w' w'' → (Below w8.heap.size w8 w'' ∧ w''.cell? ⟨wr.heap.size, 0, none⟩ = some (.string x.sc.prj) ∧ w''.cell? ⟨wr.heap.size, 1, none⟩ = some (.int .i64 x.sc.trust) ∧ w''.cell? ⟨wr.heap.size, 2, none⟩ = some (.string x.sc.ref) ∧ w''.cell? ⟨wr.heap.size, 3, none⟩ = some (.string x.key) ∧ w''.cell? ⟨wr.heap.size, 4, none⟩ = some (.int .u64 x.dig) ∧ w''.cell? ⟨wr.heap.size, 5, none⟩ = some (.int .i64 x.size) ∧ w''.cell? ⟨wr.heap.size, 6, none⟩ = some (.int .i64 x.created) ∧ w''.cell? ⟨wr.heap.size, 7, none⟩ = some (.int .i64 x.used) ∧ w''.cell? ⟨w.heap.size, 1, none⟩ = some (.slice (some ⟨b, o, none⟩) n c)) := fun w' w'' h hc => hS w'' (h.1.trans (hc.mono h.1.size))
                have CN2 := fun w' (h : Below w8.heap.size w8 w' ∧ w'.cell? ⟨wr.heap.size, 0, none⟩ = some (.string x.sc.prj) ∧ w'.cell? ⟨wr.heap.size, 1, none⟩ = some (.int .i64 x.sc.trust) ∧ w'.cell? ⟨wr.heap.size, 2, none⟩ = some (.string x.sc.ref) ∧ w'.cell? ⟨wr.heap.size, 3, none⟩ = some (.string x.key) ∧ w'.cell? ⟨wr.heap.size, 4, none⟩ = some (.int .u64 x.dig) ∧ w'.cell? ⟨wr.heap.size, 5, none⟩ = some (.int .i64 x.size) ∧ w'.cell? ⟨wr.heap.size, 6, none⟩ = some (.int .i64 x.created) ∧ w'.cell? ⟨wr.heap.size, 7, none⟩ = some (.int .i64 x.used) ∧ w'.cell? ⟨w.heap.size, 1, none⟩ = some (.slice (some ⟨b, o, none⟩) n c)) => CN w' h.1
                have CF2 := fun w' (h : Below w8.heap.size w8 w' ∧ w'.cell? ⟨wr.heap.size, 0, none⟩ = some (.string x.sc.prj) ∧ w'.cell? ⟨wr.heap.size, 1, none⟩ = some (.int .i64 x.sc.trust) ∧ w'.cell? ⟨wr.heap.size, 2, none⟩ = some (.string x.sc.ref) ∧ w'.cell? ⟨wr.heap.size, 3, none⟩ = some (.string x.key) ∧ w'.cell? ⟨wr.heap.size, 4, none⟩ = some (.int .u64 x.dig) ∧ w'.cell? ⟨wr.heap.size, 5, none⟩ = some (.int .i64 x.size) ∧ w'.cell? ⟨wr.heap.size, 6, none⟩ = some (.int .i64 x.created) ∧ w'.cell? ⟨wr.heap.size, 7, none⟩ = some (.int .i64 x.used) ∧ w'.cell? ⟨w.heap.size, 1, none⟩ = some (.slice (some ⟨b, o, none⟩) n c)) => CF w' h.1
                have hS1 : Below w8.heap.size w8 w8.drew ∧ w8.drew.cell? ⟨wr.heap.size, 0, none⟩ = some (.string x.sc.prj) ∧ w8.drew.cell? ⟨wr.heap.size, 1, none⟩ = some (.int .i64 x.sc.trust) ∧ w8.drew.cell? ⟨wr.heap.size, 2, none⟩ = some (.string x.sc.ref) ∧ w8.drew.cell? ⟨wr.heap.size, 3, none⟩ = some (.string x.key) ∧ w8.drew.cell? ⟨wr.heap.size, 4, none⟩ = some (.int .u64 x.dig) ∧ w8.drew.cell? ⟨wr.heap.size, 5, none⟩ = some (.int .i64 x.size) ∧ w8.drew.cell? ⟨wr.heap.size, 6, none⟩ = some (.int .i64 x.created) ∧ w8.drew.cell? ⟨wr.heap.size, 7, none⟩ = some (.int .i64 x.used) ∧ w8.drew.cell? ⟨w.heap.size, 1, none⟩ = some (.slice (some ⟨b, o, none⟩) n c) := hS w8.drew (Below.refl _ _).drew
                replace keepS := Lib.hid keepS
                replace CN2 := Lib.hid CN2
                replace CF2 := Lib.hid CF2
                clear hS
                refine wp_region_held_drew (S := fun w' => Below w8.heap.size w8 w' ∧ w'.cell? ⟨wr.heap.size, 0, none⟩ = some (.string x.sc.prj) ∧ w'.cell? ⟨wr.heap.size, 1, none⟩ = some (.int .i64 x.sc.trust) ∧ w'.cell? ⟨wr.heap.size, 2, none⟩ = some (.string x.sc.ref) ∧ w'.cell? ⟨wr.heap.size, 3, none⟩ = some (.string x.key) ∧ w'.cell? ⟨wr.heap.size, 4, none⟩ = some (.int .u64 x.dig) ∧ w'.cell? ⟨wr.heap.size, 5, none⟩ = some (.int .i64 x.size) ∧ w'.cell? ⟨wr.heap.size, 6, none⟩ = some (.int .i64 x.created) ∧ w'.cell? ⟨wr.heap.size, 7, none⟩ = some (.int .i64 x.used) ∧ w'.cell? ⟨w.heap.size, 1, none⟩ = some (.slice (some ⟨b, o, none⟩) n c)) (by kernel_rfl) ?_ (fun hHeld => ?_)
                · (try dsimp only)
                  exact hS1
                refine wpAnyH_take (i := 0) (v := ?v211) rfl (by kernel_rfl) (by kernel_rfl) (by kernel_rfl) (fun _ _ _ h => h) (Or.inl ⟨by rfl, ?hy211⟩) (by assumption) ?rest211
                case hy211 => (intro w hSw; (try dsimp only at hSw); go_simp; try with_reducible rfl)
                simp only [Act.put, List.getElem_toArray, List.getElem_cons_zero, List.setIfInBounds_toArray, List.set_cons_zero, List.set_cons_succ]
                refine wpAnyH_ready (rs := [1]) (by kernel_rfl) (by simp) ?_
                refine AllReadyH.cons rfl (fun K hK => ?_) AllReadyH.nil
                go_simp
                go_at_call 38
                refine (CN2.out _ (by assumption)).mono ?_
                rintro e w7 ⟨rfl, hbq⟩
                dsimp only
                simp only [hN]
                refine hK.out _ _ ?_ (fun hHeld => ?_)
                · (try dsimp only)
                  exact keepS.out _ _ (by assumption) hbq
                clear hK K
                try simp only [Act.put, List.getElem_toArray, List.getElem_cons_zero, List.getElem_cons_succ, List.setIfInBounds_toArray, List.set_cons_zero, List.set_cons_succ]
                refine wpAnyH_take (i := 2) (v := ?v212) rfl (by kernel_rfl) (by kernel_rfl) (by kernel_rfl) (fun _ _ _ h => h) (Or.inl ⟨by rfl, ?hy212⟩) (by assumption) ?rest212
                case hy212 => (intro w hSw; (try dsimp only at hSw); go_simp; try with_reducible rfl)
                simp only [Act.put, List.getElem_toArray, List.getElem_cons_zero, List.getElem_cons_succ, List.setIfInBounds_toArray, List.set_cons_zero, List.set_cons_succ]
                refine wpAnyH_take (i := 3) (v := ?v213) rfl (by kernel_rfl) (by kernel_rfl) (by kernel_rfl) (fun _ _ _ h => h) (Or.inl ⟨by rfl, ?hy213⟩) (by assumption) ?rest213
                case hy213 => (intro w hSw; (try dsimp only at hSw); go_simp; try with_reducible rfl)
                simp only [Act.put, List.getElem_toArray, List.getElem_cons_zero, List.getElem_cons_succ, List.setIfInBounds_toArray, List.set_cons_zero, List.set_cons_succ]
                refine wpAnyH_take (i := 4) (v := ?v214) rfl (by kernel_rfl) (by kernel_rfl) (by kernel_rfl) (fun _ _ _ h => h) (Or.inl ⟨by rfl, ?hy214⟩) (by assumption) ?rest214
                case hy214 => (intro w hSw; (try dsimp only at hSw); go_simp; try with_reducible rfl)
                simp only [Act.put, List.getElem_toArray, List.getElem_cons_zero, List.getElem_cons_succ, List.setIfInBounds_toArray, List.set_cons_zero, List.set_cons_succ]
                refine wpAnyH_take (i := 5) (v := ?v215) rfl (by kernel_rfl) (by kernel_rfl) (by kernel_rfl) (fun _ _ _ h => h) (Or.inl ⟨by rfl, ?hy215⟩) (by assumption) ?rest215
                case hy215 => (intro w hSw; (try dsimp only at hSw); go_simp; try with_reducible rfl)
                simp only [Act.put, List.getElem_toArray, List.getElem_cons_zero, List.getElem_cons_succ, List.setIfInBounds_toArray, List.set_cons_zero, List.set_cons_succ]
                refine wpAnyH_take (i := 6) (v := ?v216) rfl (by kernel_rfl) (by kernel_rfl) (by kernel_rfl) (fun _ _ _ h => h) (Or.inl ⟨by rfl, ?hy216⟩) (by assumption) ?rest216
                case hy216 => (intro w hSw; (try dsimp only at hSw); go_simp; try with_reducible rfl)
                simp only [Act.put, List.getElem_toArray, List.getElem_cons_zero, List.getElem_cons_succ, List.setIfInBounds_toArray, List.set_cons_zero, List.set_cons_succ]
                refine wpAnyH_take (i := 7) (v := ?v217) rfl (by kernel_rfl) (by kernel_rfl) (by kernel_rfl) (fun _ _ _ h => h) (Or.inl ⟨by rfl, ?hy217⟩) (by assumption) ?rest217
                case hy217 => (intro w hSw; (try dsimp only at hSw); go_simp; try with_reducible rfl)
                simp only [Act.put, List.getElem_toArray, List.getElem_cons_zero, List.getElem_cons_succ, List.setIfInBounds_toArray, List.set_cons_zero, List.set_cons_succ]
                refine wpAnyH_take (i := 8) (v := ?v218) rfl (by kernel_rfl) (by kernel_rfl) (by kernel_rfl) (fun _ _ _ h => h) (Or.inl ⟨by rfl, ?hy218⟩) (by assumption) ?rest218
                case hy218 => (intro w hSw; (try dsimp only at hSw); go_simp; try with_reducible rfl)
                simp only [Act.put, List.getElem_toArray, List.getElem_cons_zero, List.getElem_cons_succ, List.setIfInBounds_toArray, List.set_cons_zero, List.set_cons_succ]
                refine wpAnyH_take (i := 9) (v := ?v219) rfl (by kernel_rfl) (by kernel_rfl) (by kernel_rfl) (fun _ _ _ h => h) (Or.inl ⟨by rfl, ?hy219⟩) (by assumption) ?rest219
                case hy219 => (intro w hSw; (try dsimp only at hSw); go_simp; try with_reducible rfl)
                simp only [Act.put, List.getElem_toArray, List.getElem_cons_zero, List.getElem_cons_succ, List.setIfInBounds_toArray, List.set_cons_zero, List.set_cons_succ]
                refine wpAnyH_take (i := 11) (v := ?v220) rfl (by kernel_rfl) (by kernel_rfl) (by kernel_rfl) (fun _ _ _ h => h) (Or.inl ⟨by rfl, ?hy220⟩) (by assumption) ?rest220
                case hy220 => (intro w hSw; (try dsimp only at hSw); go_simp; try with_reducible rfl)
                simp only [Act.put, List.getElem_toArray, List.getElem_cons_zero, List.getElem_cons_succ, List.setIfInBounds_toArray, List.set_cons_zero, List.set_cons_succ]
                refine wpAnyH_ready (rs := [10]) (by kernel_rfl) (by simp) ?_
                refine AllReadyH.cons rfl (fun K hK => ?_) AllReadyH.nil
                go_simp
                go_at_call 32
                refine (CF2.out _ (by assumption)).mono ?_
                rintro e w7 ⟨rfl, hbq⟩
                dsimp only
                refine hK.out _ _ ?_ (fun hHeld => ?_)
                · (try dsimp only)
                  exact keepS.out _ _ (by assumption) hbq
                clear hK K
                try simp only [Act.put, List.getElem_toArray, List.getElem_cons_zero, List.getElem_cons_succ, List.setIfInBounds_toArray, List.set_cons_zero, List.set_cons_succ]
                refine wpAnyH_take (i := 12) (v := ?v221) rfl (by kernel_rfl) (by kernel_rfl) (by kernel_rfl) (fun _ _ _ h => h) (Or.inl ⟨by rfl, ?hy221⟩) (by assumption) ?rest221
                case hy221 => (intro w hSw; (try dsimp only at hSw); go_simp; try with_reducible rfl)
                simp only [Act.put, List.getElem_toArray, List.getElem_cons_zero, List.getElem_cons_succ, List.setIfInBounds_toArray, List.set_cons_zero, List.set_cons_succ]
                refine wpAnyH_take (i := 13) (v := ?v222) rfl (by kernel_rfl) (by kernel_rfl) (by kernel_rfl) (fun _ _ _ h => h) (Or.inl ⟨by rfl, ?hy222⟩) (by assumption) ?rest222
                case hy222 => (intro w hSw; (try dsimp only at hSw); go_simp; try with_reducible rfl)
                simp only [Act.put, List.getElem_toArray, List.getElem_cons_zero, List.getElem_cons_succ, List.setIfInBounds_toArray, List.set_cons_zero, List.set_cons_succ]
                refine wpAnyH_take (i := 14) (v := ?v223) rfl (by kernel_rfl) (by kernel_rfl) (by kernel_rfl) (fun _ _ _ h => h) (Or.inl ⟨by rfl, ?hy223⟩) (by assumption) ?rest223
                case hy223 => (intro w hSw; (try dsimp only at hSw); go_simp; try with_reducible rfl)
                simp only [Act.put, List.getElem_toArray, List.getElem_cons_zero, List.getElem_cons_succ, List.setIfInBounds_toArray, List.set_cons_zero, List.set_cons_succ]
                refine wpAnyH_take (i := 15) (v := ?v224) rfl (by kernel_rfl) (by kernel_rfl) (by kernel_rfl) (fun _ _ _ h => h) (Or.inl ⟨by rfl, ?hy224⟩) (by assumption) ?rest224
                case hy224 => (intro w hSw; (try dsimp only at hSw); go_simp; try with_reducible rfl)
                simp only [Act.put, List.getElem_toArray, List.getElem_cons_zero, List.getElem_cons_succ, List.setIfInBounds_toArray, List.set_cons_zero, List.set_cons_succ]
                refine wpAnyH_take (i := 16) (v := ?v225) rfl (by kernel_rfl) (by kernel_rfl) (by kernel_rfl) (fun _ _ _ h => h) (Or.inl ⟨by rfl, ?hy225⟩) (by assumption) ?rest225
                case hy225 => (intro w hSw; (try dsimp only at hSw); go_simp; try with_reducible rfl)
                simp only [Act.put, List.getElem_toArray, List.getElem_cons_zero, List.getElem_cons_succ, List.setIfInBounds_toArray, List.set_cons_zero, List.set_cons_succ]
                refine wpAnyH_take (i := 17) (v := ?v226) rfl (by kernel_rfl) (by kernel_rfl) (by kernel_rfl) (fun _ _ _ h => h) (Or.inl ⟨by rfl, ?hy226⟩) (by assumption) ?rest226
                case hy226 => (intro w hSw; (try dsimp only at hSw); go_simp; try with_reducible rfl)
                simp only [Act.put, List.getElem_toArray, List.getElem_cons_zero, List.getElem_cons_succ, List.setIfInBounds_toArray, List.set_cons_zero, List.set_cons_succ]
                refine wpAnyH_take (i := 18) (v := undef) rfl (by kernel_rfl) (by kernel_rfl) (by kernel_rfl) (fun _ _ _ h => h) (Or.inr ⟨by rfl, rfl⟩) (by assumption) ?_
                simp only [Act.put, List.getElem_toArray, List.getElem_cons_zero, List.getElem_cons_succ, List.setIfInBounds_toArray, List.set_cons_zero, List.set_cons_succ]
                refine wpAnyH_take (i := 19) (v := undef) rfl (by kernel_rfl) (by kernel_rfl) (by kernel_rfl) (fun _ _ _ h => h) (Or.inr ⟨by rfl, rfl⟩) (by assumption) ?_
                simp only [Act.put, List.getElem_toArray, List.getElem_cons_zero, List.getElem_cons_succ, List.setIfInBounds_toArray, List.set_cons_zero, List.set_cons_succ]
                refine wpAnyH_take (i := 20) (v := undef) rfl (by kernel_rfl) (by kernel_rfl) (by kernel_rfl) (fun _ _ _ h => h) (Or.inr ⟨by rfl, rfl⟩) (by assumption) ?_
                simp only [Act.put, List.getElem_toArray, List.getElem_cons_zero, List.getElem_cons_succ, List.setIfInBounds_toArray, List.set_cons_zero, List.set_cons_succ]
                refine wpAnyH_take (i := 21) (v := undef) rfl (by kernel_rfl) (by kernel_rfl) (by kernel_rfl) (fun _ _ _ h => h) (Or.inr ⟨by rfl, rfl⟩) (by assumption) ?_
                simp only [Act.put, List.getElem_toArray, List.getElem_cons_zero, List.getElem_cons_succ, List.setIfInBounds_toArray, List.set_cons_zero, List.set_cons_succ]
                refine wpAnyH_take (i := 22) (v := undef) rfl (by kernel_rfl) (by kernel_rfl) (by kernel_rfl) (fun _ _ _ h => h) (Or.inr ⟨by rfl, rfl⟩) (by assumption) ?_
                simp only [Act.put, List.getElem_toArray, List.getElem_cons_zero, List.getElem_cons_succ, List.setIfInBounds_toArray, List.set_cons_zero, List.set_cons_succ]
                refine wpAnyH_take (i := 23) (v := undef) rfl (by kernel_rfl) (by kernel_rfl) (by kernel_rfl) (fun _ _ _ h => h) (Or.inr ⟨by rfl, rfl⟩) (by assumption) ?_
                simp only [Act.put, List.getElem_toArray, List.getElem_cons_zero, List.getElem_cons_succ, List.setIfInBounds_toArray, List.set_cons_zero, List.set_cons_succ]
                refine wpAnyH_take (i := 24) (v := undef) rfl (by kernel_rfl) (by kernel_rfl) (by kernel_rfl) (fun _ _ _ h => h) (Or.inr ⟨by rfl, rfl⟩) (by assumption) ?_
                simp only [Act.put, List.getElem_toArray, List.getElem_cons_zero, List.getElem_cons_succ, List.setIfInBounds_toArray, List.set_cons_zero, List.set_cons_succ]
                refine wpAnyH_take (i := 25) (v := undef) rfl (by kernel_rfl) (by kernel_rfl) (by kernel_rfl) (fun _ _ _ h => h) (Or.inr ⟨by rfl, rfl⟩) (by assumption) ?_
                simp only [Act.put, List.getElem_toArray, List.getElem_cons_zero, List.getElem_cons_succ, List.setIfInBounds_toArray, List.set_cons_zero, List.set_cons_succ]
                refine wpAnyH_take (i := 26) (v := undef) rfl (by kernel_rfl) (by kernel_rfl) (by kernel_rfl) (fun _ _ _ h => h) (Or.inr ⟨by rfl, rfl⟩) (by assumption) ?_
                simp only [Act.put, List.getElem_toArray, List.getElem_cons_zero, List.getElem_cons_succ, List.setIfInBounds_toArray, List.set_cons_zero, List.set_cons_succ]
                refine wpAnyH_take (i := 27) (v := undef) rfl (by kernel_rfl) (by kernel_rfl) (by kernel_rfl) (fun _ _ _ h => h) (Or.inr ⟨by rfl, rfl⟩) (by assumption) ?_
                simp only [Act.put, List.getElem_toArray, List.getElem_cons_zero, List.getElem_cons_succ, List.setIfInBounds_toArray, List.set_cons_zero, List.set_cons_succ]
                refine wpAnyH_take (i := 28) (v := ?v227) rfl (by kernel_rfl) (by kernel_rfl) (by kernel_rfl) (fun _ _ _ h => h) (Or.inl ⟨by rfl, ?hy227⟩) (by assumption) ?rest227
                case hy227 => (intro w hSw; (try dsimp only at hSw); go_simp; try with_reducible rfl)
                simp only [Act.put, List.getElem_toArray, List.getElem_cons_zero, List.getElem_cons_succ, List.setIfInBounds_toArray, List.set_cons_zero, List.set_cons_succ]
                refine wpAnyH_take (i := 29) (v := ?v228) rfl (by kernel_rfl) (by kernel_rfl) (by kernel_rfl) (fun _ _ _ h => h) (Or.inl ⟨by rfl, ?hy228⟩) (by assumption) ?rest228
                case hy228 => (intro w hSw; (try dsimp only at hSw); go_simp; try with_reducible rfl)
                simp only [Act.put, List.getElem_toArray, List.getElem_cons_zero, List.getElem_cons_succ, List.setIfInBounds_toArray, List.set_cons_zero, List.set_cons_succ]
                refine wpAnyH_done (by kernel_rfl) ?_ _
                obtain ⟨hb9, _⟩ := hHeld
                have hz9 := hb9.size
                repeat' ((fail_if_success at_builtin); (first | go_skip | go_guarded | go_step))
                go_roundw
                case rel => exact ⟨0 + 1, by omega, by go_num, hgok.out, hb8.trans (hb9.mono hb8.size), hw18.trans (hb9.mono hw18.size)⟩
                case measure => simp [intOf]; omega
              | succ k =>
                have hk2 : k < l.length := by omega
                have hy : l[k]? = some l[k] := List.getElem?_eq_getElem hk2
                obtain ⟨b', o', hbo, _, hcy⟩ := ent_at hs.out hn2.out hy
                cases hbo
                have yp := (hb8.cell (p := ⟨b, o + k * 8 + 6, none⟩) hbB).trans hcy.c6
                have hpk : prevOk l (k + 1) x = decide ((l[k]).created ≤ x.created) := by
                  show (match l[k]? with
                    | some y => decide (y.created ≤ x.created)
                    | none => true) = _
                  rw [hy]
                rw [hpk] at hgb
                generalize l[k] = y at *
                clear hcy hpk hy
                have lb : b < w8.heap.size := by omega
                have s0 : (0 : Int) < (k : Int) + 1 := by omega
                have s1 : IntKind.i64.wrap ((k : Int) + 1 - 1) = (k : Int) := by rw [show (k : Int) + 1 - 1 = (k : Int) from by omega]; exact IntWalk.i64_in _ (by omega)
                have s2 : IntKind.i64.wrap (k : Int) = (k : Int) := IntWalk.i64_in _ (by omega)
                have s3 : (0 : Int) ≤ (k : Int) := by omega
                have s4 : (k : Int) < (n : Int) := by omega
                by_cases hp : y.created ≤ x.created
                · have hp' : ¬ (x.created < y.created) := by omega
                  have hgok := hgood.out.snoc hx.out (by rw [hgb, decide_eq_true hp])
                  replace hgok := Lib.hid hgok
                  replace hgb := Lib.hid hgb
                  have hS : ∀ w', Below w8.heap.size w8 w' → Below w8.heap.size w8 w' ∧ w'.cell? ⟨wr.heap.size, 0, none⟩ = some (.string x.sc.prj) ∧ w'.cell? ⟨wr.heap.size, 1, none⟩ = some (.int .i64 x.sc.trust) ∧ w'.cell? ⟨wr.heap.size, 2, none⟩ = some (.string x.sc.ref) ∧ w'.cell? ⟨wr.heap.size, 3, none⟩ = some (.string x.key) ∧ w'.cell? ⟨wr.heap.size, 4, none⟩ = some (.int .u64 x.dig) ∧ w'.cell? ⟨wr.heap.size, 5, none⟩ = some (.int .i64 x.size) ∧ w'.cell? ⟨wr.heap.size, 6, none⟩ = some (.int .i64 x.created) ∧ w'.cell? ⟨wr.heap.size, 7, none⟩ = some (.int .i64 x.used) ∧ w'.cell? ⟨w.heap.size, 1, none⟩ = some (.slice (some ⟨b, o, none⟩) n c) ∧ w'.cell? ⟨b, o + k * 8 + 6, none⟩ = some (.int .i64 y.created) := fun w' hb => ⟨hb, (hb.cell (p := ⟨wr.heap.size, 0, none⟩) le).trans e0, (hb.cell (p := ⟨wr.heap.size, 1, none⟩) le).trans e1, (hb.cell (p := ⟨wr.heap.size, 2, none⟩) le).trans e2, (hb.cell (p := ⟨wr.heap.size, 3, none⟩) le).trans e3, (hb.cell (p := ⟨wr.heap.size, 4, none⟩) le).trans e4, (hb.cell (p := ⟨wr.heap.size, 5, none⟩) le).trans e5, (hb.cell (p := ⟨wr.heap.size, 6, none⟩) le).trans e6, (hb.cell (p := ⟨wr.heap.size, 7, none⟩) le).trans e7, (hb.cell (p := ⟨w.heap.size, 1, none⟩) l1).trans q1, (hb.cell (p := ⟨b, o + k * 8 + 6, none⟩) lb).trans yp⟩
                  have keepS : ∀ w' w'', (Below w8.heap.size w8 w' ∧ w'.cell? ⟨wr.heap.size, 0, none⟩ = some (.string x.sc.prj) ∧ w'.cell? ⟨wr.heap.size, 1, none⟩ = some (.int .i64 x.sc.trust) ∧ w'.cell? ⟨wr.heap.size, 2, none⟩ = some (.string x.sc.ref) ∧ w'.cell? ⟨wr.heap.size, 3, none⟩ = some (.string x.key) ∧ w'.cell? ⟨wr.heap.size, 4, none⟩ = some (.int .u64 x.dig) ∧ w'.cell? ⟨wr.heap.size, 5, none⟩ = some (.int .i64 x.size) ∧ w'.cell? ⟨wr.heap.size, 6, none⟩ = some (.int .i64 x.created) ∧ w'.cell? ⟨wr.heap.size, 7, none⟩ = some (.int .i64 x.used) ∧ w'.cell? ⟨w.heap.size, 1, none⟩ = some (.slice (some ⟨b, o, none⟩) n c) ∧ w'.cell? ⟨b, o + k * 8 + 6, none⟩ = some (.int .i64 y.created)) → Below w'.heap.size w' w'' → (Below w8.heap.size w8 w'' ∧ w''.cell? ⟨wr.heap.size, 0, none⟩ = some (.string x.sc.prj) ∧ w''.cell? ⟨wr.heap.size, 1, none⟩ = some (.int .i64 x.sc.trust) ∧ w''.cell? ⟨wr.heap.size, 2, none⟩ = some (.string x.sc.ref) ∧ w''.cell? ⟨wr.heap.size, 3, none⟩ = some (.string x.key) ∧ w''.cell? ⟨wr.heap.size, 4, none⟩ = some (.int .u64 x.dig) ∧ w''.cell? ⟨wr.heap.size, 5, none⟩ = some (.int .i64 x.size) ∧ w''.cell? ⟨wr.heap.size, 6, none⟩ = some (.int .i64 x.created) ∧ w''.cell? ⟨wr.heap.size, 7, none⟩ = some (.int .i64 x.used) ∧ w''.cell? ⟨w.heap.size, 1, none⟩ = some (.slice (some ⟨b, o, none⟩) n c) ∧ w''.cell? ⟨b, o + k * 8 + 6, none⟩ = some (.int .i64 y.created)) := fun w' w'' h hc => hS w'' (h.1.trans (hc.mono h.1.size))
                  have CN2 := fun w' (h : Below w8.heap.size w8 w' ∧ w'.cell? ⟨wr.heap.size, 0, none⟩ = some (.string x.sc.prj) ∧ w'.cell? ⟨wr.heap.size, 1, none⟩ = some (.int .i64 x.sc.trust) ∧ w'.cell? ⟨wr.heap.size, 2, none⟩ = some (.string x.sc.ref) ∧ w'.cell? ⟨wr.heap.size, 3, none⟩ = some (.string x.key) ∧ w'.cell? ⟨wr.heap.size, 4, none⟩ = some (.int .u64 x.dig) ∧ w'.cell? ⟨wr.heap.size, 5, none⟩ = some (.int .i64 x.size) ∧ w'.cell? ⟨wr.heap.size, 6, none⟩ = some (.int .i64 x.created) ∧ w'.cell? ⟨wr.heap.size, 7, none⟩ = some (.int .i64 x.used) ∧ w'.cell? ⟨w.heap.size, 1, none⟩ = some (.slice (some ⟨b, o, none⟩) n c) ∧ w'.cell? ⟨b, o + k * 8 + 6, none⟩ = some (.int .i64 y.created)) => CN w' h.1
                  have CF2 := fun w' (h : Below w8.heap.size w8 w' ∧ w'.cell? ⟨wr.heap.size, 0, none⟩ = some (.string x.sc.prj) ∧ w'.cell? ⟨wr.heap.size, 1, none⟩ = some (.int .i64 x.sc.trust) ∧ w'.cell? ⟨wr.heap.size, 2, none⟩ = some (.string x.sc.ref) ∧ w'.cell? ⟨wr.heap.size, 3, none⟩ = some (.string x.key) ∧ w'.cell? ⟨wr.heap.size, 4, none⟩ = some (.int .u64 x.dig) ∧ w'.cell? ⟨wr.heap.size, 5, none⟩ = some (.int .i64 x.size) ∧ w'.cell? ⟨wr.heap.size, 6, none⟩ = some (.int .i64 x.created) ∧ w'.cell? ⟨wr.heap.size, 7, none⟩ = some (.int .i64 x.used) ∧ w'.cell? ⟨w.heap.size, 1, none⟩ = some (.slice (some ⟨b, o, none⟩) n c) ∧ w'.cell? ⟨b, o + k * 8 + 6, none⟩ = some (.int .i64 y.created)) => CF w' h.1
                  have hS1 : Below w8.heap.size w8 w8.drew ∧ w8.drew.cell? ⟨wr.heap.size, 0, none⟩ = some (.string x.sc.prj) ∧ w8.drew.cell? ⟨wr.heap.size, 1, none⟩ = some (.int .i64 x.sc.trust) ∧ w8.drew.cell? ⟨wr.heap.size, 2, none⟩ = some (.string x.sc.ref) ∧ w8.drew.cell? ⟨wr.heap.size, 3, none⟩ = some (.string x.key) ∧ w8.drew.cell? ⟨wr.heap.size, 4, none⟩ = some (.int .u64 x.dig) ∧ w8.drew.cell? ⟨wr.heap.size, 5, none⟩ = some (.int .i64 x.size) ∧ w8.drew.cell? ⟨wr.heap.size, 6, none⟩ = some (.int .i64 x.created) ∧ w8.drew.cell? ⟨wr.heap.size, 7, none⟩ = some (.int .i64 x.used) ∧ w8.drew.cell? ⟨w.heap.size, 1, none⟩ = some (.slice (some ⟨b, o, none⟩) n c) ∧ w8.drew.cell? ⟨b, o + k * 8 + 6, none⟩ = some (.int .i64 y.created) := hS w8.drew (Below.refl _ _).drew
                  replace keepS := Lib.hid keepS
                  replace CN2 := Lib.hid CN2
                  replace CF2 := Lib.hid CF2
                  clear hS
                  refine wp_region_held_drew (S := fun w' => Below w8.heap.size w8 w' ∧ w'.cell? ⟨wr.heap.size, 0, none⟩ = some (.string x.sc.prj) ∧ w'.cell? ⟨wr.heap.size, 1, none⟩ = some (.int .i64 x.sc.trust) ∧ w'.cell? ⟨wr.heap.size, 2, none⟩ = some (.string x.sc.ref) ∧ w'.cell? ⟨wr.heap.size, 3, none⟩ = some (.string x.key) ∧ w'.cell? ⟨wr.heap.size, 4, none⟩ = some (.int .u64 x.dig) ∧ w'.cell? ⟨wr.heap.size, 5, none⟩ = some (.int .i64 x.size) ∧ w'.cell? ⟨wr.heap.size, 6, none⟩ = some (.int .i64 x.created) ∧ w'.cell? ⟨wr.heap.size, 7, none⟩ = some (.int .i64 x.used) ∧ w'.cell? ⟨w.heap.size, 1, none⟩ = some (.slice (some ⟨b, o, none⟩) n c) ∧ w'.cell? ⟨b, o + k * 8 + 6, none⟩ = some (.int .i64 y.created)) (by kernel_rfl) ?_ (fun hHeld => ?_)
                  · (try dsimp only)
                    exact hS1
                  refine wpAnyH_take (i := 0) (v := ?v229) rfl (by kernel_rfl) (by kernel_rfl) (by kernel_rfl) (fun _ _ _ h => h) (Or.inl ⟨by rfl, ?hy229⟩) (by assumption) ?rest229
                  case hy229 => (intro w hSw; (try dsimp only at hSw); go_simp; try with_reducible rfl)
                  simp only [Act.put, List.getElem_toArray, List.getElem_cons_zero, List.setIfInBounds_toArray, List.set_cons_zero, List.set_cons_succ]
                  refine wpAnyH_ready (rs := [1]) (by kernel_rfl) (by simp) ?_
                  refine AllReadyH.cons rfl (fun K hK => ?_) AllReadyH.nil
                  go_simp
                  go_at_call 38
                  refine (CN2.out _ (by assumption)).mono ?_
                  rintro e w7 ⟨rfl, hbq⟩
                  dsimp only
                  simp only [hN]
                  refine hK.out _ _ ?_ (fun hHeld => ?_)
                  · (try dsimp only)
                    exact keepS.out _ _ (by assumption) hbq
                  clear hK K
                  try simp only [Act.put, List.getElem_toArray, List.getElem_cons_zero, List.getElem_cons_succ, List.setIfInBounds_toArray, List.set_cons_zero, List.set_cons_succ]
                  refine wpAnyH_take (i := 2) (v := ?v230) rfl (by kernel_rfl) (by kernel_rfl) (by kernel_rfl) (fun _ _ _ h => h) (Or.inl ⟨by rfl, ?hy230⟩) (by assumption) ?rest230
                  case hy230 => (intro w hSw; (try dsimp only at hSw); go_simp; try with_reducible rfl)
                  simp only [Act.put, List.getElem_toArray, List.getElem_cons_zero, List.getElem_cons_succ, List.setIfInBounds_toArray, List.set_cons_zero, List.set_cons_succ]
                  refine wpAnyH_take (i := 3) (v := ?v231) rfl (by kernel_rfl) (by kernel_rfl) (by kernel_rfl) (fun _ _ _ h => h) (Or.inl ⟨by rfl, ?hy231⟩) (by assumption) ?rest231
                  case hy231 => (intro w hSw; (try dsimp only at hSw); go_simp; try with_reducible rfl)
                  simp only [Act.put, List.getElem_toArray, List.getElem_cons_zero, List.getElem_cons_succ, List.setIfInBounds_toArray, List.set_cons_zero, List.set_cons_succ]
                  refine wpAnyH_take (i := 4) (v := ?v232) rfl (by kernel_rfl) (by kernel_rfl) (by kernel_rfl) (fun _ _ _ h => h) (Or.inl ⟨by rfl, ?hy232⟩) (by assumption) ?rest232
                  case hy232 => (intro w hSw; (try dsimp only at hSw); go_simp; try with_reducible rfl)
                  simp only [Act.put, List.getElem_toArray, List.getElem_cons_zero, List.getElem_cons_succ, List.setIfInBounds_toArray, List.set_cons_zero, List.set_cons_succ]
                  refine wpAnyH_take (i := 5) (v := ?v233) rfl (by kernel_rfl) (by kernel_rfl) (by kernel_rfl) (fun _ _ _ h => h) (Or.inl ⟨by rfl, ?hy233⟩) (by assumption) ?rest233
                  case hy233 => (intro w hSw; (try dsimp only at hSw); go_simp; try with_reducible rfl)
                  simp only [Act.put, List.getElem_toArray, List.getElem_cons_zero, List.getElem_cons_succ, List.setIfInBounds_toArray, List.set_cons_zero, List.set_cons_succ]
                  refine wpAnyH_take (i := 6) (v := ?v234) rfl (by kernel_rfl) (by kernel_rfl) (by kernel_rfl) (fun _ _ _ h => h) (Or.inl ⟨by rfl, ?hy234⟩) (by assumption) ?rest234
                  case hy234 => (intro w hSw; (try dsimp only at hSw); go_simp; try with_reducible rfl)
                  simp only [Act.put, List.getElem_toArray, List.getElem_cons_zero, List.getElem_cons_succ, List.setIfInBounds_toArray, List.set_cons_zero, List.set_cons_succ]
                  refine wpAnyH_take (i := 7) (v := ?v235) rfl (by kernel_rfl) (by kernel_rfl) (by kernel_rfl) (fun _ _ _ h => h) (Or.inl ⟨by rfl, ?hy235⟩) (by assumption) ?rest235
                  case hy235 => (intro w hSw; (try dsimp only at hSw); go_simp; try with_reducible rfl)
                  simp only [Act.put, List.getElem_toArray, List.getElem_cons_zero, List.getElem_cons_succ, List.setIfInBounds_toArray, List.set_cons_zero, List.set_cons_succ]
                  refine wpAnyH_take (i := 8) (v := ?v236) rfl (by kernel_rfl) (by kernel_rfl) (by kernel_rfl) (fun _ _ _ h => h) (Or.inl ⟨by rfl, ?hy236⟩) (by assumption) ?rest236
                  case hy236 => (intro w hSw; (try dsimp only at hSw); go_simp; try with_reducible rfl)
                  simp only [Act.put, List.getElem_toArray, List.getElem_cons_zero, List.getElem_cons_succ, List.setIfInBounds_toArray, List.set_cons_zero, List.set_cons_succ]
                  refine wpAnyH_take (i := 9) (v := ?v237) rfl (by kernel_rfl) (by kernel_rfl) (by kernel_rfl) (fun _ _ _ h => h) (Or.inl ⟨by rfl, ?hy237⟩) (by assumption) ?rest237
                  case hy237 => (intro w hSw; (try dsimp only at hSw); go_simp; try with_reducible rfl)
                  simp only [Act.put, List.getElem_toArray, List.getElem_cons_zero, List.getElem_cons_succ, List.setIfInBounds_toArray, List.set_cons_zero, List.set_cons_succ]
                  refine wpAnyH_take (i := 11) (v := ?v238) rfl (by kernel_rfl) (by kernel_rfl) (by kernel_rfl) (fun _ _ _ h => h) (Or.inl ⟨by rfl, ?hy238⟩) (by assumption) ?rest238
                  case hy238 => (intro w hSw; (try dsimp only at hSw); go_simp; try with_reducible rfl)
                  simp only [Act.put, List.getElem_toArray, List.getElem_cons_zero, List.getElem_cons_succ, List.setIfInBounds_toArray, List.set_cons_zero, List.set_cons_succ]
                  refine wpAnyH_ready (rs := [10]) (by kernel_rfl) (by simp) ?_
                  refine AllReadyH.cons rfl (fun K hK => ?_) AllReadyH.nil
                  go_simp
                  go_at_call 32
                  refine (CF2.out _ (by assumption)).mono ?_
                  rintro e w7 ⟨rfl, hbq⟩
                  dsimp only
                  refine hK.out _ _ ?_ (fun hHeld => ?_)
                  · (try dsimp only)
                    exact keepS.out _ _ (by assumption) hbq
                  clear hK K
                  try simp only [Act.put, List.getElem_toArray, List.getElem_cons_zero, List.getElem_cons_succ, List.setIfInBounds_toArray, List.set_cons_zero, List.set_cons_succ]
                  refine wpAnyH_take (i := 12) (v := ?v239) rfl (by kernel_rfl) (by kernel_rfl) (by kernel_rfl) (fun _ _ _ h => h) (Or.inl ⟨by rfl, ?hy239⟩) (by assumption) ?rest239
                  case hy239 => (intro w hSw; (try dsimp only at hSw); go_simp; try with_reducible rfl)
                  simp only [Act.put, List.getElem_toArray, List.getElem_cons_zero, List.getElem_cons_succ, List.setIfInBounds_toArray, List.set_cons_zero, List.set_cons_succ]
                  refine wpAnyH_take (i := 13) (v := ?v240) rfl (by kernel_rfl) (by kernel_rfl) (by kernel_rfl) (fun _ _ _ h => h) (Or.inl ⟨by rfl, ?hy240⟩) (by assumption) ?rest240
                  case hy240 => (intro w hSw; (try dsimp only at hSw); go_simp; try with_reducible rfl)
                  simp only [Act.put, List.getElem_toArray, List.getElem_cons_zero, List.getElem_cons_succ, List.setIfInBounds_toArray, List.set_cons_zero, List.set_cons_succ]
                  refine wpAnyH_take (i := 14) (v := ?v241) rfl (by kernel_rfl) (by kernel_rfl) (by kernel_rfl) (fun _ _ _ h => h) (Or.inl ⟨by rfl, ?hy241⟩) (by assumption) ?rest241
                  case hy241 => (intro w hSw; (try dsimp only at hSw); go_simp; try with_reducible rfl)
                  simp only [Act.put, List.getElem_toArray, List.getElem_cons_zero, List.getElem_cons_succ, List.setIfInBounds_toArray, List.set_cons_zero, List.set_cons_succ]
                  refine wpAnyH_take (i := 15) (v := ?v242) rfl (by kernel_rfl) (by kernel_rfl) (by kernel_rfl) (fun _ _ _ h => h) (Or.inl ⟨by rfl, ?hy242⟩) (by assumption) ?rest242
                  case hy242 => (intro w hSw; (try dsimp only at hSw); go_simp; try with_reducible rfl)
                  simp only [Act.put, List.getElem_toArray, List.getElem_cons_zero, List.getElem_cons_succ, List.setIfInBounds_toArray, List.set_cons_zero, List.set_cons_succ]
                  refine wpAnyH_take (i := 16) (v := ?v243) rfl (by kernel_rfl) (by kernel_rfl) (by kernel_rfl) (fun _ _ _ h => h) (Or.inl ⟨by rfl, ?hy243⟩) (by assumption) ?rest243
                  case hy243 => (intro w hSw; (try dsimp only at hSw); go_simp; try with_reducible rfl)
                  simp only [Act.put, List.getElem_toArray, List.getElem_cons_zero, List.getElem_cons_succ, List.setIfInBounds_toArray, List.set_cons_zero, List.set_cons_succ]
                  refine wpAnyH_take (i := 17) (v := ?v244) rfl (by kernel_rfl) (by kernel_rfl) (by kernel_rfl) (fun _ _ _ h => h) (Or.inl ⟨by rfl, ?hy244⟩) (by assumption) ?rest244
                  case hy244 => (intro w hSw; (try dsimp only at hSw); go_simp; try with_reducible rfl)
                  simp only [Act.put, List.getElem_toArray, List.getElem_cons_zero, List.getElem_cons_succ, List.setIfInBounds_toArray, List.set_cons_zero, List.set_cons_succ]
                  refine wpAnyH_take (i := 18) (v := ?v245) rfl (by kernel_rfl) (by kernel_rfl) (by kernel_rfl) (fun _ _ _ h => h) (Or.inl ⟨by rfl, ?hy245⟩) (by assumption) ?rest245
                  case hy245 => (intro w hSw; (try dsimp only at hSw); go_simp; try with_reducible rfl)
                  simp only [Act.put, List.getElem_toArray, List.getElem_cons_zero, List.getElem_cons_succ, List.setIfInBounds_toArray, List.set_cons_zero, List.set_cons_succ]
                  refine wpAnyH_take (i := 19) (v := ?v246) rfl (by kernel_rfl) (by kernel_rfl) (by kernel_rfl) (fun _ _ _ h => h) (Or.inl ⟨by rfl, ?hy246⟩) (by assumption) ?rest246
                  case hy246 => (intro w hSw; (try dsimp only at hSw); go_simp; try with_reducible rfl)
                  simp only [Act.put, List.getElem_toArray, List.getElem_cons_zero, List.getElem_cons_succ, List.setIfInBounds_toArray, List.set_cons_zero, List.set_cons_succ]
                  refine wpAnyH_take (i := 20) (v := ?v247) rfl (by kernel_rfl) (by kernel_rfl) (by kernel_rfl) (fun _ _ _ h => h) (Or.inl ⟨by rfl, ?hy247⟩) (by assumption) ?rest247
                  case hy247 => (intro w hSw; (try dsimp only at hSw); go_simp; try with_reducible rfl)
                  simp only [Act.put, List.getElem_toArray, List.getElem_cons_zero, List.getElem_cons_succ, List.setIfInBounds_toArray, List.set_cons_zero, List.set_cons_succ]
                  refine wpAnyH_take (i := 21) (v := ?v248) rfl (by kernel_rfl) (by kernel_rfl) (by kernel_rfl) (fun _ _ _ h => h) (Or.inl ⟨by rfl, ?hy248⟩) (by assumption) ?rest248
                  case hy248 => (intro w hSw; (try dsimp only at hSw); go_simp; try with_reducible rfl)
                  simp only [Act.put, List.getElem_toArray, List.getElem_cons_zero, List.getElem_cons_succ, List.setIfInBounds_toArray, List.set_cons_zero, List.set_cons_succ]
                  refine wpAnyH_take (i := 22) (v := ?v249) rfl (by kernel_rfl) (by kernel_rfl) (by kernel_rfl) (fun _ _ _ h => h) (Or.inl ⟨by rfl, ?hy249⟩) (by assumption) ?rest249
                  case hy249 => (intro w hSw; (try dsimp only at hSw); go_simp; try with_reducible rfl)
                  simp only [Act.put, List.getElem_toArray, List.getElem_cons_zero, List.getElem_cons_succ, List.setIfInBounds_toArray, List.set_cons_zero, List.set_cons_succ]
                  refine wpAnyH_take (i := 23) (v := ?v250) rfl (by kernel_rfl) (by kernel_rfl) (by kernel_rfl) (fun _ _ _ h => h) (Or.inl ⟨by rfl, ?hy250⟩) (by assumption) ?rest250
                  case hy250 => (intro w hSw; (try dsimp only at hSw); go_simp; try with_reducible rfl)
                  simp only [Act.put, List.getElem_toArray, List.getElem_cons_zero, List.getElem_cons_succ, List.setIfInBounds_toArray, List.set_cons_zero, List.set_cons_succ]
                  refine wpAnyH_take (i := 24) (v := ?v251) rfl (by kernel_rfl) (by kernel_rfl) (by kernel_rfl) (fun _ _ _ h => h) (Or.inl ⟨by rfl, ?hy251⟩) (by assumption) ?rest251
                  case hy251 => (intro w hSw; (try dsimp only at hSw); go_simp; try with_reducible rfl)
                  simp only [Act.put, List.getElem_toArray, List.getElem_cons_zero, List.getElem_cons_succ, List.setIfInBounds_toArray, List.set_cons_zero, List.set_cons_succ]
                  refine wpAnyH_take (i := 25) (v := ?v252) rfl (by kernel_rfl) (by kernel_rfl) (by kernel_rfl) (fun _ _ _ h => h) (Or.inl ⟨by rfl, ?hy252⟩) (by assumption) ?rest252
                  case hy252 => (intro w hSw; (try dsimp only at hSw); go_simp; try with_reducible rfl)
                  simp only [Act.put, List.getElem_toArray, List.getElem_cons_zero, List.getElem_cons_succ, List.setIfInBounds_toArray, List.set_cons_zero, List.set_cons_succ]
                  refine wpAnyH_take (i := 26) (v := ?v253) rfl (by kernel_rfl) (by kernel_rfl) (by kernel_rfl) (fun _ _ _ h => h) (Or.inl ⟨by rfl, ?hy253⟩) (by assumption) ?rest253
                  case hy253 => (intro w hSw; (try dsimp only at hSw); go_simp; try with_reducible rfl)
                  simp only [Act.put, List.getElem_toArray, List.getElem_cons_zero, List.getElem_cons_succ, List.setIfInBounds_toArray, List.set_cons_zero, List.set_cons_succ]
                  refine wpAnyH_take (i := 27) (v := ?v254) rfl (by kernel_rfl) (by kernel_rfl) (by kernel_rfl) (fun _ _ _ h => h) (Or.inl ⟨by rfl, ?hy254⟩) (by assumption) ?rest254
                  case hy254 => (intro w hSw; (try dsimp only at hSw); go_simp; try with_reducible rfl)
                  simp only [Act.put, List.getElem_toArray, List.getElem_cons_zero, List.getElem_cons_succ, List.setIfInBounds_toArray, List.set_cons_zero, List.set_cons_succ]
                  refine wpAnyH_take (i := 28) (v := ?v255) rfl (by kernel_rfl) (by kernel_rfl) (by kernel_rfl) (fun _ _ _ h => h) (Or.inl ⟨by rfl, ?hy255⟩) (by assumption) ?rest255
                  case hy255 => (intro w hSw; (try dsimp only at hSw); go_simp; try with_reducible rfl)
                  simp only [Act.put, List.getElem_toArray, List.getElem_cons_zero, List.getElem_cons_succ, List.setIfInBounds_toArray, List.set_cons_zero, List.set_cons_succ]
                  refine wpAnyH_take (i := 29) (v := ?v256) rfl (by kernel_rfl) (by kernel_rfl) (by kernel_rfl) (fun _ _ _ h => h) (Or.inl ⟨by rfl, ?hy256⟩) (by assumption) ?rest256
                  case hy256 => (intro w hSw; (try dsimp only at hSw); go_simp; try with_reducible rfl)
                  simp only [Act.put, List.getElem_toArray, List.getElem_cons_zero, List.getElem_cons_succ, List.setIfInBounds_toArray, List.set_cons_zero, List.set_cons_succ]
                  refine wpAnyH_done (by kernel_rfl) ?_ _
                  obtain ⟨hb9, _⟩ := hHeld
                  have hz9 := hb9.size
                  repeat' ((fail_if_success at_builtin); (first | go_skip | go_guarded | go_step))
                  go_roundw
                  case rel => exact ⟨k + 1 + 1, by omega, by go_num, hgok.out, hb8.trans (hb9.mono hb8.size), hw18.trans (hb9.mono hw18.size)⟩
                  case measure => simp [intOf]; omega
                · have hp' : x.created < y.created := by omega
                  have hbad : errV z l = 1 := errV_bad (validS_bad hx.out (by rw [hgb, decide_eq_false hp]))
                  replace hbad := Lib.hid hbad
                  replace hgb := Lib.hid hgb
                  have hS : ∀ w', Below w8.heap.size w8 w' → Below w8.heap.size w8 w' ∧ w'.cell? ⟨wr.heap.size, 0, none⟩ = some (.string x.sc.prj) ∧ w'.cell? ⟨wr.heap.size, 1, none⟩ = some (.int .i64 x.sc.trust) ∧ w'.cell? ⟨wr.heap.size, 2, none⟩ = some (.string x.sc.ref) ∧ w'.cell? ⟨wr.heap.size, 3, none⟩ = some (.string x.key) ∧ w'.cell? ⟨wr.heap.size, 4, none⟩ = some (.int .u64 x.dig) ∧ w'.cell? ⟨wr.heap.size, 5, none⟩ = some (.int .i64 x.size) ∧ w'.cell? ⟨wr.heap.size, 6, none⟩ = some (.int .i64 x.created) ∧ w'.cell? ⟨wr.heap.size, 7, none⟩ = some (.int .i64 x.used) ∧ w'.cell? ⟨w.heap.size, 1, none⟩ = some (.slice (some ⟨b, o, none⟩) n c) ∧ w'.cell? ⟨b, o + k * 8 + 6, none⟩ = some (.int .i64 y.created) := fun w' hb => ⟨hb, (hb.cell (p := ⟨wr.heap.size, 0, none⟩) le).trans e0, (hb.cell (p := ⟨wr.heap.size, 1, none⟩) le).trans e1, (hb.cell (p := ⟨wr.heap.size, 2, none⟩) le).trans e2, (hb.cell (p := ⟨wr.heap.size, 3, none⟩) le).trans e3, (hb.cell (p := ⟨wr.heap.size, 4, none⟩) le).trans e4, (hb.cell (p := ⟨wr.heap.size, 5, none⟩) le).trans e5, (hb.cell (p := ⟨wr.heap.size, 6, none⟩) le).trans e6, (hb.cell (p := ⟨wr.heap.size, 7, none⟩) le).trans e7, (hb.cell (p := ⟨w.heap.size, 1, none⟩) l1).trans q1, (hb.cell (p := ⟨b, o + k * 8 + 6, none⟩) lb).trans yp⟩
                  have keepS : ∀ w' w'', (Below w8.heap.size w8 w' ∧ w'.cell? ⟨wr.heap.size, 0, none⟩ = some (.string x.sc.prj) ∧ w'.cell? ⟨wr.heap.size, 1, none⟩ = some (.int .i64 x.sc.trust) ∧ w'.cell? ⟨wr.heap.size, 2, none⟩ = some (.string x.sc.ref) ∧ w'.cell? ⟨wr.heap.size, 3, none⟩ = some (.string x.key) ∧ w'.cell? ⟨wr.heap.size, 4, none⟩ = some (.int .u64 x.dig) ∧ w'.cell? ⟨wr.heap.size, 5, none⟩ = some (.int .i64 x.size) ∧ w'.cell? ⟨wr.heap.size, 6, none⟩ = some (.int .i64 x.created) ∧ w'.cell? ⟨wr.heap.size, 7, none⟩ = some (.int .i64 x.used) ∧ w'.cell? ⟨w.heap.size, 1, none⟩ = some (.slice (some ⟨b, o, none⟩) n c) ∧ w'.cell? ⟨b, o + k * 8 + 6, none⟩ = some (.int .i64 y.created)) → Below w'.heap.size w' w'' → (Below w8.heap.size w8 w'' ∧ w''.cell? ⟨wr.heap.size, 0, none⟩ = some (.string x.sc.prj) ∧ w''.cell? ⟨wr.heap.size, 1, none⟩ = some (.int .i64 x.sc.trust) ∧ w''.cell? ⟨wr.heap.size, 2, none⟩ = some (.string x.sc.ref) ∧ w''.cell? ⟨wr.heap.size, 3, none⟩ = some (.string x.key) ∧ w''.cell? ⟨wr.heap.size, 4, none⟩ = some (.int .u64 x.dig) ∧ w''.cell? ⟨wr.heap.size, 5, none⟩ = some (.int .i64 x.size) ∧ w''.cell? ⟨wr.heap.size, 6, none⟩ = some (.int .i64 x.created) ∧ w''.cell? ⟨wr.heap.size, 7, none⟩ = some (.int .i64 x.used) ∧ w''.cell? ⟨w.heap.size, 1, none⟩ = some (.slice (some ⟨b, o, none⟩) n c) ∧ w''.cell? ⟨b, o + k * 8 + 6, none⟩ = some (.int .i64 y.created)) := fun w' w'' h hc => hS w'' (h.1.trans (hc.mono h.1.size))
                  have CN2 := fun w' (h : Below w8.heap.size w8 w' ∧ w'.cell? ⟨wr.heap.size, 0, none⟩ = some (.string x.sc.prj) ∧ w'.cell? ⟨wr.heap.size, 1, none⟩ = some (.int .i64 x.sc.trust) ∧ w'.cell? ⟨wr.heap.size, 2, none⟩ = some (.string x.sc.ref) ∧ w'.cell? ⟨wr.heap.size, 3, none⟩ = some (.string x.key) ∧ w'.cell? ⟨wr.heap.size, 4, none⟩ = some (.int .u64 x.dig) ∧ w'.cell? ⟨wr.heap.size, 5, none⟩ = some (.int .i64 x.size) ∧ w'.cell? ⟨wr.heap.size, 6, none⟩ = some (.int .i64 x.created) ∧ w'.cell? ⟨wr.heap.size, 7, none⟩ = some (.int .i64 x.used) ∧ w'.cell? ⟨w.heap.size, 1, none⟩ = some (.slice (some ⟨b, o, none⟩) n c) ∧ w'.cell? ⟨b, o + k * 8 + 6, none⟩ = some (.int .i64 y.created)) => CN w' h.1
                  have CF2 := fun w' (h : Below w8.heap.size w8 w' ∧ w'.cell? ⟨wr.heap.size, 0, none⟩ = some (.string x.sc.prj) ∧ w'.cell? ⟨wr.heap.size, 1, none⟩ = some (.int .i64 x.sc.trust) ∧ w'.cell? ⟨wr.heap.size, 2, none⟩ = some (.string x.sc.ref) ∧ w'.cell? ⟨wr.heap.size, 3, none⟩ = some (.string x.key) ∧ w'.cell? ⟨wr.heap.size, 4, none⟩ = some (.int .u64 x.dig) ∧ w'.cell? ⟨wr.heap.size, 5, none⟩ = some (.int .i64 x.size) ∧ w'.cell? ⟨wr.heap.size, 6, none⟩ = some (.int .i64 x.created) ∧ w'.cell? ⟨wr.heap.size, 7, none⟩ = some (.int .i64 x.used) ∧ w'.cell? ⟨w.heap.size, 1, none⟩ = some (.slice (some ⟨b, o, none⟩) n c) ∧ w'.cell? ⟨b, o + k * 8 + 6, none⟩ = some (.int .i64 y.created)) => CF w' h.1
                  have hS1 : Below w8.heap.size w8 w8.drew ∧ w8.drew.cell? ⟨wr.heap.size, 0, none⟩ = some (.string x.sc.prj) ∧ w8.drew.cell? ⟨wr.heap.size, 1, none⟩ = some (.int .i64 x.sc.trust) ∧ w8.drew.cell? ⟨wr.heap.size, 2, none⟩ = some (.string x.sc.ref) ∧ w8.drew.cell? ⟨wr.heap.size, 3, none⟩ = some (.string x.key) ∧ w8.drew.cell? ⟨wr.heap.size, 4, none⟩ = some (.int .u64 x.dig) ∧ w8.drew.cell? ⟨wr.heap.size, 5, none⟩ = some (.int .i64 x.size) ∧ w8.drew.cell? ⟨wr.heap.size, 6, none⟩ = some (.int .i64 x.created) ∧ w8.drew.cell? ⟨wr.heap.size, 7, none⟩ = some (.int .i64 x.used) ∧ w8.drew.cell? ⟨w.heap.size, 1, none⟩ = some (.slice (some ⟨b, o, none⟩) n c) ∧ w8.drew.cell? ⟨b, o + k * 8 + 6, none⟩ = some (.int .i64 y.created) := hS w8.drew (Below.refl _ _).drew
                  replace keepS := Lib.hid keepS
                  replace CN2 := Lib.hid CN2
                  replace CF2 := Lib.hid CF2
                  clear hS
                  refine wp_region_held_drew (S := fun w' => Below w8.heap.size w8 w' ∧ w'.cell? ⟨wr.heap.size, 0, none⟩ = some (.string x.sc.prj) ∧ w'.cell? ⟨wr.heap.size, 1, none⟩ = some (.int .i64 x.sc.trust) ∧ w'.cell? ⟨wr.heap.size, 2, none⟩ = some (.string x.sc.ref) ∧ w'.cell? ⟨wr.heap.size, 3, none⟩ = some (.string x.key) ∧ w'.cell? ⟨wr.heap.size, 4, none⟩ = some (.int .u64 x.dig) ∧ w'.cell? ⟨wr.heap.size, 5, none⟩ = some (.int .i64 x.size) ∧ w'.cell? ⟨wr.heap.size, 6, none⟩ = some (.int .i64 x.created) ∧ w'.cell? ⟨wr.heap.size, 7, none⟩ = some (.int .i64 x.used) ∧ w'.cell? ⟨w.heap.size, 1, none⟩ = some (.slice (some ⟨b, o, none⟩) n c) ∧ w'.cell? ⟨b, o + k * 8 + 6, none⟩ = some (.int .i64 y.created)) (by kernel_rfl) ?_ (fun hHeld => ?_)
                  · (try dsimp only)
                    exact hS1
                  refine wpAnyH_take (i := 0) (v := ?v257) rfl (by kernel_rfl) (by kernel_rfl) (by kernel_rfl) (fun _ _ _ h => h) (Or.inl ⟨by rfl, ?hy257⟩) (by assumption) ?rest257
                  case hy257 => (intro w hSw; (try dsimp only at hSw); go_simp; try with_reducible rfl)
                  simp only [Act.put, List.getElem_toArray, List.getElem_cons_zero, List.setIfInBounds_toArray, List.set_cons_zero, List.set_cons_succ]
                  refine wpAnyH_ready (rs := [1]) (by kernel_rfl) (by simp) ?_
                  refine AllReadyH.cons rfl (fun K hK => ?_) AllReadyH.nil
                  go_simp
                  go_at_call 38
                  refine (CN2.out _ (by assumption)).mono ?_
                  rintro e w7 ⟨rfl, hbq⟩
                  dsimp only
                  simp only [hN]
                  refine hK.out _ _ ?_ (fun hHeld => ?_)
                  · (try dsimp only)
                    exact keepS.out _ _ (by assumption) hbq
                  clear hK K
                  try simp only [Act.put, List.getElem_toArray, List.getElem_cons_zero, List.getElem_cons_succ, List.setIfInBounds_toArray, List.set_cons_zero, List.set_cons_succ]
                  refine wpAnyH_take (i := 2) (v := ?v258) rfl (by kernel_rfl) (by kernel_rfl) (by kernel_rfl) (fun _ _ _ h => h) (Or.inl ⟨by rfl, ?hy258⟩) (by assumption) ?rest258
                  case hy258 => (intro w hSw; (try dsimp only at hSw); go_simp; try with_reducible rfl)
                  simp only [Act.put, List.getElem_toArray, List.getElem_cons_zero, List.getElem_cons_succ, List.setIfInBounds_toArray, List.set_cons_zero, List.set_cons_succ]
                  refine wpAnyH_take (i := 3) (v := ?v259) rfl (by kernel_rfl) (by kernel_rfl) (by kernel_rfl) (fun _ _ _ h => h) (Or.inl ⟨by rfl, ?hy259⟩) (by assumption) ?rest259
                  case hy259 => (intro w hSw; (try dsimp only at hSw); go_simp; try with_reducible rfl)
                  simp only [Act.put, List.getElem_toArray, List.getElem_cons_zero, List.getElem_cons_succ, List.setIfInBounds_toArray, List.set_cons_zero, List.set_cons_succ]
                  refine wpAnyH_take (i := 4) (v := ?v260) rfl (by kernel_rfl) (by kernel_rfl) (by kernel_rfl) (fun _ _ _ h => h) (Or.inl ⟨by rfl, ?hy260⟩) (by assumption) ?rest260
                  case hy260 => (intro w hSw; (try dsimp only at hSw); go_simp; try with_reducible rfl)
                  simp only [Act.put, List.getElem_toArray, List.getElem_cons_zero, List.getElem_cons_succ, List.setIfInBounds_toArray, List.set_cons_zero, List.set_cons_succ]
                  refine wpAnyH_take (i := 5) (v := ?v261) rfl (by kernel_rfl) (by kernel_rfl) (by kernel_rfl) (fun _ _ _ h => h) (Or.inl ⟨by rfl, ?hy261⟩) (by assumption) ?rest261
                  case hy261 => (intro w hSw; (try dsimp only at hSw); go_simp; try with_reducible rfl)
                  simp only [Act.put, List.getElem_toArray, List.getElem_cons_zero, List.getElem_cons_succ, List.setIfInBounds_toArray, List.set_cons_zero, List.set_cons_succ]
                  refine wpAnyH_take (i := 6) (v := ?v262) rfl (by kernel_rfl) (by kernel_rfl) (by kernel_rfl) (fun _ _ _ h => h) (Or.inl ⟨by rfl, ?hy262⟩) (by assumption) ?rest262
                  case hy262 => (intro w hSw; (try dsimp only at hSw); go_simp; try with_reducible rfl)
                  simp only [Act.put, List.getElem_toArray, List.getElem_cons_zero, List.getElem_cons_succ, List.setIfInBounds_toArray, List.set_cons_zero, List.set_cons_succ]
                  refine wpAnyH_take (i := 7) (v := ?v263) rfl (by kernel_rfl) (by kernel_rfl) (by kernel_rfl) (fun _ _ _ h => h) (Or.inl ⟨by rfl, ?hy263⟩) (by assumption) ?rest263
                  case hy263 => (intro w hSw; (try dsimp only at hSw); go_simp; try with_reducible rfl)
                  simp only [Act.put, List.getElem_toArray, List.getElem_cons_zero, List.getElem_cons_succ, List.setIfInBounds_toArray, List.set_cons_zero, List.set_cons_succ]
                  refine wpAnyH_take (i := 8) (v := ?v264) rfl (by kernel_rfl) (by kernel_rfl) (by kernel_rfl) (fun _ _ _ h => h) (Or.inl ⟨by rfl, ?hy264⟩) (by assumption) ?rest264
                  case hy264 => (intro w hSw; (try dsimp only at hSw); go_simp; try with_reducible rfl)
                  simp only [Act.put, List.getElem_toArray, List.getElem_cons_zero, List.getElem_cons_succ, List.setIfInBounds_toArray, List.set_cons_zero, List.set_cons_succ]
                  refine wpAnyH_take (i := 9) (v := ?v265) rfl (by kernel_rfl) (by kernel_rfl) (by kernel_rfl) (fun _ _ _ h => h) (Or.inl ⟨by rfl, ?hy265⟩) (by assumption) ?rest265
                  case hy265 => (intro w hSw; (try dsimp only at hSw); go_simp; try with_reducible rfl)
                  simp only [Act.put, List.getElem_toArray, List.getElem_cons_zero, List.getElem_cons_succ, List.setIfInBounds_toArray, List.set_cons_zero, List.set_cons_succ]
                  refine wpAnyH_take (i := 11) (v := ?v266) rfl (by kernel_rfl) (by kernel_rfl) (by kernel_rfl) (fun _ _ _ h => h) (Or.inl ⟨by rfl, ?hy266⟩) (by assumption) ?rest266
                  case hy266 => (intro w hSw; (try dsimp only at hSw); go_simp; try with_reducible rfl)
                  simp only [Act.put, List.getElem_toArray, List.getElem_cons_zero, List.getElem_cons_succ, List.setIfInBounds_toArray, List.set_cons_zero, List.set_cons_succ]
                  refine wpAnyH_ready (rs := [10]) (by kernel_rfl) (by simp) ?_
                  refine AllReadyH.cons rfl (fun K hK => ?_) AllReadyH.nil
                  go_simp
                  go_at_call 32
                  refine (CF2.out _ (by assumption)).mono ?_
                  rintro e w7 ⟨rfl, hbq⟩
                  dsimp only
                  refine hK.out _ _ ?_ (fun hHeld => ?_)
                  · (try dsimp only)
                    exact keepS.out _ _ (by assumption) hbq
                  clear hK K
                  try simp only [Act.put, List.getElem_toArray, List.getElem_cons_zero, List.getElem_cons_succ, List.setIfInBounds_toArray, List.set_cons_zero, List.set_cons_succ]
                  refine wpAnyH_take (i := 12) (v := ?v267) rfl (by kernel_rfl) (by kernel_rfl) (by kernel_rfl) (fun _ _ _ h => h) (Or.inl ⟨by rfl, ?hy267⟩) (by assumption) ?rest267
                  case hy267 => (intro w hSw; (try dsimp only at hSw); go_simp; try with_reducible rfl)
                  simp only [Act.put, List.getElem_toArray, List.getElem_cons_zero, List.getElem_cons_succ, List.setIfInBounds_toArray, List.set_cons_zero, List.set_cons_succ]
                  refine wpAnyH_take (i := 13) (v := ?v268) rfl (by kernel_rfl) (by kernel_rfl) (by kernel_rfl) (fun _ _ _ h => h) (Or.inl ⟨by rfl, ?hy268⟩) (by assumption) ?rest268
                  case hy268 => (intro w hSw; (try dsimp only at hSw); go_simp; try with_reducible rfl)
                  simp only [Act.put, List.getElem_toArray, List.getElem_cons_zero, List.getElem_cons_succ, List.setIfInBounds_toArray, List.set_cons_zero, List.set_cons_succ]
                  refine wpAnyH_take (i := 14) (v := ?v269) rfl (by kernel_rfl) (by kernel_rfl) (by kernel_rfl) (fun _ _ _ h => h) (Or.inl ⟨by rfl, ?hy269⟩) (by assumption) ?rest269
                  case hy269 => (intro w hSw; (try dsimp only at hSw); go_simp; try with_reducible rfl)
                  simp only [Act.put, List.getElem_toArray, List.getElem_cons_zero, List.getElem_cons_succ, List.setIfInBounds_toArray, List.set_cons_zero, List.set_cons_succ]
                  refine wpAnyH_take (i := 15) (v := ?v270) rfl (by kernel_rfl) (by kernel_rfl) (by kernel_rfl) (fun _ _ _ h => h) (Or.inl ⟨by rfl, ?hy270⟩) (by assumption) ?rest270
                  case hy270 => (intro w hSw; (try dsimp only at hSw); go_simp; try with_reducible rfl)
                  simp only [Act.put, List.getElem_toArray, List.getElem_cons_zero, List.getElem_cons_succ, List.setIfInBounds_toArray, List.set_cons_zero, List.set_cons_succ]
                  refine wpAnyH_take (i := 16) (v := ?v271) rfl (by kernel_rfl) (by kernel_rfl) (by kernel_rfl) (fun _ _ _ h => h) (Or.inl ⟨by rfl, ?hy271⟩) (by assumption) ?rest271
                  case hy271 => (intro w hSw; (try dsimp only at hSw); go_simp; try with_reducible rfl)
                  simp only [Act.put, List.getElem_toArray, List.getElem_cons_zero, List.getElem_cons_succ, List.setIfInBounds_toArray, List.set_cons_zero, List.set_cons_succ]
                  refine wpAnyH_take (i := 17) (v := ?v272) rfl (by kernel_rfl) (by kernel_rfl) (by kernel_rfl) (fun _ _ _ h => h) (Or.inl ⟨by rfl, ?hy272⟩) (by assumption) ?rest272
                  case hy272 => (intro w hSw; (try dsimp only at hSw); go_simp; try with_reducible rfl)
                  simp only [Act.put, List.getElem_toArray, List.getElem_cons_zero, List.getElem_cons_succ, List.setIfInBounds_toArray, List.set_cons_zero, List.set_cons_succ]
                  refine wpAnyH_take (i := 18) (v := ?v273) rfl (by kernel_rfl) (by kernel_rfl) (by kernel_rfl) (fun _ _ _ h => h) (Or.inl ⟨by rfl, ?hy273⟩) (by assumption) ?rest273
                  case hy273 => (intro w hSw; (try dsimp only at hSw); go_simp; try with_reducible rfl)
                  simp only [Act.put, List.getElem_toArray, List.getElem_cons_zero, List.getElem_cons_succ, List.setIfInBounds_toArray, List.set_cons_zero, List.set_cons_succ]
                  refine wpAnyH_take (i := 19) (v := ?v274) rfl (by kernel_rfl) (by kernel_rfl) (by kernel_rfl) (fun _ _ _ h => h) (Or.inl ⟨by rfl, ?hy274⟩) (by assumption) ?rest274
                  case hy274 => (intro w hSw; (try dsimp only at hSw); go_simp; try with_reducible rfl)
                  simp only [Act.put, List.getElem_toArray, List.getElem_cons_zero, List.getElem_cons_succ, List.setIfInBounds_toArray, List.set_cons_zero, List.set_cons_succ]
                  refine wpAnyH_take (i := 20) (v := ?v275) rfl (by kernel_rfl) (by kernel_rfl) (by kernel_rfl) (fun _ _ _ h => h) (Or.inl ⟨by rfl, ?hy275⟩) (by assumption) ?rest275
                  case hy275 => (intro w hSw; (try dsimp only at hSw); go_simp; try with_reducible rfl)
                  simp only [Act.put, List.getElem_toArray, List.getElem_cons_zero, List.getElem_cons_succ, List.setIfInBounds_toArray, List.set_cons_zero, List.set_cons_succ]
                  refine wpAnyH_take (i := 21) (v := ?v276) rfl (by kernel_rfl) (by kernel_rfl) (by kernel_rfl) (fun _ _ _ h => h) (Or.inl ⟨by rfl, ?hy276⟩) (by assumption) ?rest276
                  case hy276 => (intro w hSw; (try dsimp only at hSw); go_simp; try with_reducible rfl)
                  simp only [Act.put, List.getElem_toArray, List.getElem_cons_zero, List.getElem_cons_succ, List.setIfInBounds_toArray, List.set_cons_zero, List.set_cons_succ]
                  refine wpAnyH_take (i := 22) (v := ?v277) rfl (by kernel_rfl) (by kernel_rfl) (by kernel_rfl) (fun _ _ _ h => h) (Or.inl ⟨by rfl, ?hy277⟩) (by assumption) ?rest277
                  case hy277 => (intro w hSw; (try dsimp only at hSw); go_simp; try with_reducible rfl)
                  simp only [Act.put, List.getElem_toArray, List.getElem_cons_zero, List.getElem_cons_succ, List.setIfInBounds_toArray, List.set_cons_zero, List.set_cons_succ]
                  refine wpAnyH_take (i := 23) (v := ?v278) rfl (by kernel_rfl) (by kernel_rfl) (by kernel_rfl) (fun _ _ _ h => h) (Or.inl ⟨by rfl, ?hy278⟩) (by assumption) ?rest278
                  case hy278 => (intro w hSw; (try dsimp only at hSw); go_simp; try with_reducible rfl)
                  simp only [Act.put, List.getElem_toArray, List.getElem_cons_zero, List.getElem_cons_succ, List.setIfInBounds_toArray, List.set_cons_zero, List.set_cons_succ]
                  refine wpAnyH_take (i := 24) (v := ?v279) rfl (by kernel_rfl) (by kernel_rfl) (by kernel_rfl) (fun _ _ _ h => h) (Or.inl ⟨by rfl, ?hy279⟩) (by assumption) ?rest279
                  case hy279 => (intro w hSw; (try dsimp only at hSw); go_simp; try with_reducible rfl)
                  simp only [Act.put, List.getElem_toArray, List.getElem_cons_zero, List.getElem_cons_succ, List.setIfInBounds_toArray, List.set_cons_zero, List.set_cons_succ]
                  refine wpAnyH_take (i := 25) (v := ?v280) rfl (by kernel_rfl) (by kernel_rfl) (by kernel_rfl) (fun _ _ _ h => h) (Or.inl ⟨by rfl, ?hy280⟩) (by assumption) ?rest280
                  case hy280 => (intro w hSw; (try dsimp only at hSw); go_simp; try with_reducible rfl)
                  simp only [Act.put, List.getElem_toArray, List.getElem_cons_zero, List.getElem_cons_succ, List.setIfInBounds_toArray, List.set_cons_zero, List.set_cons_succ]
                  refine wpAnyH_take (i := 26) (v := ?v281) rfl (by kernel_rfl) (by kernel_rfl) (by kernel_rfl) (fun _ _ _ h => h) (Or.inl ⟨by rfl, ?hy281⟩) (by assumption) ?rest281
                  case hy281 => (intro w hSw; (try dsimp only at hSw); go_simp; try with_reducible rfl)
                  simp only [Act.put, List.getElem_toArray, List.getElem_cons_zero, List.getElem_cons_succ, List.setIfInBounds_toArray, List.set_cons_zero, List.set_cons_succ]
                  refine wpAnyH_take (i := 27) (v := ?v282) rfl (by kernel_rfl) (by kernel_rfl) (by kernel_rfl) (fun _ _ _ h => h) (Or.inl ⟨by rfl, ?hy282⟩) (by assumption) ?rest282
                  case hy282 => (intro w hSw; (try dsimp only at hSw); go_simp; try with_reducible rfl)
                  simp only [Act.put, List.getElem_toArray, List.getElem_cons_zero, List.getElem_cons_succ, List.setIfInBounds_toArray, List.set_cons_zero, List.set_cons_succ]
                  refine wpAnyH_take (i := 28) (v := ?v283) rfl (by kernel_rfl) (by kernel_rfl) (by kernel_rfl) (fun _ _ _ h => h) (Or.inl ⟨by rfl, ?hy283⟩) (by assumption) ?rest283
                  case hy283 => (intro w hSw; (try dsimp only at hSw); go_simp; try with_reducible rfl)
                  simp only [Act.put, List.getElem_toArray, List.getElem_cons_zero, List.getElem_cons_succ, List.setIfInBounds_toArray, List.set_cons_zero, List.set_cons_succ]
                  refine wpAnyH_take (i := 29) (v := ?v284) rfl (by kernel_rfl) (by kernel_rfl) (by kernel_rfl) (fun _ _ _ h => h) (Or.inl ⟨by rfl, ?hy284⟩) (by assumption) ?rest284
                  case hy284 => (intro w hSw; (try dsimp only at hSw); go_simp; try with_reducible rfl)
                  simp only [Act.put, List.getElem_toArray, List.getElem_cons_zero, List.getElem_cons_succ, List.setIfInBounds_toArray, List.set_cons_zero, List.set_cons_succ]
                  refine wpAnyH_done (by kernel_rfl) ?_ _
                  have hb9 := hHeld.1
                  repeat' ((fail_if_success at_builtin); (first | go_skip | go_guarded | go_step))
                  go_ret
                  exact ⟨ret_i hbad.out.symm, hb8.trans (hb9.mono hb8.size)⟩
            · have hm' : ((m : Int) != (i : Int)) = true := by simpa using (by omega : ¬ (m : Int) = (i : Int))
              have hbad : errV z l = 1 := errV_bad (validS_bad hx.out (by rw [hga.out, decide_eq_true hm]; simp))
              replace hbad := Lib.hid hbad
              clear hm
              have hS : ∀ w', Below w8.heap.size w8 w' → Below w8.heap.size w8 w' ∧ w'.cell? ⟨wr.heap.size, 0, none⟩ = some (.string x.sc.prj) ∧ w'.cell? ⟨wr.heap.size, 1, none⟩ = some (.int .i64 x.sc.trust) ∧ w'.cell? ⟨wr.heap.size, 2, none⟩ = some (.string x.sc.ref) ∧ w'.cell? ⟨wr.heap.size, 3, none⟩ = some (.string x.key) ∧ w'.cell? ⟨wr.heap.size, 4, none⟩ = some (.int .u64 x.dig) ∧ w'.cell? ⟨wr.heap.size, 5, none⟩ = some (.int .i64 x.size) ∧ w'.cell? ⟨wr.heap.size, 6, none⟩ = some (.int .i64 x.created) ∧ w'.cell? ⟨wr.heap.size, 7, none⟩ = some (.int .i64 x.used) ∧ w'.cell? ⟨w.heap.size, 1, none⟩ = some (.slice (some ⟨b, o, none⟩) n c) := fun w' hb => ⟨hb, (hb.cell (p := ⟨wr.heap.size, 0, none⟩) le).trans e0, (hb.cell (p := ⟨wr.heap.size, 1, none⟩) le).trans e1, (hb.cell (p := ⟨wr.heap.size, 2, none⟩) le).trans e2, (hb.cell (p := ⟨wr.heap.size, 3, none⟩) le).trans e3, (hb.cell (p := ⟨wr.heap.size, 4, none⟩) le).trans e4, (hb.cell (p := ⟨wr.heap.size, 5, none⟩) le).trans e5, (hb.cell (p := ⟨wr.heap.size, 6, none⟩) le).trans e6, (hb.cell (p := ⟨wr.heap.size, 7, none⟩) le).trans e7, (hb.cell (p := ⟨w.heap.size, 1, none⟩) l1).trans q1⟩
              have keepS : ∀ w' w'', (Below w8.heap.size w8 w' ∧ w'.cell? ⟨wr.heap.size, 0, none⟩ = some (.string x.sc.prj) ∧ w'.cell? ⟨wr.heap.size, 1, none⟩ = some (.int .i64 x.sc.trust) ∧ w'.cell? ⟨wr.heap.size, 2, none⟩ = some (.string x.sc.ref) ∧ w'.cell? ⟨wr.heap.size, 3, none⟩ = some (.string x.key) ∧ w'.cell? ⟨wr.heap.size, 4, none⟩ = some (.int .u64 x.dig) ∧ w'.cell? ⟨wr.heap.size, 5, none⟩ = some (.int .i64 x.size) ∧ w'.cell? ⟨wr.heap.size, 6, none⟩ = some (.int .i64 x.created) ∧ w'.cell? ⟨wr.heap.size, 7, none⟩ = some (.int .i64 x.used) ∧ w'.cell? ⟨w.heap.size, 1, none⟩ = some (.slice (some ⟨b, o, none⟩) n c)) → Below w'.heap.size w' w'' → (Below w8.heap.size w8 w'' ∧ w''.cell? ⟨wr.heap.size, 0, none⟩ = some (.string x.sc.prj) ∧ w''.cell? ⟨wr.heap.size, 1, none⟩ = some (.int .i64 x.sc.trust) ∧ w''.cell? ⟨wr.heap.size, 2, none⟩ = some (.string x.sc.ref) ∧ w''.cell? ⟨wr.heap.size, 3, none⟩ = some (.string x.key) ∧ w''.cell? ⟨wr.heap.size, 4, none⟩ = some (.int .u64 x.dig) ∧ w''.cell? ⟨wr.heap.size, 5, none⟩ = some (.int .i64 x.size) ∧ w''.cell? ⟨wr.heap.size, 6, none⟩ = some (.int .i64 x.created) ∧ w''.cell? ⟨wr.heap.size, 7, none⟩ = some (.int .i64 x.used) ∧ w''.cell? ⟨w.heap.size, 1, none⟩ = some (.slice (some ⟨b, o, none⟩) n c)) := fun w' w'' h hc => hS w'' (h.1.trans (hc.mono h.1.size))
              have CN2 := fun w' (h : Below w8.heap.size w8 w' ∧ w'.cell? ⟨wr.heap.size, 0, none⟩ = some (.string x.sc.prj) ∧ w'.cell? ⟨wr.heap.size, 1, none⟩ = some (.int .i64 x.sc.trust) ∧ w'.cell? ⟨wr.heap.size, 2, none⟩ = some (.string x.sc.ref) ∧ w'.cell? ⟨wr.heap.size, 3, none⟩ = some (.string x.key) ∧ w'.cell? ⟨wr.heap.size, 4, none⟩ = some (.int .u64 x.dig) ∧ w'.cell? ⟨wr.heap.size, 5, none⟩ = some (.int .i64 x.size) ∧ w'.cell? ⟨wr.heap.size, 6, none⟩ = some (.int .i64 x.created) ∧ w'.cell? ⟨wr.heap.size, 7, none⟩ = some (.int .i64 x.used) ∧ w'.cell? ⟨w.heap.size, 1, none⟩ = some (.slice (some ⟨b, o, none⟩) n c)) => CN w' h.1
              have CF2 := fun w' (h : Below w8.heap.size w8 w' ∧ w'.cell? ⟨wr.heap.size, 0, none⟩ = some (.string x.sc.prj) ∧ w'.cell? ⟨wr.heap.size, 1, none⟩ = some (.int .i64 x.sc.trust) ∧ w'.cell? ⟨wr.heap.size, 2, none⟩ = some (.string x.sc.ref) ∧ w'.cell? ⟨wr.heap.size, 3, none⟩ = some (.string x.key) ∧ w'.cell? ⟨wr.heap.size, 4, none⟩ = some (.int .u64 x.dig) ∧ w'.cell? ⟨wr.heap.size, 5, none⟩ = some (.int .i64 x.size) ∧ w'.cell? ⟨wr.heap.size, 6, none⟩ = some (.int .i64 x.created) ∧ w'.cell? ⟨wr.heap.size, 7, none⟩ = some (.int .i64 x.used) ∧ w'.cell? ⟨w.heap.size, 1, none⟩ = some (.slice (some ⟨b, o, none⟩) n c)) => CF w' h.1
              have hS1 : Below w8.heap.size w8 w8.drew ∧ w8.drew.cell? ⟨wr.heap.size, 0, none⟩ = some (.string x.sc.prj) ∧ w8.drew.cell? ⟨wr.heap.size, 1, none⟩ = some (.int .i64 x.sc.trust) ∧ w8.drew.cell? ⟨wr.heap.size, 2, none⟩ = some (.string x.sc.ref) ∧ w8.drew.cell? ⟨wr.heap.size, 3, none⟩ = some (.string x.key) ∧ w8.drew.cell? ⟨wr.heap.size, 4, none⟩ = some (.int .u64 x.dig) ∧ w8.drew.cell? ⟨wr.heap.size, 5, none⟩ = some (.int .i64 x.size) ∧ w8.drew.cell? ⟨wr.heap.size, 6, none⟩ = some (.int .i64 x.created) ∧ w8.drew.cell? ⟨wr.heap.size, 7, none⟩ = some (.int .i64 x.used) ∧ w8.drew.cell? ⟨w.heap.size, 1, none⟩ = some (.slice (some ⟨b, o, none⟩) n c) := hS w8.drew (Below.refl _ _).drew
              replace keepS := Lib.hid keepS
              replace CN2 := Lib.hid CN2
              replace CF2 := Lib.hid CF2
              clear hS
              refine wp_region_held_drew (S := fun w' => Below w8.heap.size w8 w' ∧ w'.cell? ⟨wr.heap.size, 0, none⟩ = some (.string x.sc.prj) ∧ w'.cell? ⟨wr.heap.size, 1, none⟩ = some (.int .i64 x.sc.trust) ∧ w'.cell? ⟨wr.heap.size, 2, none⟩ = some (.string x.sc.ref) ∧ w'.cell? ⟨wr.heap.size, 3, none⟩ = some (.string x.key) ∧ w'.cell? ⟨wr.heap.size, 4, none⟩ = some (.int .u64 x.dig) ∧ w'.cell? ⟨wr.heap.size, 5, none⟩ = some (.int .i64 x.size) ∧ w'.cell? ⟨wr.heap.size, 6, none⟩ = some (.int .i64 x.created) ∧ w'.cell? ⟨wr.heap.size, 7, none⟩ = some (.int .i64 x.used) ∧ w'.cell? ⟨w.heap.size, 1, none⟩ = some (.slice (some ⟨b, o, none⟩) n c)) (by kernel_rfl) ?_ (fun hHeld => ?_)
              · (try dsimp only)
                exact hS1
              refine wpAnyH_take (i := 0) (v := ?v285) rfl (by kernel_rfl) (by kernel_rfl) (by kernel_rfl) (fun _ _ _ h => h) (Or.inl ⟨by rfl, ?hy285⟩) (by assumption) ?rest285
              case hy285 => (intro w hSw; (try dsimp only at hSw); go_simp; try with_reducible rfl)
              simp only [Act.put, List.getElem_toArray, List.getElem_cons_zero, List.setIfInBounds_toArray, List.set_cons_zero, List.set_cons_succ]
              refine wpAnyH_ready (rs := [1]) (by kernel_rfl) (by simp) ?_
              refine AllReadyH.cons rfl (fun K hK => ?_) AllReadyH.nil
              go_simp
              go_at_call 38
              refine (CN2.out _ (by assumption)).mono ?_
              rintro e w7 ⟨rfl, hbq⟩
              dsimp only
              simp only [hN]
              refine hK.out _ _ ?_ (fun hHeld => ?_)
              · (try dsimp only)
                exact keepS.out _ _ (by assumption) hbq
              clear hK K
              try simp only [Act.put, List.getElem_toArray, List.getElem_cons_zero, List.getElem_cons_succ, List.setIfInBounds_toArray, List.set_cons_zero, List.set_cons_succ]
              refine wpAnyH_take (i := 2) (v := ?v286) rfl (by kernel_rfl) (by kernel_rfl) (by kernel_rfl) (fun _ _ _ h => h) (Or.inl ⟨by rfl, ?hy286⟩) (by assumption) ?rest286
              case hy286 => (intro w hSw; (try dsimp only at hSw); go_simp; try with_reducible rfl)
              simp only [Act.put, List.getElem_toArray, List.getElem_cons_zero, List.getElem_cons_succ, List.setIfInBounds_toArray, List.set_cons_zero, List.set_cons_succ]
              refine wpAnyH_take (i := 3) (v := ?v287) rfl (by kernel_rfl) (by kernel_rfl) (by kernel_rfl) (fun _ _ _ h => h) (Or.inl ⟨by rfl, ?hy287⟩) (by assumption) ?rest287
              case hy287 => (intro w hSw; (try dsimp only at hSw); go_simp; try with_reducible rfl)
              simp only [Act.put, List.getElem_toArray, List.getElem_cons_zero, List.getElem_cons_succ, List.setIfInBounds_toArray, List.set_cons_zero, List.set_cons_succ]
              refine wpAnyH_take (i := 4) (v := ?v288) rfl (by kernel_rfl) (by kernel_rfl) (by kernel_rfl) (fun _ _ _ h => h) (Or.inl ⟨by rfl, ?hy288⟩) (by assumption) ?rest288
              case hy288 => (intro w hSw; (try dsimp only at hSw); go_simp; try with_reducible rfl)
              simp only [Act.put, List.getElem_toArray, List.getElem_cons_zero, List.getElem_cons_succ, List.setIfInBounds_toArray, List.set_cons_zero, List.set_cons_succ]
              refine wpAnyH_take (i := 5) (v := ?v289) rfl (by kernel_rfl) (by kernel_rfl) (by kernel_rfl) (fun _ _ _ h => h) (Or.inl ⟨by rfl, ?hy289⟩) (by assumption) ?rest289
              case hy289 => (intro w hSw; (try dsimp only at hSw); go_simp; try with_reducible rfl)
              simp only [Act.put, List.getElem_toArray, List.getElem_cons_zero, List.getElem_cons_succ, List.setIfInBounds_toArray, List.set_cons_zero, List.set_cons_succ]
              refine wpAnyH_take (i := 6) (v := ?v290) rfl (by kernel_rfl) (by kernel_rfl) (by kernel_rfl) (fun _ _ _ h => h) (Or.inl ⟨by rfl, ?hy290⟩) (by assumption) ?rest290
              case hy290 => (intro w hSw; (try dsimp only at hSw); go_simp; try with_reducible rfl)
              simp only [Act.put, List.getElem_toArray, List.getElem_cons_zero, List.getElem_cons_succ, List.setIfInBounds_toArray, List.set_cons_zero, List.set_cons_succ]
              refine wpAnyH_take (i := 7) (v := ?v291) rfl (by kernel_rfl) (by kernel_rfl) (by kernel_rfl) (fun _ _ _ h => h) (Or.inl ⟨by rfl, ?hy291⟩) (by assumption) ?rest291
              case hy291 => (intro w hSw; (try dsimp only at hSw); go_simp; try with_reducible rfl)
              simp only [Act.put, List.getElem_toArray, List.getElem_cons_zero, List.getElem_cons_succ, List.setIfInBounds_toArray, List.set_cons_zero, List.set_cons_succ]
              refine wpAnyH_take (i := 8) (v := ?v292) rfl (by kernel_rfl) (by kernel_rfl) (by kernel_rfl) (fun _ _ _ h => h) (Or.inl ⟨by rfl, ?hy292⟩) (by assumption) ?rest292
              case hy292 => (intro w hSw; (try dsimp only at hSw); go_simp; try with_reducible rfl)
              simp only [Act.put, List.getElem_toArray, List.getElem_cons_zero, List.getElem_cons_succ, List.setIfInBounds_toArray, List.set_cons_zero, List.set_cons_succ]
              refine wpAnyH_take (i := 9) (v := ?v293) rfl (by kernel_rfl) (by kernel_rfl) (by kernel_rfl) (fun _ _ _ h => h) (Or.inl ⟨by rfl, ?hy293⟩) (by assumption) ?rest293
              case hy293 => (intro w hSw; (try dsimp only at hSw); go_simp; try with_reducible rfl)
              simp only [Act.put, List.getElem_toArray, List.getElem_cons_zero, List.getElem_cons_succ, List.setIfInBounds_toArray, List.set_cons_zero, List.set_cons_succ]
              refine wpAnyH_take (i := 11) (v := ?v294) rfl (by kernel_rfl) (by kernel_rfl) (by kernel_rfl) (fun _ _ _ h => h) (Or.inl ⟨by rfl, ?hy294⟩) (by assumption) ?rest294
              case hy294 => (intro w hSw; (try dsimp only at hSw); go_simp; try with_reducible rfl)
              simp only [Act.put, List.getElem_toArray, List.getElem_cons_zero, List.getElem_cons_succ, List.setIfInBounds_toArray, List.set_cons_zero, List.set_cons_succ]
              refine wpAnyH_ready (rs := [10]) (by kernel_rfl) (by simp) ?_
              refine AllReadyH.cons rfl (fun K hK => ?_) AllReadyH.nil
              go_simp
              go_at_call 32
              refine (CF2.out _ (by assumption)).mono ?_
              rintro e w7 ⟨rfl, hbq⟩
              dsimp only
              refine hK.out _ _ ?_ (fun hHeld => ?_)
              · (try dsimp only)
                exact keepS.out _ _ (by assumption) hbq
              clear hK K
              try simp only [Act.put, List.getElem_toArray, List.getElem_cons_zero, List.getElem_cons_succ, List.setIfInBounds_toArray, List.set_cons_zero, List.set_cons_succ]
              refine wpAnyH_take (i := 12) (v := ?v295) rfl (by kernel_rfl) (by kernel_rfl) (by kernel_rfl) (fun _ _ _ h => h) (Or.inl ⟨by rfl, ?hy295⟩) (by assumption) ?rest295
              case hy295 => (intro w hSw; (try dsimp only at hSw); go_simp; try with_reducible rfl)
              simp only [Act.put, List.getElem_toArray, List.getElem_cons_zero, List.getElem_cons_succ, List.setIfInBounds_toArray, List.set_cons_zero, List.set_cons_succ]
              refine wpAnyH_take (i := 13) (v := ?v296) rfl (by kernel_rfl) (by kernel_rfl) (by kernel_rfl) (fun _ _ _ h => h) (Or.inl ⟨by rfl, ?hy296⟩) (by assumption) ?rest296
              case hy296 => (intro w hSw; (try dsimp only at hSw); go_simp; try with_reducible rfl)
              simp only [Act.put, List.getElem_toArray, List.getElem_cons_zero, List.getElem_cons_succ, List.setIfInBounds_toArray, List.set_cons_zero, List.set_cons_succ]
              refine wpAnyH_take (i := 14) (v := ?v297) rfl (by kernel_rfl) (by kernel_rfl) (by kernel_rfl) (fun _ _ _ h => h) (Or.inl ⟨by rfl, ?hy297⟩) (by assumption) ?rest297
              case hy297 => (intro w hSw; (try dsimp only at hSw); go_simp; try with_reducible rfl)
              simp only [Act.put, List.getElem_toArray, List.getElem_cons_zero, List.getElem_cons_succ, List.setIfInBounds_toArray, List.set_cons_zero, List.set_cons_succ]
              refine wpAnyH_take (i := 15) (v := undef) rfl (by kernel_rfl) (by kernel_rfl) (by kernel_rfl) (fun _ _ _ h => h) (Or.inr ⟨by rfl, rfl⟩) (by assumption) ?_
              simp only [Act.put, List.getElem_toArray, List.getElem_cons_zero, List.getElem_cons_succ, List.setIfInBounds_toArray, List.set_cons_zero, List.set_cons_succ]
              refine wpAnyH_take (i := 16) (v := undef) rfl (by kernel_rfl) (by kernel_rfl) (by kernel_rfl) (fun _ _ _ h => h) (Or.inr ⟨by rfl, rfl⟩) (by assumption) ?_
              simp only [Act.put, List.getElem_toArray, List.getElem_cons_zero, List.getElem_cons_succ, List.setIfInBounds_toArray, List.set_cons_zero, List.set_cons_succ]
              refine wpAnyH_take (i := 17) (v := undef) rfl (by kernel_rfl) (by kernel_rfl) (by kernel_rfl) (fun _ _ _ h => h) (Or.inr ⟨by rfl, rfl⟩) (by assumption) ?_
              simp only [Act.put, List.getElem_toArray, List.getElem_cons_zero, List.getElem_cons_succ, List.setIfInBounds_toArray, List.set_cons_zero, List.set_cons_succ]
              refine wpAnyH_take (i := 18) (v := undef) rfl (by kernel_rfl) (by kernel_rfl) (by kernel_rfl) (fun _ _ _ h => h) (Or.inr ⟨by rfl, rfl⟩) (by assumption) ?_
              simp only [Act.put, List.getElem_toArray, List.getElem_cons_zero, List.getElem_cons_succ, List.setIfInBounds_toArray, List.set_cons_zero, List.set_cons_succ]
              refine wpAnyH_take (i := 19) (v := undef) rfl (by kernel_rfl) (by kernel_rfl) (by kernel_rfl) (fun _ _ _ h => h) (Or.inr ⟨by rfl, rfl⟩) (by assumption) ?_
              simp only [Act.put, List.getElem_toArray, List.getElem_cons_zero, List.getElem_cons_succ, List.setIfInBounds_toArray, List.set_cons_zero, List.set_cons_succ]
              refine wpAnyH_take (i := 20) (v := undef) rfl (by kernel_rfl) (by kernel_rfl) (by kernel_rfl) (fun _ _ _ h => h) (Or.inr ⟨by rfl, rfl⟩) (by assumption) ?_
              simp only [Act.put, List.getElem_toArray, List.getElem_cons_zero, List.getElem_cons_succ, List.setIfInBounds_toArray, List.set_cons_zero, List.set_cons_succ]
              refine wpAnyH_take (i := 21) (v := undef) rfl (by kernel_rfl) (by kernel_rfl) (by kernel_rfl) (fun _ _ _ h => h) (Or.inr ⟨by rfl, rfl⟩) (by assumption) ?_
              simp only [Act.put, List.getElem_toArray, List.getElem_cons_zero, List.getElem_cons_succ, List.setIfInBounds_toArray, List.set_cons_zero, List.set_cons_succ]
              refine wpAnyH_take (i := 22) (v := undef) rfl (by kernel_rfl) (by kernel_rfl) (by kernel_rfl) (fun _ _ _ h => h) (Or.inr ⟨by rfl, rfl⟩) (by assumption) ?_
              simp only [Act.put, List.getElem_toArray, List.getElem_cons_zero, List.getElem_cons_succ, List.setIfInBounds_toArray, List.set_cons_zero, List.set_cons_succ]
              refine wpAnyH_take (i := 23) (v := undef) rfl (by kernel_rfl) (by kernel_rfl) (by kernel_rfl) (fun _ _ _ h => h) (Or.inr ⟨by rfl, rfl⟩) (by assumption) ?_
              simp only [Act.put, List.getElem_toArray, List.getElem_cons_zero, List.getElem_cons_succ, List.setIfInBounds_toArray, List.set_cons_zero, List.set_cons_succ]
              refine wpAnyH_take (i := 24) (v := undef) rfl (by kernel_rfl) (by kernel_rfl) (by kernel_rfl) (fun _ _ _ h => h) (Or.inr ⟨by rfl, rfl⟩) (by assumption) ?_
              simp only [Act.put, List.getElem_toArray, List.getElem_cons_zero, List.getElem_cons_succ, List.setIfInBounds_toArray, List.set_cons_zero, List.set_cons_succ]
              refine wpAnyH_take (i := 25) (v := undef) rfl (by kernel_rfl) (by kernel_rfl) (by kernel_rfl) (fun _ _ _ h => h) (Or.inr ⟨by rfl, rfl⟩) (by assumption) ?_
              simp only [Act.put, List.getElem_toArray, List.getElem_cons_zero, List.getElem_cons_succ, List.setIfInBounds_toArray, List.set_cons_zero, List.set_cons_succ]
              refine wpAnyH_take (i := 26) (v := undef) rfl (by kernel_rfl) (by kernel_rfl) (by kernel_rfl) (fun _ _ _ h => h) (Or.inr ⟨by rfl, rfl⟩) (by assumption) ?_
              simp only [Act.put, List.getElem_toArray, List.getElem_cons_zero, List.getElem_cons_succ, List.setIfInBounds_toArray, List.set_cons_zero, List.set_cons_succ]
              refine wpAnyH_take (i := 27) (v := undef) rfl (by kernel_rfl) (by kernel_rfl) (by kernel_rfl) (fun _ _ _ h => h) (Or.inr ⟨by rfl, rfl⟩) (by assumption) ?_
              simp only [Act.put, List.getElem_toArray, List.getElem_cons_zero, List.getElem_cons_succ, List.setIfInBounds_toArray, List.set_cons_zero, List.set_cons_succ]
              refine wpAnyH_take (i := 28) (v := undef) rfl (by kernel_rfl) (by kernel_rfl) (by kernel_rfl) (fun _ _ _ h => h) (Or.inr ⟨by rfl, rfl⟩) (by assumption) ?_
              simp only [Act.put, List.getElem_toArray, List.getElem_cons_zero, List.getElem_cons_succ, List.setIfInBounds_toArray, List.set_cons_zero, List.set_cons_succ]
              refine wpAnyH_take (i := 29) (v := ?v298) rfl (by kernel_rfl) (by kernel_rfl) (by kernel_rfl) (fun _ _ _ h => h) (Or.inl ⟨by rfl, ?hy298⟩) (by assumption) ?rest298
              case hy298 => (intro w hSw; (try dsimp only at hSw); go_simp; try with_reducible rfl)
              simp only [Act.put, List.getElem_toArray, List.getElem_cons_zero, List.getElem_cons_succ, List.setIfInBounds_toArray, List.set_cons_zero, List.set_cons_succ]
              refine wpAnyH_done (by kernel_rfl) ?_ _
              have hb9 := hHeld.1
              repeat' ((fail_if_success at_builtin); (first | go_skip | go_guarded | go_step))
              go_ret
              exact ⟨ret_i hbad.out.symm, hb8.trans (hb9.mono hb8.size)⟩
        · have i1 : ¬ ((i : Int) < (n : Int)) := by omega
          obtain rfl : i = n := by omega
          have hall := allGood_of (l := l) (by have := hn2.out; subst this; exact hgood)
          rw [hall, Bool.true_and] at hval
          have CU := fun (w' : World) (h : Below wr.heap.size wr w') => refUsed_any z l A i c w' hn2.out ((hs.out.below (hbr.trans (h.mono hbr.size))).more (Nat.le_trans hbr.size h.size)) (by omega) (fun x hx => (hf.out x hx).z)
          have hev : errV z l = if usedS l ≤ z then 0 else 1 := by
            unfold errV
            rw [hval]
            by_cases h : usedS l ≤ z
            · rw [decide_eq_true h, if_pos h]; rfl
            · rw [decide_eq_false h, if_neg h]; rfl
          generalize usedS l = us at *
          have keepS : ∀ w' w'', (Below wr.heap.size wr w' ∧ w'.cell? ⟨w.heap.size, 0, none⟩ = some (.int .i64 z) ∧ w'.cell? ⟨w.heap.size, 1, none⟩ = some (.slice A i c)) → Below w'.heap.size w' w'' → (Below wr.heap.size wr w'' ∧ w''.cell? ⟨w.heap.size, 0, none⟩ = some (.int .i64 z) ∧ w''.cell? ⟨w.heap.size, 1, none⟩ = some (.slice A i c)) := fun w' w'' h hc => ⟨h.1.trans (hc.mono h.1.size), (hc.cell (p := ⟨w.heap.size, 0, none⟩) (Nat.lt_of_lt_of_le l0 h.1.size)).trans h.2.1, (hc.cell (p := ⟨w.heap.size, 1, none⟩) (Nat.lt_of_lt_of_le l0 h.1.size)).trans h.2.2⟩
          have CU2 := fun (w' : World) (h : Below wr.heap.size wr w' ∧ w'.cell? ⟨w.heap.size, 0, none⟩ = some (.int .i64 z) ∧ w'.cell? ⟨w.heap.size, 1, none⟩ = some (.slice A i c)) => CU w' h.1
          replace CU2 := Lib.hid CU2
          replace keepS := Lib.hid keepS
          clear CU hgood hall
          by_cases hu : us ≤ z
          · have hu' : ¬ (z < us) := by omega
            rw [if_pos hu] at hev
            replace hev := Lib.hid hev
            replace hval := Lib.hid hval
            repeat' ((fail_if_success at_builtin); (first | go_skip | go_guarded | go_step))
            first
              | (go_region_held3 (fun w' => Below wr.heap.size wr w' ∧ w'.cell? ⟨w.heap.size, 0, none⟩ = some (.int .i64 z) ∧ w'.cell? ⟨w.heap.size, 1, none⟩ = some (.slice A i c))
                  (first | exact ⟨(Below.refl _ _).drew, q0, q1⟩ | exact keepS.out _ _ (by assumption) hbq)
                  (first | (go_at_call 14; refine (CU2.out _ (by assumption)).mono ?_; rintro e w7 ⟨rfl, hbq⟩; dsimp only)))
            all_goals
              have hb9 : Below wr.heap.size wr _ := And.left (by assumption)
              repeat' ((fail_if_success at_builtin); (first | go_skip | go_guarded | go_step))
              go_ret
              exact ⟨ret_i hev.out.symm, hbr.trans (hb9.mono hbr.size)⟩
          · have hu' : z < us := by omega
            rw [if_neg hu] at hev
            replace hev := Lib.hid hev
            replace hval := Lib.hid hval
            repeat' ((fail_if_success at_builtin); (first | go_skip | go_guarded | go_step))
            first
              | (go_region_held3 (fun w' => Below wr.heap.size wr w' ∧ w'.cell? ⟨w.heap.size, 0, none⟩ = some (.int .i64 z) ∧ w'.cell? ⟨w.heap.size, 1, none⟩ = some (.slice A i c))
                  (first | exact ⟨(Below.refl _ _).drew, q0, q1⟩ | exact keepS.out _ _ (by assumption) hbq)
                  (first | (go_at_call 14; refine (CU2.out _ (by assumption)).mono ?_; rintro e w7 ⟨rfl, hbq⟩; dsimp only)))
            all_goals
              have hb9 : Below wr.heap.size wr _ := And.left (by assumption)
              repeat' ((fail_if_success at_builtin); (first | go_skip | go_guarded | go_step))
              go_ret
              exact ⟨ret_i hev.out.symm, hbr.trans (hb9.mono hbr.size)⟩
    · have hl3 : (1024 : Int) < (n : Int) := by omega
      have hbad : errV z l = 1 := errV_bad (by unfold validS; rw [decide_eq_false (by omega : ¬ l.length ≤ 1024)]; simp)
      replace hbad := Lib.hid hbad
      clear hn
      go_enter Tryd.func12, Tryd.ntmps12
      repeat' ((fail_if_success at_builtin); (first | go_skip | go_guarded | go_step))
      refine (inside_any _ _ _ _).mono ?_
      rintro e w1 ⟨rfl, rfl⟩
      dsimp only
      rw [hz]
      repeat' ((fail_if_success at_builtin); (first | go_skip | go_guarded | go_step))
      go_ret
      exact ⟨ret_i hbad.out.symm, hb0⟩
  · have hz2 : inR z 0 1099511627776 = false := by simpa using hz
    have hbad : errV z l = 1 := errV_bad (by unfold validS; rw [hz2]; rfl)
    replace hbad := Lib.hid hbad
    clear hn hz
    go_enter Tryd.func12, Tryd.ntmps12
    repeat' ((fail_if_success at_builtin); (first | go_skip | go_guarded | go_step))
    refine (inside_any _ _ _ _).mono ?_
    rintro e w1 ⟨rfl, rfl⟩
    dsimp only
    rw [hz2]
    repeat' ((fail_if_success at_builtin); (first | go_skip | go_guarded | go_step))
    go_ret
    exact ⟨ret_i hbad.out.symm, hb0⟩
end Go.Proofs.YtpdlapdnjmoaoaaDoor
