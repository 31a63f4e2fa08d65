/- Cache: Valid: what it says; the program's walk. -/
import Derived.Test.YtpdlapdnjmoaoaaDoorCaM
namespace Go.Proofs.YtpdlapdnjmoaoaaDoor
open Go.RowKit Go.Maps
theorem grow_cell {w w' : World} {g : Nat} (h : w.grownBy w' (some g)) {p : Addr} (h1 : p.block < w.heap.size) (h2 : p.block ≠ g) : w'.cell? p = w.cell? p := World.cell?_of_block (h.block p.block h1 (fun e => h2 (by injection e)))
def prevOk (l : List Ent) (i : Nat) (x : Ent) : Bool := match i with
  | 0 => true
  | j + 1 => match l[j]? with
    | some y => decide (y.created ≤ x.created)
    | none => true
def goodAt (l : List Ent) (i : Nat) (x : Ent) : Bool := rightS x && !((l.take i).any (hitE x.sc x.key)) && prevOk l i x
def GoodTo (l : List Ent) (i : Nat) : Prop := ∀ (j : Nat) (x : Ent), j < i → l[j]? = some x → goodAt l j x = true
def allGood (l : List Ent) : Bool := (List.range l.length).all fun i => match l[i]? with
  | some x => goodAt l i x
  | none => true
theorem allGood_of {l : List Ent} (h : GoodTo l l.length) : allGood l = true := by
  unfold allGood
  rw [List.all_eq_true]
  intro i hi
  have hi := List.mem_range.1 hi
  have hx : l[i]? = some l[i] := List.getElem?_eq_getElem hi
  rw [hx]
  exact h i _ hi hx
theorem allGood_not {l : List Ent} {i : Nat} {x : Ent} (hx : l[i]? = some x) (h : goodAt l i x = false) : allGood l = false := by
  cases ha : allGood l
  · rfl
  · unfold allGood at ha
    rw [List.all_eq_true] at ha
    have := ha i (List.mem_range.2 (List.getElem?_eq_some_iff.1 hx).1)
    rw [hx] at this
    dsimp only at this
    rw [h] at this
    cases this
theorem GoodTo.snoc {l : List Ent} {i : Nat} {x : Ent} (h : GoodTo l i) (hx : l[i]? = some x) (hg : goodAt l i x = true) : GoodTo l (i + 1) := by
  intro j y hj hy
  by_cases e : j = i
  · subst e
    rw [hx] at hy
    cases hy
    exact hg
  · exact h j y (by omega) hy
def validS (z : Int) (l : List Ent) : Bool := inR z 0 1099511627776 && decide (l.length ≤ 1024) && allGood l && decide (usedS l ≤ z)
def errV (z : Int) (l : List Ent) : Int := if validS z l then 0 else 1
theorem errV_bad {z : Int} {l : List Ent} (h : validS z l = false) : errV z l = 1 := by unfold errV; rw [h]; rfl
theorem validS_bad {z : Int} {l : List Ent} {i : Nat} {x : Ent} (hx : l[i]? = some x) (h : goodAt l i x = false) : validS z l = false := by
  unfold validS
  rw [allGood_not hx h, Bool.and_false, Bool.false_and]
theorem Below.grownB {w w' : World} (h : Below w.heap.size w w') (r : Option Nat) : w.grownBy w' r := ⟨h.os, h.tape, h.output, h.size, fun k hk _ => h.block k hk⟩
set_option maxRecDepth 100000 in
set_option maxHeartbeats 8000000 in
theorem valid_any (z : Int) (l : List Ent) (A : Option Addr) (n c : Nat) (w : World) (hR : Ready w) (hn : n = l.length) (hs : Seq w w.heap.size 8 A n (entsC l)) (hl : n ≤ 1000000000) (hf : ∀ x ∈ l, x.fit) :
    Calls Tryd.prog 11 #[cval z A n c] w fun e w' => e = .returned (.int .i64 (errV z l)) ∧ Below w.heap.size w w' := by
  have hb0 := (Below.refl w.heap.size w).alloc (Nat.le_refl _) (.cells #[.int .i64 z, .slice A n c] 24)
  have hmm := @run_makeMap Tryd.prog
  replace hf := Lib.hid hf
  replace hs := Lib.hid hs
  have hn2 := Lib.hid hn
  by_cases hz : inR z 0 1099511627776 = true
  · by_cases hl2 : n ≤ 1024
    · have hl3 : ¬ (1024 : Int) < (n : Int) := by omega
      have hval : validS z l = (allGood l && decide (usedS l ≤ z)) := by unfold validS; rw [hz, decide_eq_true (by omega : l.length ≤ 1024)]; rfl
      replace hval := Lib.hid hval
      clear hn
      go_enter Tryd.func11, Tryd.ntmps11
      repeat' ((fail_if_success at_builtin); (first | go_skip | go_guarded | go_step))
      refine (within_any _ _ _ _).mono ?_
      rintro e w1 ⟨rfl, rfl⟩
      dsimp only
      rw [hz]
      repeat' ((fail_if_success at_builtin); (first | go_skip | go_guarded | go_step))
      have hmp := World.ownsMap_made (H := Unit) (w.alloc (.cells #[.int .i64 z, .slice A n c] 24)) Tryd.prog 70 trueE
      have hszb : (w.alloc (.cells #[.int .i64 z, .slice A n c] 24)).heap.size = w.heap.size + 1 := by simp
      rw [hszb] at hmp
      have hb2 := hb0.alloc hb0.size (.map #[] 0)
      have p0 : ((w.alloc (.cells #[.int .i64 z, .slice A n c] 24)).alloc (.map #[] 0)).cell? ⟨w.heap.size, 0, none⟩ = some (.int .i64 z) := by simp [go_sem]
      have p1 : ((w.alloc (.cells #[.int .i64 z, .slice A n c] 24)).alloc (.map #[] 0)).cell? ⟨w.heap.size, 1, none⟩ = some (.slice A n c) := by simp [go_sem]
      have hsz2 : ((w.alloc (.cells #[.int .i64 z, .slice A n c] 24)).alloc (.map #[] 0)).heap.size = w.heap.size + 2 := by simp
      generalize World.alloc (World.alloc w _) _ = w1 at *
      clear hszb hb0 hmm
      go_loopw [21] (fun u21 wr => ∃ i : Nat, i ≤ n ∧ u21 = .int .i64 (i : Int) ∧ GoodTo l i ∧ w1.grownBy wr (some (w.heap.size + 1)) ∧ Names wr (w.heap.size + 1) (l.take i)) (fun u21 _ => n - (intOf u21).toNat)
      case atStart => exact ⟨0, by omega, rfl, fun j x hj => by omega, World.grownBy.refl _ _, hmp⟩
      case round =>
        clear hmp
        obtain ⟨i, hi, rfl, hgood, hgr, hnm⟩ := hrel
        have hsr := hgr.size
        have hbr : Below w.heap.size w wr := hb2.grown hgr (by omega) (fun k hk => by injection hk with hk; omega)
        have q0 := (grow_cell hgr (p := ⟨w.heap.size, 0, none⟩) (by show w.heap.size < _; omega) (by show w.heap.size ≠ _; omega)).trans p0
        have q1 := (grow_cell hgr (p := ⟨w.heap.size, 1, none⟩) (by show w.heap.size < _; omega) (by show w.heap.size ≠ _; omega)).trans p1
        have l0 : w.heap.size < wr.heap.size := by omega
        by_cases hlt : i < n
        · have hlt2 : i < l.length := by have := hn2.out; omega
          have hx : l[i]? = some l[i] := List.getElem?_eq_getElem hlt2
          obtain ⟨b, o, rfl, hbB, hc⟩ := ent_at hs.out hn2.out hx
          have hc := hc.map (fun j => hbr.cell (p := ⟨b, o + i * 8 + j, none⟩) hbB)
          have hxf := hf.out _ (List.getElem_mem hlt2)
          have htk : l.take (i + 1) = l.take i ++ [l[i]] := by rw [List.take_add_one, hx]; rfl
          generalize l[i] = x at *
          obtain ⟨c0, c1, c2, c3, c4, c5, c6, c7⟩ := hc
          have i0 : (0 : Int) ≤ (i : Int) := by omega
          have i1 : (i : Int) < (n : Int) := by omega
          have i2 : IntKind.i64.wrap ((i : Int) + 1) = (i : Int) + 1 := IntWalk.i64_in _ (by omega)
          have hkey := klOf_key hxf
          have hlk := fun (w' : World) (h : Names w' (w.heap.size + 1) (l.take i)) => h.look (fun y hy => hf.out y (List.mem_of_mem_take hy)) hxf
          have hga : goodAt l i x = (rightS x && !((l.take i).any (hitE x.sc x.key)) && prevOk l i x) := rfl
          have hra : rightS x = (namedS x && inR x.size 0 1099511627776 && inR x.created 0 1125899906842624 && inR x.used x.created 1125899906842624) := rfl
          generalize hhv : (l.take i).any (hitE x.sc x.key) = hv at *
          replace hkey := Lib.hid hkey
          replace hlk := Lib.hid hlk
          replace hga := Lib.hid hga
          replace htk := Lib.hid htk
          replace hgood := Lib.hid hgood
          replace hx := Lib.hid hx
          replace hgr := Lib.hid hgr
          clear hhv
          repeat' ((fail_if_success at_builtin); (first | go_skip | go_guarded | go_step))
          generalize hw8 : World.alloc (World.alloc wr _) _ = w8
          have hbw : Below wr.heap.size wr w8 := by rw [← hw8]; exact ((Below.refl _ _).alloc (Nat.le_refl _) _).alloc (by simp) _
          have e0 : w8.cell? ⟨wr.heap.size, 0, none⟩ = some (.string x.sc.prj) := by rw [← hw8]; simp [go_sem]
          have e1 : w8.cell? ⟨wr.heap.size, 1, none⟩ = some (.int .i64 x.sc.trust) := by rw [← hw8]; simp [go_sem]
          have e2 : w8.cell? ⟨wr.heap.size, 2, none⟩ = some (.string x.sc.ref) := by rw [← hw8]; simp [go_sem]
          have e3 : w8.cell? ⟨wr.heap.size, 3, none⟩ = some (.string x.key) := by rw [← hw8]; simp [go_sem]
          have e4 : w8.cell? ⟨wr.heap.size, 4, none⟩ = some (.int .u64 x.dig) := by rw [← hw8]; simp [go_sem]
          have e5 : w8.cell? ⟨wr.heap.size, 5, none⟩ = some (.int .i64 x.size) := by rw [← hw8]; simp [go_sem]
          have e6 : w8.cell? ⟨wr.heap.size, 6, none⟩ = some (.int .i64 x.created) := by rw [← hw8]; simp [go_sem]
          have e7 : w8.cell? ⟨wr.heap.size, 7, none⟩ = some (.int .i64 x.used) := by rw [← hw8]; simp [go_sem]
          have n0 : w8.cell? ⟨wr.heap.size + 1, 0, none⟩ = some (.string x.sc.prj) := by rw [← hw8]; simp [go_sem]
          have n1 : w8.cell? ⟨wr.heap.size + 1, 1, none⟩ = some (.int .i64 x.sc.trust) := by rw [← hw8]; simp [go_sem]
          have n2 : w8.cell? ⟨wr.heap.size + 1, 2, none⟩ = some (.string x.sc.ref) := by rw [← hw8]; simp [go_sem]
          have n3 : w8.cell? ⟨wr.heap.size + 1, 3, none⟩ = some (.string x.key) := by rw [← hw8]; simp [go_sem]
          have hz8 : w8.heap.size = wr.heap.size + 2 := by rw [← hw8]; simp
          clear hw8
          have hb8 := hbr.trans (hbw.mono hbr.size)
          have hnm8 := hnm.kept hbw (by omega)
          have hgr8 := hgr.out.trans (Below.grownB hbw _)
          have le : wr.heap.size < w8.heap.size := by omega
          have ln : wr.heap.size + 1 < w8.heap.size := by omega
          have l1 : w.heap.size < w8.heap.size := by omega
          replace q1 := (hbw.cell (p := ⟨w.heap.size, 1, none⟩) l0).trans q1
          have hlook := fun (w' : World) (h : Below w8.heap.size w8 w') => hlk.out w' (hnm8.kept h (by omega))
          have CN := fun (w' : World) (h : Below w8.heap.size w8 w') => named_any x w' (hR.below (hb8.trans (h.mono hb8.size))) hxf.p hxf.r
          have CW := fun (a b c : Int) (w' : World) => (within_any a b c w').mono (fun e w2 h => (⟨h.1, h.2 ▸ Below.refl _ _⟩ : e = Ending.returned (.bool (inR a b c)) ∧ Below w'.heap.size w' w2))
          replace hnm8 := Lib.hid hnm8
          replace hgr8 := Lib.hid hgr8
          replace CW := Lib.hid CW
          clear c0 c1 c2 c3 c4 c5 c6 c7 hnm hgr hbr
          cases hN : namedS x with
          | false =>
            have hbad : errV z l = 1 := errV_bad (validS_bad hx.out (by rw [hga.out, hra]; simp [hN]))
            replace hbad := Lib.hid hbad
            have hS : ∀ w', Below w8.heap.size w8 w' → Below w8.heap.size w8 w' ∧ w'.cell? ⟨wr.heap.size, 0, none⟩ = some (.string x.sc.prj) ∧ w'.cell? ⟨wr.heap.size, 1, none⟩ = some (.int .i64 x.sc.trust) ∧ w'.cell? ⟨wr.heap.size, 2, none⟩ = some (.string x.sc.ref) ∧ w'.cell? ⟨wr.heap.size, 3, none⟩ = some (.string x.key) ∧ w'.cell? ⟨wr.heap.size, 4, none⟩ = some (.int .u64 x.dig) ∧ w'.cell? ⟨wr.heap.size, 5, none⟩ = some (.int .i64 x.size) ∧ w'.cell? ⟨wr.heap.size, 6, none⟩ = some (.int .i64 x.created) ∧ w'.cell? ⟨wr.heap.size, 7, none⟩ = some (.int .i64 x.used) ∧ w'.cell? ⟨wr.heap.size + 1, 0, none⟩ = some (.string x.sc.prj) ∧ w'.cell? ⟨wr.heap.size + 1, 1, none⟩ = some (.int .i64 x.sc.trust) ∧ w'.cell? ⟨wr.heap.size + 1, 2, none⟩ = some (.string x.sc.ref) ∧ w'.cell? ⟨wr.heap.size + 1, 3, none⟩ = some (.string x.key) ∧ w'.cell? ⟨w.heap.size, 1, none⟩ = some (.slice (some ⟨b, o, none⟩) n c) ∧ (Instr.lookup 68 (.map (some (w.heap.size + 1))) (.agg #[.string x.sc.prj, .int .i64 x.sc.trust, .string x.sc.ref, .string x.key]) false).run Tryd.prog w' = .ok (.bool hv) w' := fun w' hb => ⟨hb, (hb.cell (p := ⟨wr.heap.size, 0, none⟩) le).trans e0, (hb.cell (p := ⟨wr.heap.size, 1, none⟩) le).trans e1, (hb.cell (p := ⟨wr.heap.size, 2, none⟩) le).trans e2, (hb.cell (p := ⟨wr.heap.size, 3, none⟩) le).trans e3, (hb.cell (p := ⟨wr.heap.size, 4, none⟩) le).trans e4, (hb.cell (p := ⟨wr.heap.size, 5, none⟩) le).trans e5, (hb.cell (p := ⟨wr.heap.size, 6, none⟩) le).trans e6, (hb.cell (p := ⟨wr.heap.size, 7, none⟩) le).trans e7, (hb.cell (p := ⟨wr.heap.size + 1, 0, none⟩) ln).trans n0, (hb.cell (p := ⟨wr.heap.size + 1, 1, none⟩) ln).trans n1, (hb.cell (p := ⟨wr.heap.size + 1, 2, none⟩) ln).trans n2, (hb.cell (p := ⟨wr.heap.size + 1, 3, none⟩) ln).trans n3, (hb.cell (p := ⟨w.heap.size, 1, none⟩) l1).trans q1, hlook w' hb⟩
            have keepS : ∀ w' w'', (Below w8.heap.size w8 w' ∧ w'.cell? ⟨wr.heap.size, 0, none⟩ = some (.string x.sc.prj) ∧ w'.cell? ⟨wr.heap.size, 1, none⟩ = some (.int .i64 x.sc.trust) ∧ w'.cell? ⟨wr.heap.size, 2, none⟩ = some (.string x.sc.ref) ∧ w'.cell? ⟨wr.heap.size, 3, none⟩ = some (.string x.key) ∧ w'.cell? ⟨wr.heap.size, 4, none⟩ = some (.int .u64 x.dig) ∧ w'.cell? ⟨wr.heap.size, 5, none⟩ = some (.int .i64 x.size) ∧ w'.cell? ⟨wr.heap.size, 6, none⟩ = some (.int .i64 x.created) ∧ w'.cell? ⟨wr.heap.size, 7, none⟩ = some (.int .i64 x.used) ∧ w'.cell? ⟨wr.heap.size + 1, 0, none⟩ = some (.string x.sc.prj) ∧ w'.cell? ⟨wr.heap.size + 1, 1, none⟩ = some (.int .i64 x.sc.trust) ∧ w'.cell? ⟨wr.heap.size + 1, 2, none⟩ = some (.string x.sc.ref) ∧ w'.cell? ⟨wr.heap.size + 1, 3, none⟩ = some (.string x.key) ∧ w'.cell? ⟨w.heap.size, 1, none⟩ = some (.slice (some ⟨b, o, none⟩) n c) ∧ (Instr.lookup 68 (.map (some (w.heap.size + 1))) (.agg #[.string x.sc.prj, .int .i64 x.sc.trust, .string x.sc.ref, .string x.key]) false).run Tryd.prog w' = .ok (.bool hv) w') → Below w'.heap.size w' w'' → (Below w8.heap.size w8 w'' ∧ w''.cell? ⟨wr.heap.size, 0, none⟩ = some (.string x.sc.prj) ∧ w''.cell? ⟨wr.heap.size, 1, none⟩ = some (.int .i64 x.sc.trust) ∧ w''.cell? ⟨wr.heap.size, 2, none⟩ = some (.string x.sc.ref) ∧ w''.cell? ⟨wr.heap.size, 3, none⟩ = some (.string x.key) ∧ w''.cell? ⟨wr.heap.size, 4, none⟩ = some (.int .u64 x.dig) ∧ w''.cell? ⟨wr.heap.size, 5, none⟩ = some (.int .i64 x.size) ∧ w''.cell? ⟨wr.heap.size, 6, none⟩ = some (.int .i64 x.created) ∧ w''.cell? ⟨wr.heap.size, 7, none⟩ = some (.int .i64 x.used) ∧ w''.cell? ⟨wr.heap.size + 1, 0, none⟩ = some (.string x.sc.prj) ∧ w''.cell? ⟨wr.heap.size + 1, 1, none⟩ = some (.int .i64 x.sc.trust) ∧ w''.cell? ⟨wr.heap.size + 1, 2, none⟩ = some (.string x.sc.ref) ∧ w''.cell? ⟨wr.heap.size + 1, 3, none⟩ = some (.string x.key) ∧ w''.cell? ⟨w.heap.size, 1, none⟩ = some (.slice (some ⟨b, o, none⟩) n c) ∧ (Instr.lookup 68 (.map (some (w.heap.size + 1))) (.agg #[.string x.sc.prj, .int .i64 x.sc.trust, .string x.sc.ref, .string x.key]) false).run Tryd.prog w'' = .ok (.bool hv) w'') := fun w' w'' h hc => hS w'' (h.1.trans (hc.mono h.1.size))
            have CN2 := fun w' (h : Below w8.heap.size w8 w' ∧ w'.cell? ⟨wr.heap.size, 0, none⟩ = some (.string x.sc.prj) ∧ w'.cell? ⟨wr.heap.size, 1, none⟩ = some (.int .i64 x.sc.trust) ∧ w'.cell? ⟨wr.heap.size, 2, none⟩ = some (.string x.sc.ref) ∧ w'.cell? ⟨wr.heap.size, 3, none⟩ = some (.string x.key) ∧ w'.cell? ⟨wr.heap.size, 4, none⟩ = some (.int .u64 x.dig) ∧ w'.cell? ⟨wr.heap.size, 5, none⟩ = some (.int .i64 x.size) ∧ w'.cell? ⟨wr.heap.size, 6, none⟩ = some (.int .i64 x.created) ∧ w'.cell? ⟨wr.heap.size, 7, none⟩ = some (.int .i64 x.used) ∧ w'.cell? ⟨wr.heap.size + 1, 0, none⟩ = some (.string x.sc.prj) ∧ w'.cell? ⟨wr.heap.size + 1, 1, none⟩ = some (.int .i64 x.sc.trust) ∧ w'.cell? ⟨wr.heap.size + 1, 2, none⟩ = some (.string x.sc.ref) ∧ w'.cell? ⟨wr.heap.size + 1, 3, none⟩ = some (.string x.key) ∧ w'.cell? ⟨w.heap.size, 1, none⟩ = some (.slice (some ⟨b, o, none⟩) n c) ∧ (Instr.lookup 68 (.map (some (w.heap.size + 1))) (.agg #[.string x.sc.prj, .int .i64 x.sc.trust, .string x.sc.ref, .string x.key]) false).run Tryd.prog w' = .ok (.bool hv) w') => CN w' h.1
            have hS1 : Below w8.heap.size w8 w8.drew ∧ w8.drew.cell? ⟨wr.heap.size, 0, none⟩ = some (.string x.sc.prj) ∧ w8.drew.cell? ⟨wr.heap.size, 1, none⟩ = some (.int .i64 x.sc.trust) ∧ w8.drew.cell? ⟨wr.heap.size, 2, none⟩ = some (.string x.sc.ref) ∧ w8.drew.cell? ⟨wr.heap.size, 3, none⟩ = some (.string x.key) ∧ w8.drew.cell? ⟨wr.heap.size, 4, none⟩ = some (.int .u64 x.dig) ∧ w8.drew.cell? ⟨wr.heap.size, 5, none⟩ = some (.int .i64 x.size) ∧ w8.drew.cell? ⟨wr.heap.size, 6, none⟩ = some (.int .i64 x.created) ∧ w8.drew.cell? ⟨wr.heap.size, 7, none⟩ = some (.int .i64 x.used) ∧ w8.drew.cell? ⟨wr.heap.size + 1, 0, none⟩ = some (.string x.sc.prj) ∧ w8.drew.cell? ⟨wr.heap.size + 1, 1, none⟩ = some (.int .i64 x.sc.trust) ∧ w8.drew.cell? ⟨wr.heap.size + 1, 2, none⟩ = some (.string x.sc.ref) ∧ w8.drew.cell? ⟨wr.heap.size + 1, 3, none⟩ = some (.string x.key) ∧ w8.drew.cell? ⟨w.heap.size, 1, none⟩ = some (.slice (some ⟨b, o, none⟩) n c) ∧ (Instr.lookup 68 (.map (some (w.heap.size + 1))) (.agg #[.string x.sc.prj, .int .i64 x.sc.trust, .string x.sc.ref, .string x.key]) false).run Tryd.prog w8.drew = .ok (.bool hv) w8.drew := hS w8.drew (Below.refl _ _).drew
            have hS0 : Below w8.heap.size w8 w8 ∧ w8.cell? ⟨wr.heap.size, 0, none⟩ = some (.string x.sc.prj) ∧ w8.cell? ⟨wr.heap.size, 1, none⟩ = some (.int .i64 x.sc.trust) ∧ w8.cell? ⟨wr.heap.size, 2, none⟩ = some (.string x.sc.ref) ∧ w8.cell? ⟨wr.heap.size, 3, none⟩ = some (.string x.key) ∧ w8.cell? ⟨wr.heap.size, 4, none⟩ = some (.int .u64 x.dig) ∧ w8.cell? ⟨wr.heap.size, 5, none⟩ = some (.int .i64 x.size) ∧ w8.cell? ⟨wr.heap.size, 6, none⟩ = some (.int .i64 x.created) ∧ w8.cell? ⟨wr.heap.size, 7, none⟩ = some (.int .i64 x.used) ∧ w8.cell? ⟨wr.heap.size + 1, 0, none⟩ = some (.string x.sc.prj) ∧ w8.cell? ⟨wr.heap.size + 1, 1, none⟩ = some (.int .i64 x.sc.trust) ∧ w8.cell? ⟨wr.heap.size + 1, 2, none⟩ = some (.string x.sc.ref) ∧ w8.cell? ⟨wr.heap.size + 1, 3, none⟩ = some (.string x.key) ∧ w8.cell? ⟨w.heap.size, 1, none⟩ = some (.slice (some ⟨b, o, none⟩) n c) ∧ (Instr.lookup 68 (.map (some (w.heap.size + 1))) (.agg #[.string x.sc.prj, .int .i64 x.sc.trust, .string x.sc.ref, .string x.key]) false).run Tryd.prog w8 = .ok (.bool hv) w8 := hS w8 (Below.refl _ _)
            replace keepS := Lib.hid keepS
            replace CN2 := Lib.hid CN2
            clear hS
            refine wp_region_held_drew (S := fun w' => Below w8.heap.size w8 w' ∧ w'.cell? ⟨wr.heap.size, 0, none⟩ = some (.string x.sc.prj) ∧ w'.cell? ⟨wr.heap.size, 1, none⟩ = some (.int .i64 x.sc.trust) ∧ w'.cell? ⟨wr.heap.size, 2, none⟩ = some (.string x.sc.ref) ∧ w'.cell? ⟨wr.heap.size, 3, none⟩ = some (.string x.key) ∧ w'.cell? ⟨wr.heap.size, 4, none⟩ = some (.int .u64 x.dig) ∧ w'.cell? ⟨wr.heap.size, 5, none⟩ = some (.int .i64 x.size) ∧ w'.cell? ⟨wr.heap.size, 6, none⟩ = some (.int .i64 x.created) ∧ w'.cell? ⟨wr.heap.size, 7, none⟩ = some (.int .i64 x.used) ∧ w'.cell? ⟨wr.heap.size + 1, 0, none⟩ = some (.string x.sc.prj) ∧ w'.cell? ⟨wr.heap.size + 1, 1, none⟩ = some (.int .i64 x.sc.trust) ∧ w'.cell? ⟨wr.heap.size + 1, 2, none⟩ = some (.string x.sc.ref) ∧ w'.cell? ⟨wr.heap.size + 1, 3, none⟩ = some (.string x.key) ∧ w'.cell? ⟨w.heap.size, 1, none⟩ = some (.slice (some ⟨b, o, none⟩) n c) ∧ (Instr.lookup 68 (.map (some (w.heap.size + 1))) (.agg #[.string x.sc.prj, .int .i64 x.sc.trust, .string x.sc.ref, .string x.key]) false).run Tryd.prog w' = .ok (.bool hv) w') (by kernel_rfl) ?_ (fun hHeld => ?_)
            · (try dsimp only)
              exact hS1
            refine wpAnyH_take (i := 0) (v := ?v1) rfl (by kernel_rfl) (by kernel_rfl) (by kernel_rfl) (fun _ _ _ h => h) (Or.inl ⟨by rfl, ?hy1⟩) (by assumption) ?rest1
            case hy1 => (intro w hSw; (try dsimp only at hSw); go_simp; try with_reducible rfl)
            simp only [Act.put, List.getElem_toArray, List.getElem_cons_zero, List.setIfInBounds_toArray, List.set_cons_zero, List.set_cons_succ]
            refine wpAnyH_ready (rs := [1]) (by kernel_rfl) (by simp) ?_
            refine AllReadyH.cons rfl (fun K hK => ?_) AllReadyH.nil
            go_simp
            go_at_call 36
            refine (CN2.out _ (by assumption)).mono ?_
            rintro e w7 ⟨rfl, hbq⟩
            dsimp only
            simp only [hN]
            refine hK.out _ _ ?_ (fun hHeld => ?_)
            · (try dsimp only)
              exact keepS.out _ _ (by assumption) hbq
            clear hK K
            try simp only [Act.put, List.getElem_toArray, List.getElem_cons_zero, List.getElem_cons_succ, List.setIfInBounds_toArray, List.set_cons_zero, List.set_cons_succ]
            refine wpAnyH_take (i := 2) (v := ?v2) rfl (by kernel_rfl) (by kernel_rfl) (by kernel_rfl) (fun _ _ _ h => h) (Or.inl ⟨by rfl, ?hy2⟩) (by assumption) ?rest2
            case hy2 => (intro w hSw; (try dsimp only at hSw); go_simp; try with_reducible rfl)
            simp only [Act.put, List.getElem_toArray, List.getElem_cons_zero, List.getElem_cons_succ, List.setIfInBounds_toArray, List.set_cons_zero, List.set_cons_succ]
            refine wpAnyH_take (i := 3) (v := ?v3) rfl (by kernel_rfl) (by kernel_rfl) (by kernel_rfl) (fun _ _ _ h => h) (Or.inl ⟨by rfl, ?hy3⟩) (by assumption) ?rest3
            case hy3 => (intro w hSw; (try dsimp only at hSw); go_simp; try with_reducible rfl)
            simp only [Act.put, List.getElem_toArray, List.getElem_cons_zero, List.getElem_cons_succ, List.setIfInBounds_toArray, List.set_cons_zero, List.set_cons_succ]
            refine wpAnyH_take (i := 4) (v := undef) rfl (by kernel_rfl) (by kernel_rfl) (by kernel_rfl) (fun _ _ _ h => h) (Or.inr ⟨by rfl, rfl⟩) (by assumption) ?_
            simp only [Act.put, List.getElem_toArray, List.getElem_cons_zero, List.getElem_cons_succ, List.setIfInBounds_toArray, List.set_cons_zero, List.set_cons_succ]
            refine wpAnyH_take (i := 5) (v := undef) rfl (by kernel_rfl) (by kernel_rfl) (by kernel_rfl) (fun _ _ _ h => h) (Or.inr ⟨by rfl, rfl⟩) (by assumption) ?_
            simp only [Act.put, List.getElem_toArray, List.getElem_cons_zero, List.getElem_cons_succ, List.setIfInBounds_toArray, List.set_cons_zero, List.set_cons_succ]
            refine wpAnyH_take (i := 6) (v := undef) rfl (by kernel_rfl) (by kernel_rfl) (by kernel_rfl) (fun _ _ _ h => h) (Or.inr ⟨by rfl, rfl⟩) (by assumption) ?_
            simp only [Act.put, List.getElem_toArray, List.getElem_cons_zero, List.getElem_cons_succ, List.setIfInBounds_toArray, List.set_cons_zero, List.set_cons_succ]
            refine wpAnyH_take (i := 7) (v := undef) rfl (by kernel_rfl) (by kernel_rfl) (by kernel_rfl) (fun _ _ _ h => h) (Or.inr ⟨by rfl, rfl⟩) (by assumption) ?_
            simp only [Act.put, List.getElem_toArray, List.getElem_cons_zero, List.getElem_cons_succ, List.setIfInBounds_toArray, List.set_cons_zero, List.set_cons_succ]
            refine wpAnyH_take (i := 8) (v := ?v4) rfl (by kernel_rfl) (by kernel_rfl) (by kernel_rfl) (fun _ _ _ h => h) (Or.inl ⟨by rfl, ?hy4⟩) (by assumption) ?rest4
            case hy4 => (intro w hSw; (try dsimp only at hSw); go_simp; try with_reducible rfl)
            simp only [Act.put, List.getElem_toArray, List.getElem_cons_zero, List.getElem_cons_succ, List.setIfInBounds_toArray, List.set_cons_zero, List.set_cons_succ]
            refine wpAnyH_take (i := 9) (v := ?v5) rfl (by kernel_rfl) (by kernel_rfl) (by kernel_rfl) (fun _ _ _ h => h) (Or.inl ⟨by rfl, ?hy5⟩) (by assumption) ?rest5
            case hy5 => (intro w hSw; (try dsimp only at hSw); go_simp; try with_reducible rfl)
            simp only [Act.put, List.getElem_toArray, List.getElem_cons_zero, List.getElem_cons_succ, List.setIfInBounds_toArray, List.set_cons_zero, List.set_cons_succ]
            refine wpAnyH_take (i := 10) (v := undef) rfl (by kernel_rfl) (by kernel_rfl) (by kernel_rfl) (fun _ _ _ h => h) (Or.inr ⟨by rfl, rfl⟩) (by assumption) ?_
            simp only [Act.put, List.getElem_toArray, List.getElem_cons_zero, List.getElem_cons_succ, List.setIfInBounds_toArray, List.set_cons_zero, List.set_cons_succ]
            refine wpAnyH_take (i := 11) (v := undef) rfl (by kernel_rfl) (by kernel_rfl) (by kernel_rfl) (fun _ _ _ h => h) (Or.inr ⟨by rfl, rfl⟩) (by assumption) ?_
            simp only [Act.put, List.getElem_toArray, List.getElem_cons_zero, List.getElem_cons_succ, List.setIfInBounds_toArray, List.set_cons_zero, List.set_cons_succ]
            refine wpAnyH_take (i := 12) (v := undef) rfl (by kernel_rfl) (by kernel_rfl) (by kernel_rfl) (fun _ _ _ h => h) (Or.inr ⟨by rfl, rfl⟩) (by assumption) ?_
            simp only [Act.put, List.getElem_toArray, List.getElem_cons_zero, List.getElem_cons_succ, List.setIfInBounds_toArray, List.set_cons_zero, List.set_cons_succ]
            refine wpAnyH_take (i := 13) (v := undef) rfl (by kernel_rfl) (by kernel_rfl) (by kernel_rfl) (fun _ _ _ h => h) (Or.inr ⟨by rfl, rfl⟩) (by assumption) ?_
            simp only [Act.put, List.getElem_toArray, List.getElem_cons_zero, List.getElem_cons_succ, List.setIfInBounds_toArray, List.set_cons_zero, List.set_cons_succ]
            refine wpAnyH_take (i := 14) (v := ?v6) rfl (by kernel_rfl) (by kernel_rfl) (by kernel_rfl) (fun _ _ _ h => h) (Or.inl ⟨by rfl, ?hy6⟩) (by assumption) ?rest6
            case hy6 => (intro w hSw; (try dsimp only at hSw); go_simp; try with_reducible rfl)
            simp only [Act.put, List.getElem_toArray, List.getElem_cons_zero, List.getElem_cons_succ, List.setIfInBounds_toArray, List.set_cons_zero, List.set_cons_succ]
            refine wpAnyH_take (i := 15) (v := ?v7) rfl (by kernel_rfl) (by kernel_rfl) (by kernel_rfl) (fun _ _ _ h => h) (Or.inl ⟨by rfl, ?hy7⟩) (by assumption) ?rest7
            case hy7 => (intro w hSw; (try dsimp only at hSw); go_simp; try with_reducible rfl)
            simp only [Act.put, List.getElem_toArray, List.getElem_cons_zero, List.getElem_cons_succ, List.setIfInBounds_toArray, List.set_cons_zero, List.set_cons_succ]
            refine wpAnyH_take (i := 16) (v := undef) rfl (by kernel_rfl) (by kernel_rfl) (by kernel_rfl) (fun _ _ _ h => h) (Or.inr ⟨by rfl, rfl⟩) (by assumption) ?_
            simp only [Act.put, List.getElem_toArray, List.getElem_cons_zero, List.getElem_cons_succ, List.setIfInBounds_toArray, List.set_cons_zero, List.set_cons_succ]
            refine wpAnyH_take (i := 17) (v := undef) rfl (by kernel_rfl) (by kernel_rfl) (by kernel_rfl) (fun _ _ _ h => h) (Or.inr ⟨by rfl, rfl⟩) (by assumption) ?_
            simp only [Act.put, List.getElem_toArray, List.getElem_cons_zero, List.getElem_cons_succ, List.setIfInBounds_toArray, List.set_cons_zero, List.set_cons_succ]
            refine wpAnyH_take (i := 18) (v := undef) rfl (by kernel_rfl) (by kernel_rfl) (by kernel_rfl) (fun _ _ _ h => h) (Or.inr ⟨by rfl, rfl⟩) (by assumption) ?_
            simp only [Act.put, List.getElem_toArray, List.getElem_cons_zero, List.getElem_cons_succ, List.setIfInBounds_toArray, List.set_cons_zero, List.set_cons_succ]
            refine wpAnyH_take (i := 19) (v := undef) rfl (by kernel_rfl) (by kernel_rfl) (by kernel_rfl) (fun _ _ _ h => h) (Or.inr ⟨by rfl, rfl⟩) (by assumption) ?_
            simp only [Act.put, List.getElem_toArray, List.getElem_cons_zero, List.getElem_cons_succ, List.setIfInBounds_toArray, List.set_cons_zero, List.set_cons_succ]
            refine wpAnyH_take (i := 20) (v := undef) rfl (by kernel_rfl) (by kernel_rfl) (by kernel_rfl) (fun _ _ _ h => h) (Or.inr ⟨by rfl, rfl⟩) (by assumption) ?_
            simp only [Act.put, List.getElem_toArray, List.getElem_cons_zero, List.getElem_cons_succ, List.setIfInBounds_toArray, List.set_cons_zero, List.set_cons_succ]
            refine wpAnyH_take (i := 21) (v := undef) rfl (by kernel_rfl) (by kernel_rfl) (by kernel_rfl) (fun _ _ _ h => h) (Or.inr ⟨by rfl, rfl⟩) (by assumption) ?_
            simp only [Act.put, List.getElem_toArray, List.getElem_cons_zero, List.getElem_cons_succ, List.setIfInBounds_toArray, List.set_cons_zero, List.set_cons_succ]
            refine wpAnyH_take (i := 22) (v := ?v8) rfl (by kernel_rfl) (by kernel_rfl) (by kernel_rfl) (fun _ _ _ h => h) (Or.inl ⟨by rfl, ?hy8⟩) (by assumption) ?rest8
            case hy8 => (intro w hSw; (try dsimp only at hSw); go_simp; try with_reducible rfl)
            simp only [Act.put, List.getElem_toArray, List.getElem_cons_zero, List.getElem_cons_succ, List.setIfInBounds_toArray, List.set_cons_zero, List.set_cons_succ]
            refine wpAnyH_take (i := 23) (v := ?v9) rfl (by kernel_rfl) (by kernel_rfl) (by kernel_rfl) (fun _ _ _ h => h) (Or.inl ⟨by rfl, ?hy9⟩) (by assumption) ?rest9
            case hy9 => (intro w hSw; (try dsimp only at hSw); go_simp; try with_reducible rfl)
            simp only [Act.put, List.getElem_toArray, List.getElem_cons_zero, List.getElem_cons_succ, List.setIfInBounds_toArray, List.set_cons_zero, List.set_cons_succ]
            refine wpAnyH_take (i := 24) (v := undef) rfl (by kernel_rfl) (by kernel_rfl) (by kernel_rfl) (fun _ _ _ h => h) (Or.inr ⟨by rfl, rfl⟩) (by assumption) ?_
            simp only [Act.put, List.getElem_toArray, List.getElem_cons_zero, List.getElem_cons_succ, List.setIfInBounds_toArray, List.set_cons_zero, List.set_cons_succ]
            refine wpAnyH_take (i := 25) (v := undef) rfl (by kernel_rfl) (by kernel_rfl) (by kernel_rfl) (fun _ _ _ h => h) (Or.inr ⟨by rfl, rfl⟩) (by assumption) ?_
            simp only [Act.put, List.getElem_toArray, List.getElem_cons_zero, List.getElem_cons_succ, List.setIfInBounds_toArray, List.set_cons_zero, List.set_cons_succ]
            refine wpAnyH_take (i := 26) (v := undef) rfl (by kernel_rfl) (by kernel_rfl) (by kernel_rfl) (fun _ _ _ h => h) (Or.inr ⟨by rfl, rfl⟩) (by assumption) ?_
            simp only [Act.put, List.getElem_toArray, List.getElem_cons_zero, List.getElem_cons_succ, List.setIfInBounds_toArray, List.set_cons_zero, List.set_cons_succ]
            refine wpAnyH_take (i := 27) (v := ?v10) rfl (by kernel_rfl) (by kernel_rfl) (by kernel_rfl) (fun _ _ _ h => h) (Or.inl ⟨by rfl, ?hy10⟩) (by assumption) ?rest10
            case hy10 => (intro w hSw; (try dsimp only at hSw); go_simp; try with_reducible rfl)
            simp only [Act.put, List.getElem_toArray, List.getElem_cons_zero, List.getElem_cons_succ, List.setIfInBounds_toArray, List.set_cons_zero, List.set_cons_succ]
            refine wpAnyH_take (i := 28) (v := ?v11) rfl (by kernel_rfl) (by kernel_rfl) (by kernel_rfl) (fun _ _ _ h => h) (Or.inl ⟨by rfl, ?hy11⟩) (by assumption) ?rest11
            case hy11 => (intro w hSw; (try dsimp only at hSw); go_simp; try with_reducible rfl)
            simp only [Act.put, List.getElem_toArray, List.getElem_cons_zero, List.getElem_cons_succ, List.setIfInBounds_toArray, List.set_cons_zero, List.set_cons_succ]
            refine wpAnyH_take (i := 29) (v := undef) rfl (by kernel_rfl) (by kernel_rfl) (by kernel_rfl) (fun _ _ _ h => h) (Or.inr ⟨by rfl, rfl⟩) (by assumption) ?_
            simp only [Act.put, List.getElem_toArray, List.getElem_cons_zero, List.getElem_cons_succ, List.setIfInBounds_toArray, List.set_cons_zero, List.set_cons_succ]
            refine wpAnyH_take (i := 30) (v := undef) rfl (by kernel_rfl) (by kernel_rfl) (by kernel_rfl) (fun _ _ _ h => h) (Or.inr ⟨by rfl, rfl⟩) (by assumption) ?_
            simp only [Act.put, List.getElem_toArray, List.getElem_cons_zero, List.getElem_cons_succ, List.setIfInBounds_toArray, List.set_cons_zero, List.set_cons_succ]
            refine wpAnyH_take (i := 31) (v := undef) rfl (by kernel_rfl) (by kernel_rfl) (by kernel_rfl) (fun _ _ _ h => h) (Or.inr ⟨by rfl, rfl⟩) (by assumption) ?_
            simp only [Act.put, List.getElem_toArray, List.getElem_cons_zero, List.getElem_cons_succ, List.setIfInBounds_toArray, List.set_cons_zero, List.set_cons_succ]
            refine wpAnyH_take (i := 32) (v := undef) rfl (by kernel_rfl) (by kernel_rfl) (by kernel_rfl) (fun _ _ _ h => h) (Or.inr ⟨by rfl, rfl⟩) (by assumption) ?_
            simp only [Act.put, List.getElem_toArray, List.getElem_cons_zero, List.getElem_cons_succ, List.setIfInBounds_toArray, List.set_cons_zero, List.set_cons_succ]
            refine wpAnyH_take (i := 33) (v := undef) rfl (by kernel_rfl) (by kernel_rfl) (by kernel_rfl) (fun _ _ _ h => h) (Or.inr ⟨by rfl, rfl⟩) (by assumption) ?_
            simp only [Act.put, List.getElem_toArray, List.getElem_cons_zero, List.getElem_cons_succ, List.setIfInBounds_toArray, List.set_cons_zero, List.set_cons_succ]
            refine wpAnyH_take (i := 34) (v := undef) rfl (by kernel_rfl) (by kernel_rfl) (by kernel_rfl) (fun _ _ _ h => h) (Or.inr ⟨by rfl, rfl⟩) (by assumption) ?_
            simp only [Act.put, List.getElem_toArray, List.getElem_cons_zero, List.getElem_cons_succ, List.setIfInBounds_toArray, List.set_cons_zero, List.set_cons_succ]
            refine wpAnyH_take (i := 35) (v := undef) rfl (by kernel_rfl) (by kernel_rfl) (by kernel_rfl) (fun _ _ _ h => h) (Or.inr ⟨by rfl, rfl⟩) (by assumption) ?_
            simp only [Act.put, List.getElem_toArray, List.getElem_cons_zero, List.getElem_cons_succ, List.setIfInBounds_toArray, List.set_cons_zero, List.set_cons_succ]
            refine wpAnyH_take (i := 36) (v := undef) rfl (by kernel_rfl) (by kernel_rfl) (by kernel_rfl) (fun _ _ _ h => h) (Or.inr ⟨by rfl, rfl⟩) (by assumption) ?_
            simp only [Act.put, List.getElem_toArray, List.getElem_cons_zero, List.getElem_cons_succ, List.setIfInBounds_toArray, List.set_cons_zero, List.set_cons_succ]
            refine wpAnyH_take (i := 37) (v := undef) rfl (by kernel_rfl) (by kernel_rfl) (by kernel_rfl) (fun _ _ _ h => h) (Or.inr ⟨by rfl, rfl⟩) (by assumption) ?_
            simp only [Act.put, List.getElem_toArray, List.getElem_cons_zero, List.getElem_cons_succ, List.setIfInBounds_toArray, List.set_cons_zero, List.set_cons_succ]
            refine wpAnyH_take (i := 38) (v := undef) rfl (by kernel_rfl) (by kernel_rfl) (by kernel_rfl) (fun _ _ _ h => h) (Or.inr ⟨by rfl, rfl⟩) (by assumption) ?_
            simp only [Act.put, List.getElem_toArray, List.getElem_cons_zero, List.getElem_cons_succ, List.setIfInBounds_toArray, List.set_cons_zero, List.set_cons_succ]
            refine wpAnyH_take (i := 39) (v := undef) rfl (by kernel_rfl) (by kernel_rfl) (by kernel_rfl) (fun _ _ _ h => h) (Or.inr ⟨by rfl, rfl⟩) (by assumption) ?_
            simp only [Act.put, List.getElem_toArray, List.getElem_cons_zero, List.getElem_cons_succ, List.setIfInBounds_toArray, List.set_cons_zero, List.set_cons_succ]
            refine wpAnyH_take (i := 40) (v := undef) rfl (by kernel_rfl) (by kernel_rfl) (by kernel_rfl) (fun _ _ _ h => h) (Or.inr ⟨by rfl, rfl⟩) (by assumption) ?_
            simp only [Act.put, List.getElem_toArray, List.getElem_cons_zero, List.getElem_cons_succ, List.setIfInBounds_toArray, List.set_cons_zero, List.set_cons_succ]
            refine wpAnyH_take (i := 41) (v := undef) rfl (by kernel_rfl) (by kernel_rfl) (by kernel_rfl) (fun _ _ _ h => h) (Or.inr ⟨by rfl, rfl⟩) (by assumption) ?_
            simp only [Act.put, List.getElem_toArray, List.getElem_cons_zero, List.getElem_cons_succ, List.setIfInBounds_toArray, List.set_cons_zero, List.set_cons_succ]
            refine wpAnyH_take (i := 42) (v := undef) rfl (by kernel_rfl) (by kernel_rfl) (by kernel_rfl) (fun _ _ _ h => h) (Or.inr ⟨by rfl, rfl⟩) (by assumption) ?_
            simp only [Act.put, List.getElem_toArray, List.getElem_cons_zero, List.getElem_cons_succ, List.setIfInBounds_toArray, List.set_cons_zero, List.set_cons_succ]
            refine wpAnyH_take (i := 43) (v := ?v12) rfl (by kernel_rfl) (by kernel_rfl) (by kernel_rfl) (fun _ _ _ h => h) (Or.inl ⟨by rfl, ?hy12⟩) (by assumption) ?rest12
            case hy12 => (intro w hSw; (try dsimp only at hSw); go_simp; try with_reducible rfl)
            simp only [Act.put, List.getElem_toArray, List.getElem_cons_zero, List.getElem_cons_succ, List.setIfInBounds_toArray, List.set_cons_zero, List.set_cons_succ]
            refine wpAnyH_done (by kernel_rfl) ?_ _
            have hb9 := hHeld.1
            repeat' ((fail_if_success at_builtin); (first | go_skip | go_guarded | go_step))
            go_ret
            exact ⟨ret_i hbad.out.symm, hb8.trans (hb9.mono hb8.size)⟩
          | true =>
            cases hZ : inR x.size 0 1099511627776 with
            | false =>
              have hbad : errV z l = 1 := errV_bad (validS_bad hx.out (by rw [hga.out, hra]; simp [hN, hZ]))
              replace hbad := Lib.hid hbad
              have hS : ∀ w', Below w8.heap.size w8 w' → Below w8.heap.size w8 w' ∧ w'.cell? ⟨wr.heap.size, 0, none⟩ = some (.string x.sc.prj) ∧ w'.cell? ⟨wr.heap.size, 1, none⟩ = some (.int .i64 x.sc.trust) ∧ w'.cell? ⟨wr.heap.size, 2, none⟩ = some (.string x.sc.ref) ∧ w'.cell? ⟨wr.heap.size, 3, none⟩ = some (.string x.key) ∧ w'.cell? ⟨wr.heap.size, 4, none⟩ = some (.int .u64 x.dig) ∧ w'.cell? ⟨wr.heap.size, 5, none⟩ = some (.int .i64 x.size) ∧ w'.cell? ⟨wr.heap.size, 6, none⟩ = some (.int .i64 x.created) ∧ w'.cell? ⟨wr.heap.size, 7, none⟩ = some (.int .i64 x.used) ∧ w'.cell? ⟨wr.heap.size + 1, 0, none⟩ = some (.string x.sc.prj) ∧ w'.cell? ⟨wr.heap.size + 1, 1, none⟩ = some (.int .i64 x.sc.trust) ∧ w'.cell? ⟨wr.heap.size + 1, 2, none⟩ = some (.string x.sc.ref) ∧ w'.cell? ⟨wr.heap.size + 1, 3, none⟩ = some (.string x.key) ∧ w'.cell? ⟨w.heap.size, 1, none⟩ = some (.slice (some ⟨b, o, none⟩) n c) ∧ (Instr.lookup 68 (.map (some (w.heap.size + 1))) (.agg #[.string x.sc.prj, .int .i64 x.sc.trust, .string x.sc.ref, .string x.key]) false).run Tryd.prog w' = .ok (.bool hv) w' := fun w' hb => ⟨hb, (hb.cell (p := ⟨wr.heap.size, 0, none⟩) le).trans e0, (hb.cell (p := ⟨wr.heap.size, 1, none⟩) le).trans e1, (hb.cell (p := ⟨wr.heap.size, 2, none⟩) le).trans e2, (hb.cell (p := ⟨wr.heap.size, 3, none⟩) le).trans e3, (hb.cell (p := ⟨wr.heap.size, 4, none⟩) le).trans e4, (hb.cell (p := ⟨wr.heap.size, 5, none⟩) le).trans e5, (hb.cell (p := ⟨wr.heap.size, 6, none⟩) le).trans e6, (hb.cell (p := ⟨wr.heap.size, 7, none⟩) le).trans e7, (hb.cell (p := ⟨wr.heap.size + 1, 0, none⟩) ln).trans n0, (hb.cell (p := ⟨wr.heap.size + 1, 1, none⟩) ln).trans n1, (hb.cell (p := ⟨wr.heap.size + 1, 2, none⟩) ln).trans n2, (hb.cell (p := ⟨wr.heap.size + 1, 3, none⟩) ln).trans n3, (hb.cell (p := ⟨w.heap.size, 1, none⟩) l1).trans q1, hlook w' hb⟩
              have keepS : ∀ w' w'', (Below w8.heap.size w8 w' ∧ w'.cell? ⟨wr.heap.size, 0, none⟩ = some (.string x.sc.prj) ∧ w'.cell? ⟨wr.heap.size, 1, none⟩ = some (.int .i64 x.sc.trust) ∧ w'.cell? ⟨wr.heap.size, 2, none⟩ = some (.string x.sc.ref) ∧ w'.cell? ⟨wr.heap.size, 3, none⟩ = some (.string x.key) ∧ w'.cell? ⟨wr.heap.size, 4, none⟩ = some (.int .u64 x.dig) ∧ w'.cell? ⟨wr.heap.size, 5, none⟩ = some (.int .i64 x.size) ∧ w'.cell? ⟨wr.heap.size, 6, none⟩ = some (.int .i64 x.created) ∧ w'.cell? ⟨wr.heap.size, 7, none⟩ = some (.int .i64 x.used) ∧ w'.cell? ⟨wr.heap.size + 1, 0, none⟩ = some (.string x.sc.prj) ∧ w'.cell? ⟨wr.heap.size + 1, 1, none⟩ = some (.int .i64 x.sc.trust) ∧ w'.cell? ⟨wr.heap.size + 1, 2, none⟩ = some (.string x.sc.ref) ∧ w'.cell? ⟨wr.heap.size + 1, 3, none⟩ = some (.string x.key) ∧ w'.cell? ⟨w.heap.size, 1, none⟩ = some (.slice (some ⟨b, o, none⟩) n c) ∧ (Instr.lookup 68 (.map (some (w.heap.size + 1))) (.agg #[.string x.sc.prj, .int .i64 x.sc.trust, .string x.sc.ref, .string x.key]) false).run Tryd.prog w' = .ok (.bool hv) w') → Below w'.heap.size w' w'' → (Below w8.heap.size w8 w'' ∧ w''.cell? ⟨wr.heap.size, 0, none⟩ = some (.string x.sc.prj) ∧ w''.cell? ⟨wr.heap.size, 1, none⟩ = some (.int .i64 x.sc.trust) ∧ w''.cell? ⟨wr.heap.size, 2, none⟩ = some (.string x.sc.ref) ∧ w''.cell? ⟨wr.heap.size, 3, none⟩ = some (.string x.key) ∧ w''.cell? ⟨wr.heap.size, 4, none⟩ = some (.int .u64 x.dig) ∧ w''.cell? ⟨wr.heap.size, 5, none⟩ = some (.int .i64 x.size) ∧ w''.cell? ⟨wr.heap.size, 6, none⟩ = some (.int .i64 x.created) ∧ w''.cell? ⟨wr.heap.size, 7, none⟩ = some (.int .i64 x.used) ∧ w''.cell? ⟨wr.heap.size + 1, 0, none⟩ = some (.string x.sc.prj) ∧ w''.cell? ⟨wr.heap.size + 1, 1, none⟩ = some (.int .i64 x.sc.trust) ∧ w''.cell? ⟨wr.heap.size + 1, 2, none⟩ = some (.string x.sc.ref) ∧ w''.cell? ⟨wr.heap.size + 1, 3, none⟩ = some (.string x.key) ∧ w''.cell? ⟨w.heap.size, 1, none⟩ = some (.slice (some ⟨b, o, none⟩) n c) ∧ (Instr.lookup 68 (.map (some (w.heap.size + 1))) (.agg #[.string x.sc.prj, .int .i64 x.sc.trust, .string x.sc.ref, .string x.key]) false).run Tryd.prog w'' = .ok (.bool hv) w'') := fun w' w'' h hc => hS w'' (h.1.trans (hc.mono h.1.size))
              have CN2 := fun w' (h : Below w8.heap.size w8 w' ∧ w'.cell? ⟨wr.heap.size, 0, none⟩ = some (.string x.sc.prj) ∧ w'.cell? ⟨wr.heap.size, 1, none⟩ = some (.int .i64 x.sc.trust) ∧ w'.cell? ⟨wr.heap.size, 2, none⟩ = some (.string x.sc.ref) ∧ w'.cell? ⟨wr.heap.size, 3, none⟩ = some (.string x.key) ∧ w'.cell? ⟨wr.heap.size, 4, none⟩ = some (.int .u64 x.dig) ∧ w'.cell? ⟨wr.heap.size, 5, none⟩ = some (.int .i64 x.size) ∧ w'.cell? ⟨wr.heap.size, 6, none⟩ = some (.int .i64 x.created) ∧ w'.cell? ⟨wr.heap.size, 7, none⟩ = some (.int .i64 x.used) ∧ w'.cell? ⟨wr.heap.size + 1, 0, none⟩ = some (.string x.sc.prj) ∧ w'.cell? ⟨wr.heap.size + 1, 1, none⟩ = some (.int .i64 x.sc.trust) ∧ w'.cell? ⟨wr.heap.size + 1, 2, none⟩ = some (.string x.sc.ref) ∧ w'.cell? ⟨wr.heap.size + 1, 3, none⟩ = some (.string x.key) ∧ w'.cell? ⟨w.heap.size, 1, none⟩ = some (.slice (some ⟨b, o, none⟩) n c) ∧ (Instr.lookup 68 (.map (some (w.heap.size + 1))) (.agg #[.string x.sc.prj, .int .i64 x.sc.trust, .string x.sc.ref, .string x.key]) false).run Tryd.prog w' = .ok (.bool hv) w') => CN w' h.1
              have hS1 : Below w8.heap.size w8 w8.drew ∧ w8.drew.cell? ⟨wr.heap.size, 0, none⟩ = some (.string x.sc.prj) ∧ w8.drew.cell? ⟨wr.heap.size, 1, none⟩ = some (.int .i64 x.sc.trust) ∧ w8.drew.cell? ⟨wr.heap.size, 2, none⟩ = some (.string x.sc.ref) ∧ w8.drew.cell? ⟨wr.heap.size, 3, none⟩ = some (.string x.key) ∧ w8.drew.cell? ⟨wr.heap.size, 4, none⟩ = some (.int .u64 x.dig) ∧ w8.drew.cell? ⟨wr.heap.size, 5, none⟩ = some (.int .i64 x.size) ∧ w8.drew.cell? ⟨wr.heap.size, 6, none⟩ = some (.int .i64 x.created) ∧ w8.drew.cell? ⟨wr.heap.size, 7, none⟩ = some (.int .i64 x.used) ∧ w8.drew.cell? ⟨wr.heap.size + 1, 0, none⟩ = some (.string x.sc.prj) ∧ w8.drew.cell? ⟨wr.heap.size + 1, 1, none⟩ = some (.int .i64 x.sc.trust) ∧ w8.drew.cell? ⟨wr.heap.size + 1, 2, none⟩ = some (.string x.sc.ref) ∧ w8.drew.cell? ⟨wr.heap.size + 1, 3, none⟩ = some (.string x.key) ∧ w8.drew.cell? ⟨w.heap.size, 1, none⟩ = some (.slice (some ⟨b, o, none⟩) n c) ∧ (Instr.lookup 68 (.map (some (w.heap.size + 1))) (.agg #[.string x.sc.prj, .int .i64 x.sc.trust, .string x.sc.ref, .string x.key]) false).run Tryd.prog w8.drew = .ok (.bool hv) w8.drew := hS w8.drew (Below.refl _ _).drew
              have hS0 : Below w8.heap.size w8 w8 ∧ w8.cell? ⟨wr.heap.size, 0, none⟩ = some (.string x.sc.prj) ∧ w8.cell? ⟨wr.heap.size, 1, none⟩ = some (.int .i64 x.sc.trust) ∧ w8.cell? ⟨wr.heap.size, 2, none⟩ = some (.string x.sc.ref) ∧ w8.cell? ⟨wr.heap.size, 3, none⟩ = some (.string x.key) ∧ w8.cell? ⟨wr.heap.size, 4, none⟩ = some (.int .u64 x.dig) ∧ w8.cell? ⟨wr.heap.size, 5, none⟩ = some (.int .i64 x.size) ∧ w8.cell? ⟨wr.heap.size, 6, none⟩ = some (.int .i64 x.created) ∧ w8.cell? ⟨wr.heap.size, 7, none⟩ = some (.int .i64 x.used) ∧ w8.cell? ⟨wr.heap.size + 1, 0, none⟩ = some (.string x.sc.prj) ∧ w8.cell? ⟨wr.heap.size + 1, 1, none⟩ = some (.int .i64 x.sc.trust) ∧ w8.cell? ⟨wr.heap.size + 1, 2, none⟩ = some (.string x.sc.ref) ∧ w8.cell? ⟨wr.heap.size + 1, 3, none⟩ = some (.string x.key) ∧ w8.cell? ⟨w.heap.size, 1, none⟩ = some (.slice (some ⟨b, o, none⟩) n c) ∧ (Instr.lookup 68 (.map (some (w.heap.size + 1))) (.agg #[.string x.sc.prj, .int .i64 x.sc.trust, .string x.sc.ref, .string x.key]) false).run Tryd.prog w8 = .ok (.bool hv) w8 := hS w8 (Below.refl _ _)
              replace keepS := Lib.hid keepS
              replace CN2 := Lib.hid CN2
              clear hS
              refine wp_region_held_drew (S := fun w' => Below w8.heap.size w8 w' ∧ w'.cell? ⟨wr.heap.size, 0, none⟩ = some (.string x.sc.prj) ∧ w'.cell? ⟨wr.heap.size, 1, none⟩ = some (.int .i64 x.sc.trust) ∧ w'.cell? ⟨wr.heap.size, 2, none⟩ = some (.string x.sc.ref) ∧ w'.cell? ⟨wr.heap.size, 3, none⟩ = some (.string x.key) ∧ w'.cell? ⟨wr.heap.size, 4, none⟩ = some (.int .u64 x.dig) ∧ w'.cell? ⟨wr.heap.size, 5, none⟩ = some (.int .i64 x.size) ∧ w'.cell? ⟨wr.heap.size, 6, none⟩ = some (.int .i64 x.created) ∧ w'.cell? ⟨wr.heap.size, 7, none⟩ = some (.int .i64 x.used) ∧ w'.cell? ⟨wr.heap.size + 1, 0, none⟩ = some (.string x.sc.prj) ∧ w'.cell? ⟨wr.heap.size + 1, 1, none⟩ = some (.int .i64 x.sc.trust) ∧ w'.cell? ⟨wr.heap.size + 1, 2, none⟩ = some (.string x.sc.ref) ∧ w'.cell? ⟨wr.heap.size + 1, 3, none⟩ = some (.string x.key) ∧ w'.cell? ⟨w.heap.size, 1, none⟩ = some (.slice (some ⟨b, o, none⟩) n c) ∧ (Instr.lookup 68 (.map (some (w.heap.size + 1))) (.agg #[.string x.sc.prj, .int .i64 x.sc.trust, .string x.sc.ref, .string x.key]) false).run Tryd.prog w' = .ok (.bool hv) w') (by kernel_rfl) ?_ (fun hHeld => ?_)
              · (try dsimp only)
                exact hS1
              refine wpAnyH_take (i := 0) (v := ?v13) rfl (by kernel_rfl) (by kernel_rfl) (by kernel_rfl) (fun _ _ _ h => h) (Or.inl ⟨by rfl, ?hy13⟩) (by assumption) ?rest13
              case hy13 => (intro w hSw; (try dsimp only at hSw); go_simp; try with_reducible rfl)
              simp only [Act.put, List.getElem_toArray, List.getElem_cons_zero, List.setIfInBounds_toArray, List.set_cons_zero, List.set_cons_succ]
              refine wpAnyH_ready (rs := [1]) (by kernel_rfl) (by simp) ?_
              refine AllReadyH.cons rfl (fun K hK => ?_) AllReadyH.nil
              go_simp
              go_at_call 36
              refine (CN2.out _ (by assumption)).mono ?_
              rintro e w7 ⟨rfl, hbq⟩
              dsimp only
              simp only [hN]
              refine hK.out _ _ ?_ (fun hHeld => ?_)
              · (try dsimp only)
                exact keepS.out _ _ (by assumption) hbq
              clear hK K
              try simp only [Act.put, List.getElem_toArray, List.getElem_cons_zero, List.getElem_cons_succ, List.setIfInBounds_toArray, List.set_cons_zero, List.set_cons_succ]
              refine wpAnyH_take (i := 2) (v := ?v14) rfl (by kernel_rfl) (by kernel_rfl) (by kernel_rfl) (fun _ _ _ h => h) (Or.inl ⟨by rfl, ?hy14⟩) (by assumption) ?rest14
              case hy14 => (intro w hSw; (try dsimp only at hSw); go_simp; try with_reducible rfl)
              simp only [Act.put, List.getElem_toArray, List.getElem_cons_zero, List.getElem_cons_succ, List.setIfInBounds_toArray, List.set_cons_zero, List.set_cons_succ]
              refine wpAnyH_take (i := 3) (v := ?v15) rfl (by kernel_rfl) (by kernel_rfl) (by kernel_rfl) (fun _ _ _ h => h) (Or.inl ⟨by rfl, ?hy15⟩) (by assumption) ?rest15
              case hy15 => (intro w hSw; (try dsimp only at hSw); go_simp; try with_reducible rfl)
              simp only [Act.put, List.getElem_toArray, List.getElem_cons_zero, List.getElem_cons_succ, List.setIfInBounds_toArray, List.set_cons_zero, List.set_cons_succ]
              refine wpAnyH_take (i := 4) (v := ?v16) rfl (by kernel_rfl) (by kernel_rfl) (by kernel_rfl) (fun _ _ _ h => h) (Or.inl ⟨by rfl, ?hy16⟩) (by assumption) ?rest16
              case hy16 => (intro w hSw; (try dsimp only at hSw); go_simp; try with_reducible rfl)
              simp only [Act.put, List.getElem_toArray, List.getElem_cons_zero, List.getElem_cons_succ, List.setIfInBounds_toArray, List.set_cons_zero, List.set_cons_succ]
              refine wpAnyH_take (i := 5) (v := ?v17) rfl (by kernel_rfl) (by kernel_rfl) (by kernel_rfl) (fun _ _ _ h => h) (Or.inl ⟨by rfl, ?hy17⟩) (by assumption) ?rest17
              case hy17 => (intro w hSw; (try dsimp only at hSw); go_simp; try with_reducible rfl)
              simp only [Act.put, List.getElem_toArray, List.getElem_cons_zero, List.getElem_cons_succ, List.setIfInBounds_toArray, List.set_cons_zero, List.set_cons_succ]
              refine wpAnyH_ready (rs := [6]) (by kernel_rfl) (by simp) ?_
              refine AllReadyH.cons rfl (fun K hK => ?_) AllReadyH.nil
              go_simp
              go_at_call 35
              refine (CW.out _ _ _ _).mono ?_
              rintro e w7 ⟨rfl, hbq⟩
              dsimp only
              simp only [hZ]
              refine hK.out _ _ ?_ (fun hHeld => ?_)
              · (try dsimp only)
                exact keepS.out _ _ (by assumption) hbq
              clear hK K
              try simp only [Act.put, List.getElem_toArray, List.getElem_cons_zero, List.getElem_cons_succ, List.setIfInBounds_toArray, List.set_cons_zero, List.set_cons_succ]
              refine wpAnyH_take (i := 7) (v := ?v18) rfl (by kernel_rfl) (by kernel_rfl) (by kernel_rfl) (fun _ _ _ h => h) (Or.inl ⟨by rfl, ?hy18⟩) (by assumption) ?rest18
              case hy18 => (intro w hSw; (try dsimp only at hSw); go_simp; try with_reducible rfl)
              simp only [Act.put, List.getElem_toArray, List.getElem_cons_zero, List.getElem_cons_succ, List.setIfInBounds_toArray, List.set_cons_zero, List.set_cons_succ]
              refine wpAnyH_take (i := 8) (v := ?v19) rfl (by kernel_rfl) (by kernel_rfl) (by kernel_rfl) (fun _ _ _ h => h) (Or.inl ⟨by rfl, ?hy19⟩) (by assumption) ?rest19
              case hy19 => (intro w hSw; (try dsimp only at hSw); go_simp; try with_reducible rfl)
              simp only [Act.put, List.getElem_toArray, List.getElem_cons_zero, List.getElem_cons_succ, List.setIfInBounds_toArray, List.set_cons_zero, List.set_cons_succ]
              refine wpAnyH_take (i := 9) (v := ?v20) rfl (by kernel_rfl) (by kernel_rfl) (by kernel_rfl) (fun _ _ _ h => h) (Or.inl ⟨by rfl, ?hy20⟩) (by assumption) ?rest20
              case hy20 => (intro w hSw; (try dsimp only at hSw); go_simp; try with_reducible rfl)
              simp only [Act.put, List.getElem_toArray, List.getElem_cons_zero, List.getElem_cons_succ, List.setIfInBounds_toArray, List.set_cons_zero, List.set_cons_succ]
              refine wpAnyH_take (i := 10) (v := undef) rfl (by kernel_rfl) (by kernel_rfl) (by kernel_rfl) (fun _ _ _ h => h) (Or.inr ⟨by rfl, rfl⟩) (by assumption) ?_
              simp only [Act.put, List.getElem_toArray, List.getElem_cons_zero, List.getElem_cons_succ, List.setIfInBounds_toArray, List.set_cons_zero, List.set_cons_succ]
              refine wpAnyH_take (i := 11) (v := undef) rfl (by kernel_rfl) (by kernel_rfl) (by kernel_rfl) (fun _ _ _ h => h) (Or.inr ⟨by rfl, rfl⟩) (by assumption) ?_
              simp only [Act.put, List.getElem_toArray, List.getElem_cons_zero, List.getElem_cons_succ, List.setIfInBounds_toArray, List.set_cons_zero, List.set_cons_succ]
              refine wpAnyH_take (i := 12) (v := undef) rfl (by kernel_rfl) (by kernel_rfl) (by kernel_rfl) (fun _ _ _ h => h) (Or.inr ⟨by rfl, rfl⟩) (by assumption) ?_
              simp only [Act.put, List.getElem_toArray, List.getElem_cons_zero, List.getElem_cons_succ, List.setIfInBounds_toArray, List.set_cons_zero, List.set_cons_succ]
              refine wpAnyH_take (i := 13) (v := undef) rfl (by kernel_rfl) (by kernel_rfl) (by kernel_rfl) (fun _ _ _ h => h) (Or.inr ⟨by rfl, rfl⟩) (by assumption) ?_
              simp only [Act.put, List.getElem_toArray, List.getElem_cons_zero, List.getElem_cons_succ, List.setIfInBounds_toArray, List.set_cons_zero, List.set_cons_succ]
              refine wpAnyH_take (i := 14) (v := ?v21) rfl (by kernel_rfl) (by kernel_rfl) (by kernel_rfl) (fun _ _ _ h => h) (Or.inl ⟨by rfl, ?hy21⟩) (by assumption) ?rest21
              case hy21 => (intro w hSw; (try dsimp only at hSw); go_simp; try with_reducible rfl)
              simp only [Act.put, List.getElem_toArray, List.getElem_cons_zero, List.getElem_cons_succ, List.setIfInBounds_toArray, List.set_cons_zero, List.set_cons_succ]
              refine wpAnyH_take (i := 15) (v := ?v22) rfl (by kernel_rfl) (by kernel_rfl) (by kernel_rfl) (fun _ _ _ h => h) (Or.inl ⟨by rfl, ?hy22⟩) (by assumption) ?rest22
              case hy22 => (intro w hSw; (try dsimp only at hSw); go_simp; try with_reducible rfl)
              simp only [Act.put, List.getElem_toArray, List.getElem_cons_zero, List.getElem_cons_succ, List.setIfInBounds_toArray, List.set_cons_zero, List.set_cons_succ]
              refine wpAnyH_take (i := 16) (v := undef) rfl (by kernel_rfl) (by kernel_rfl) (by kernel_rfl) (fun _ _ _ h => h) (Or.inr ⟨by rfl, rfl⟩) (by assumption) ?_
              simp only [Act.put, List.getElem_toArray, List.getElem_cons_zero, List.getElem_cons_succ, List.setIfInBounds_toArray, List.set_cons_zero, List.set_cons_succ]
              refine wpAnyH_take (i := 17) (v := undef) rfl (by kernel_rfl) (by kernel_rfl) (by kernel_rfl) (fun _ _ _ h => h) (Or.inr ⟨by rfl, rfl⟩) (by assumption) ?_
              simp only [Act.put, List.getElem_toArray, List.getElem_cons_zero, List.getElem_cons_succ, List.setIfInBounds_toArray, List.set_cons_zero, List.set_cons_succ]
              refine wpAnyH_take (i := 18) (v := undef) rfl (by kernel_rfl) (by kernel_rfl) (by kernel_rfl) (fun _ _ _ h => h) (Or.inr ⟨by rfl, rfl⟩) (by assumption) ?_
              simp only [Act.put, List.getElem_toArray, List.getElem_cons_zero, List.getElem_cons_succ, List.setIfInBounds_toArray, List.set_cons_zero, List.set_cons_succ]
              refine wpAnyH_take (i := 19) (v := undef) rfl (by kernel_rfl) (by kernel_rfl) (by kernel_rfl) (fun _ _ _ h => h) (Or.inr ⟨by rfl, rfl⟩) (by assumption) ?_
              simp only [Act.put, List.getElem_toArray, List.getElem_cons_zero, List.getElem_cons_succ, List.setIfInBounds_toArray, List.set_cons_zero, List.set_cons_succ]
              refine wpAnyH_take (i := 20) (v := undef) rfl (by kernel_rfl) (by kernel_rfl) (by kernel_rfl) (fun _ _ _ h => h) (Or.inr ⟨by rfl, rfl⟩) (by assumption) ?_
              simp only [Act.put, List.getElem_toArray, List.getElem_cons_zero, List.getElem_cons_succ, List.setIfInBounds_toArray, List.set_cons_zero, List.set_cons_succ]
              refine wpAnyH_take (i := 21) (v := undef) rfl (by kernel_rfl) (by kernel_rfl) (by kernel_rfl) (fun _ _ _ h => h) (Or.inr ⟨by rfl, rfl⟩) (by assumption) ?_
              simp only [Act.put, List.getElem_toArray, List.getElem_cons_zero, List.getElem_cons_succ, List.setIfInBounds_toArray, List.set_cons_zero, List.set_cons_succ]
              refine wpAnyH_take (i := 22) (v := ?v23) rfl (by kernel_rfl) (by kernel_rfl) (by kernel_rfl) (fun _ _ _ h => h) (Or.inl ⟨by rfl, ?hy23⟩) (by assumption) ?rest23
              case hy23 => (intro w hSw; (try dsimp only at hSw); go_simp; try with_reducible rfl)
              simp only [Act.put, List.getElem_toArray, List.getElem_cons_zero, List.getElem_cons_succ, List.setIfInBounds_toArray, List.set_cons_zero, List.set_cons_succ]
              refine wpAnyH_take (i := 23) (v := ?v24) rfl (by kernel_rfl) (by kernel_rfl) (by kernel_rfl) (fun _ _ _ h => h) (Or.inl ⟨by rfl, ?hy24⟩) (by assumption) ?rest24
              case hy24 => (intro w hSw; (try dsimp only at hSw); go_simp; try with_reducible rfl)
              simp only [Act.put, List.getElem_toArray, List.getElem_cons_zero, List.getElem_cons_succ, List.setIfInBounds_toArray, List.set_cons_zero, List.set_cons_succ]
              refine wpAnyH_take (i := 24) (v := undef) rfl (by kernel_rfl) (by kernel_rfl) (by kernel_rfl) (fun _ _ _ h => h) (Or.inr ⟨by rfl, rfl⟩) (by assumption) ?_
              simp only [Act.put, List.getElem_toArray, List.getElem_cons_zero, List.getElem_cons_succ, List.setIfInBounds_toArray, List.set_cons_zero, List.set_cons_succ]
              refine wpAnyH_take (i := 25) (v := undef) rfl (by kernel_rfl) (by kernel_rfl) (by kernel_rfl) (fun _ _ _ h => h) (Or.inr ⟨by rfl, rfl⟩) (by assumption) ?_
              simp only [Act.put, List.getElem_toArray, List.getElem_cons_zero, List.getElem_cons_succ, List.setIfInBounds_toArray, List.set_cons_zero, List.set_cons_succ]
              refine wpAnyH_take (i := 26) (v := undef) rfl (by kernel_rfl) (by kernel_rfl) (by kernel_rfl) (fun _ _ _ h => h) (Or.inr ⟨by rfl, rfl⟩) (by assumption) ?_
              simp only [Act.put, List.getElem_toArray, List.getElem_cons_zero, List.getElem_cons_succ, List.setIfInBounds_toArray, List.set_cons_zero, List.set_cons_succ]
              refine wpAnyH_take (i := 27) (v := ?v25) rfl (by kernel_rfl) (by kernel_rfl) (by kernel_rfl) (fun _ _ _ h => h) (Or.inl ⟨by rfl, ?hy25⟩) (by assumption) ?rest25
              case hy25 => (intro w hSw; (try dsimp only at hSw); go_simp; try with_reducible rfl)
              simp only [Act.put, List.getElem_toArray, List.getElem_cons_zero, List.getElem_cons_succ, List.setIfInBounds_toArray, List.set_cons_zero, List.set_cons_succ]
              refine wpAnyH_take (i := 28) (v := ?v26) rfl (by kernel_rfl) (by kernel_rfl) (by kernel_rfl) (fun _ _ _ h => h) (Or.inl ⟨by rfl, ?hy26⟩) (by assumption) ?rest26
              case hy26 => (intro w hSw; (try dsimp only at hSw); go_simp; try with_reducible rfl)
              simp only [Act.put, List.getElem_toArray, List.getElem_cons_zero, List.getElem_cons_succ, List.setIfInBounds_toArray, List.set_cons_zero, List.set_cons_succ]
              refine wpAnyH_take (i := 29) (v := undef) rfl (by kernel_rfl) (by kernel_rfl) (by kernel_rfl) (fun _ _ _ h => h) (Or.inr ⟨by rfl, rfl⟩) (by assumption) ?_
              simp only [Act.put, List.getElem_toArray, List.getElem_cons_zero, List.getElem_cons_succ, List.setIfInBounds_toArray, List.set_cons_zero, List.set_cons_succ]
              refine wpAnyH_take (i := 30) (v := undef) rfl (by kernel_rfl) (by kernel_rfl) (by kernel_rfl) (fun _ _ _ h => h) (Or.inr ⟨by rfl, rfl⟩) (by assumption) ?_
              simp only [Act.put, List.getElem_toArray, List.getElem_cons_zero, List.getElem_cons_succ, List.setIfInBounds_toArray, List.set_cons_zero, List.set_cons_succ]
              refine wpAnyH_take (i := 31) (v := undef) rfl (by kernel_rfl) (by kernel_rfl) (by kernel_rfl) (fun _ _ _ h => h) (Or.inr ⟨by rfl, rfl⟩) (by assumption) ?_
              simp only [Act.put, List.getElem_toArray, List.getElem_cons_zero, List.getElem_cons_succ, List.setIfInBounds_toArray, List.set_cons_zero, List.set_cons_succ]
              refine wpAnyH_take (i := 32) (v := undef) rfl (by kernel_rfl) (by kernel_rfl) (by kernel_rfl) (fun _ _ _ h => h) (Or.inr ⟨by rfl, rfl⟩) (by assumption) ?_
              simp only [Act.put, List.getElem_toArray, List.getElem_cons_zero, List.getElem_cons_succ, List.setIfInBounds_toArray, List.set_cons_zero, List.set_cons_succ]
              refine wpAnyH_take (i := 33) (v := undef) rfl (by kernel_rfl) (by kernel_rfl) (by kernel_rfl) (fun _ _ _ h => h) (Or.inr ⟨by rfl, rfl⟩) (by assumption) ?_
              simp only [Act.put, List.getElem_toArray, List.getElem_cons_zero, List.getElem_cons_succ, List.setIfInBounds_toArray, List.set_cons_zero, List.set_cons_succ]
              refine wpAnyH_take (i := 34) (v := undef) rfl (by kernel_rfl) (by kernel_rfl) (by kernel_rfl) (fun _ _ _ h => h) (Or.inr ⟨by rfl, rfl⟩) (by assumption) ?_
              simp only [Act.put, List.getElem_toArray, List.getElem_cons_zero, List.getElem_cons_succ, List.setIfInBounds_toArray, List.set_cons_zero, List.set_cons_succ]
              refine wpAnyH_take (i := 35) (v := undef) rfl (by kernel_rfl) (by kernel_rfl) (by kernel_rfl) (fun _ _ _ h => h) (Or.inr ⟨by rfl, rfl⟩) (by assumption) ?_
              simp only [Act.put, List.getElem_toArray, List.getElem_cons_zero, List.getElem_cons_succ, List.setIfInBounds_toArray, List.set_cons_zero, List.set_cons_succ]
              refine wpAnyH_take (i := 36) (v := undef) rfl (by kernel_rfl) (by kernel_rfl) (by kernel_rfl) (fun _ _ _ h => h) (Or.inr ⟨by rfl, rfl⟩) (by assumption) ?_
              simp only [Act.put, List.getElem_toArray, List.getElem_cons_zero, List.getElem_cons_succ, List.setIfInBounds_toArray, List.set_cons_zero, List.set_cons_succ]
              refine wpAnyH_take (i := 37) (v := undef) rfl (by kernel_rfl) (by kernel_rfl) (by kernel_rfl) (fun _ _ _ h => h) (Or.inr ⟨by rfl, rfl⟩) (by assumption) ?_
              simp only [Act.put, List.getElem_toArray, List.getElem_cons_zero, List.getElem_cons_succ, List.setIfInBounds_toArray, List.set_cons_zero, List.set_cons_succ]
              refine wpAnyH_take (i := 38) (v := undef) rfl (by kernel_rfl) (by kernel_rfl) (by kernel_rfl) (fun _ _ _ h => h) (Or.inr ⟨by rfl, rfl⟩) (by assumption) ?_
              simp only [Act.put, List.getElem_toArray, List.getElem_cons_zero, List.getElem_cons_succ, List.setIfInBounds_toArray, List.set_cons_zero, List.set_cons_succ]
              refine wpAnyH_take (i := 39) (v := undef) rfl (by kernel_rfl) (by kernel_rfl) (by kernel_rfl) (fun _ _ _ h => h) (Or.inr ⟨by rfl, rfl⟩) (by assumption) ?_
              simp only [Act.put, List.getElem_toArray, List.getElem_cons_zero, List.getElem_cons_succ, List.setIfInBounds_toArray, List.set_cons_zero, List.set_cons_succ]
              refine wpAnyH_take (i := 40) (v := undef) rfl (by kernel_rfl) (by kernel_rfl) (by kernel_rfl) (fun _ _ _ h => h) (Or.inr ⟨by rfl, rfl⟩) (by assumption) ?_
              simp only [Act.put, List.getElem_toArray, List.getElem_cons_zero, List.getElem_cons_succ, List.setIfInBounds_toArray, List.set_cons_zero, List.set_cons_succ]
              refine wpAnyH_take (i := 41) (v := undef) rfl (by kernel_rfl) (by kernel_rfl) (by kernel_rfl) (fun _ _ _ h => h) (Or.inr ⟨by rfl, rfl⟩) (by assumption) ?_
              simp only [Act.put, List.getElem_toArray, List.getElem_cons_zero, List.getElem_cons_succ, List.setIfInBounds_toArray, List.set_cons_zero, List.set_cons_succ]
              refine wpAnyH_take (i := 42) (v := undef) rfl (by kernel_rfl) (by kernel_rfl) (by kernel_rfl) (fun _ _ _ h => h) (Or.inr ⟨by rfl, rfl⟩) (by assumption) ?_
              simp only [Act.put, List.getElem_toArray, List.getElem_cons_zero, List.getElem_cons_succ, List.setIfInBounds_toArray, List.set_cons_zero, List.set_cons_succ]
              refine wpAnyH_take (i := 43) (v := ?v27) rfl (by kernel_rfl) (by kernel_rfl) (by kernel_rfl) (fun _ _ _ h => h) (Or.inl ⟨by rfl, ?hy27⟩) (by assumption) ?rest27
              case hy27 => (intro w hSw; (try dsimp only at hSw); go_simp; try with_reducible rfl)
              simp only [Act.put, List.getElem_toArray, List.getElem_cons_zero, List.getElem_cons_succ, List.setIfInBounds_toArray, List.set_cons_zero, List.set_cons_succ]
              refine wpAnyH_done (by kernel_rfl) ?_ _
              have hb9 := hHeld.1
              repeat' ((fail_if_success at_builtin); (first | go_skip | go_guarded | go_step))
              go_ret
              exact ⟨ret_i hbad.out.symm, hb8.trans (hb9.mono hb8.size)⟩
            | true =>
              cases hC : inR x.created 0 1125899906842624 with
              | false =>
                have hbad : errV z l = 1 := errV_bad (validS_bad hx.out (by rw [hga.out, hra]; simp [hN, hZ, hC]))
                replace hbad := Lib.hid hbad
                have hS : ∀ w', Below w8.heap.size w8 w' → Below w8.heap.size w8 w' ∧ w'.cell? ⟨wr.heap.size, 0, none⟩ = some (.string x.sc.prj) ∧ w'.cell? ⟨wr.heap.size, 1, none⟩ = some (.int .i64 x.sc.trust) ∧ w'.cell? ⟨wr.heap.size, 2, none⟩ = some (.string x.sc.ref) ∧ w'.cell? ⟨wr.heap.size, 3, none⟩ = some (.string x.key) ∧ w'.cell? ⟨wr.heap.size, 4, none⟩ = some (.int .u64 x.dig) ∧ w'.cell? ⟨wr.heap.size, 5, none⟩ = some (.int .i64 x.size) ∧ w'.cell? ⟨wr.heap.size, 6, none⟩ = some (.int .i64 x.created) ∧ w'.cell? ⟨wr.heap.size, 7, none⟩ = some (.int .i64 x.used) ∧ w'.cell? ⟨wr.heap.size + 1, 0, none⟩ = some (.string x.sc.prj) ∧ w'.cell? ⟨wr.heap.size + 1, 1, none⟩ = some (.int .i64 x.sc.trust) ∧ w'.cell? ⟨wr.heap.size + 1, 2, none⟩ = some (.string x.sc.ref) ∧ w'.cell? ⟨wr.heap.size + 1, 3, none⟩ = some (.string x.key) ∧ w'.cell? ⟨w.heap.size, 1, none⟩ = some (.slice (some ⟨b, o, none⟩) n c) ∧ (Instr.lookup 68 (.map (some (w.heap.size + 1))) (.agg #[.string x.sc.prj, .int .i64 x.sc.trust, .string x.sc.ref, .string x.key]) false).run Tryd.prog w' = .ok (.bool hv) w' := fun w' hb => ⟨hb, (hb.cell (p := ⟨wr.heap.size, 0, none⟩) le).trans e0, (hb.cell (p := ⟨wr.heap.size, 1, none⟩) le).trans e1, (hb.cell (p := ⟨wr.heap.size, 2, none⟩) le).trans e2, (hb.cell (p := ⟨wr.heap.size, 3, none⟩) le).trans e3, (hb.cell (p := ⟨wr.heap.size, 4, none⟩) le).trans e4, (hb.cell (p := ⟨wr.heap.size, 5, none⟩) le).trans e5, (hb.cell (p := ⟨wr.heap.size, 6, none⟩) le).trans e6, (hb.cell (p := ⟨wr.heap.size, 7, none⟩) le).trans e7, (hb.cell (p := ⟨wr.heap.size + 1, 0, none⟩) ln).trans n0, (hb.cell (p := ⟨wr.heap.size + 1, 1, none⟩) ln).trans n1, (hb.cell (p := ⟨wr.heap.size + 1, 2, none⟩) ln).trans n2, (hb.cell (p := ⟨wr.heap.size + 1, 3, none⟩) ln).trans n3, (hb.cell (p := ⟨w.heap.size, 1, none⟩) l1).trans q1, hlook w' hb⟩
                have keepS : ∀ w' w'', (Below w8.heap.size w8 w' ∧ w'.cell? ⟨wr.heap.size, 0, none⟩ = some (.string x.sc.prj) ∧ w'.cell? ⟨wr.heap.size, 1, none⟩ = some (.int .i64 x.sc.trust) ∧ w'.cell? ⟨wr.heap.size, 2, none⟩ = some (.string x.sc.ref) ∧ w'.cell? ⟨wr.heap.size, 3, none⟩ = some (.string x.key) ∧ w'.cell? ⟨wr.heap.size, 4, none⟩ = some (.int .u64 x.dig) ∧ w'.cell? ⟨wr.heap.size, 5, none⟩ = some (.int .i64 x.size) ∧ w'.cell? ⟨wr.heap.size, 6, none⟩ = some (.int .i64 x.created) ∧ w'.cell? ⟨wr.heap.size, 7, none⟩ = some (.int .i64 x.used) ∧ w'.cell? ⟨wr.heap.size + 1, 0, none⟩ = some (.string x.sc.prj) ∧ w'.cell? ⟨wr.heap.size + 1, 1, none⟩ = some (.int .i64 x.sc.trust) ∧ w'.cell? ⟨wr.heap.size + 1, 2, none⟩ = some (.string x.sc.ref) ∧ w'.cell? ⟨wr.heap.size + 1, 3, none⟩ = some (.string x.key) ∧ w'.cell? ⟨w.heap.size, 1, none⟩ = some (.slice (some ⟨b, o, none⟩) n c) ∧ (Instr.lookup 68 (.map (some (w.heap.size + 1))) (.agg #[.string x.sc.prj, .int .i64 x.sc.trust, .string x.sc.ref, .string x.key]) false).run Tryd.prog w' = .ok (.bool hv) w') → Below w'.heap.size w' w'' → (Below w8.heap.size w8 w'' ∧ w''.cell? ⟨wr.heap.size, 0, none⟩ = some (.string x.sc.prj) ∧ w''.cell? ⟨wr.heap.size, 1, none⟩ = some (.int .i64 x.sc.trust) ∧ w''.cell? ⟨wr.heap.size, 2, none⟩ = some (.string x.sc.ref) ∧ w''.cell? ⟨wr.heap.size, 3, none⟩ = some (.string x.key) ∧ w''.cell? ⟨wr.heap.size, 4, none⟩ = some (.int .u64 x.dig) ∧ w''.cell? ⟨wr.heap.size, 5, none⟩ = some (.int .i64 x.size) ∧ w''.cell? ⟨wr.heap.size, 6, none⟩ = some (.int .i64 x.created) ∧ w''.cell? ⟨wr.heap.size, 7, none⟩ = some (.int .i64 x.used) ∧ w''.cell? ⟨wr.heap.size + 1, 0, none⟩ = some (.string x.sc.prj) ∧ w''.cell? ⟨wr.heap.size + 1, 1, none⟩ = some (.int .i64 x.sc.trust) ∧ w''.cell? ⟨wr.heap.size + 1, 2, none⟩ = some (.string x.sc.ref) ∧ w''.cell? ⟨wr.heap.size + 1, 3, none⟩ = some (.string x.key) ∧ w''.cell? ⟨w.heap.size, 1, none⟩ = some (.slice (some ⟨b, o, none⟩) n c) ∧ (Instr.lookup 68 (.map (some (w.heap.size + 1))) (.agg #[.string x.sc.prj, .int .i64 x.sc.trust, .string x.sc.ref, .string x.key]) false).run Tryd.prog w'' = .ok (.bool hv) w'') := fun w' w'' h hc => hS w'' (h.1.trans (hc.mono h.1.size))
                have CN2 := fun w' (h : Below w8.heap.size w8 w' ∧ w'.cell? ⟨wr.heap.size, 0, none⟩ = some (.string x.sc.prj) ∧ w'.cell? ⟨wr.heap.size, 1, none⟩ = some (.int .i64 x.sc.trust) ∧ w'.cell? ⟨wr.heap.size, 2, none⟩ = some (.string x.sc.ref) ∧ w'.cell? ⟨wr.heap.size, 3, none⟩ = some (.string x.key) ∧ w'.cell? ⟨wr.heap.size, 4, none⟩ = some (.int .u64 x.dig) ∧ w'.cell? ⟨wr.heap.size, 5, none⟩ = some (.int .i64 x.size) ∧ w'.cell? ⟨wr.heap.size, 6, none⟩ = some (.int .i64 x.created) ∧ w'.cell? ⟨wr.heap.size, 7, none⟩ = some (.int .i64 x.used) ∧ w'.cell? ⟨wr.heap.size + 1, 0, none⟩ = some (.string x.sc.prj) ∧ w'.cell? ⟨wr.heap.size + 1, 1, none⟩ = some (.int .i64 x.sc.trust) ∧ w'.cell? ⟨wr.heap.size + 1, 2, none⟩ = some (.string x.sc.ref) ∧ w'.cell? ⟨wr.heap.size + 1, 3, none⟩ = some (.string x.key) ∧ w'.cell? ⟨w.heap.size, 1, none⟩ = some (.slice (some ⟨b, o, none⟩) n c) ∧ (Instr.lookup 68 (.map (some (w.heap.size + 1))) (.agg #[.string x.sc.prj, .int .i64 x.sc.trust, .string x.sc.ref, .string x.key]) false).run Tryd.prog w' = .ok (.bool hv) w') => CN w' h.1
                have hS1 : Below w8.heap.size w8 w8.drew ∧ w8.drew.cell? ⟨wr.heap.size, 0, none⟩ = some (.string x.sc.prj) ∧ w8.drew.cell? ⟨wr.heap.size, 1, none⟩ = some (.int .i64 x.sc.trust) ∧ w8.drew.cell? ⟨wr.heap.size, 2, none⟩ = some (.string x.sc.ref) ∧ w8.drew.cell? ⟨wr.heap.size, 3, none⟩ = some (.string x.key) ∧ w8.drew.cell? ⟨wr.heap.size, 4, none⟩ = some (.int .u64 x.dig) ∧ w8.drew.cell? ⟨wr.heap.size, 5, none⟩ = some (.int .i64 x.size) ∧ w8.drew.cell? ⟨wr.heap.size, 6, none⟩ = some (.int .i64 x.created) ∧ w8.drew.cell? ⟨wr.heap.size, 7, none⟩ = some (.int .i64 x.used) ∧ w8.drew.cell? ⟨wr.heap.size + 1, 0, none⟩ = some (.string x.sc.prj) ∧ w8.drew.cell? ⟨wr.heap.size + 1, 1, none⟩ = some (.int .i64 x.sc.trust) ∧ w8.drew.cell? ⟨wr.heap.size + 1, 2, none⟩ = some (.string x.sc.ref) ∧ w8.drew.cell? ⟨wr.heap.size + 1, 3, none⟩ = some (.string x.key) ∧ w8.drew.cell? ⟨w.heap.size, 1, none⟩ = some (.slice (some ⟨b, o, none⟩) n c) ∧ (Instr.lookup 68 (.map (some (w.heap.size + 1))) (.agg #[.string x.sc.prj, .int .i64 x.sc.trust, .string x.sc.ref, .string x.key]) false).run Tryd.prog w8.drew = .ok (.bool hv) w8.drew := hS w8.drew (Below.refl _ _).drew
                have hS0 : Below w8.heap.size w8 w8 ∧ w8.cell? ⟨wr.heap.size, 0, none⟩ = some (.string x.sc.prj) ∧ w8.cell? ⟨wr.heap.size, 1, none⟩ = some (.int .i64 x.sc.trust) ∧ w8.cell? ⟨wr.heap.size, 2, none⟩ = some (.string x.sc.ref) ∧ w8.cell? ⟨wr.heap.size, 3, none⟩ = some (.string x.key) ∧ w8.cell? ⟨wr.heap.size, 4, none⟩ = some (.int .u64 x.dig) ∧ w8.cell? ⟨wr.heap.size, 5, none⟩ = some (.int .i64 x.size) ∧ w8.cell? ⟨wr.heap.size, 6, none⟩ = some (.int .i64 x.created) ∧ w8.cell? ⟨wr.heap.size, 7, none⟩ = some (.int .i64 x.used) ∧ w8.cell? ⟨wr.heap.size + 1, 0, none⟩ = some (.string x.sc.prj) ∧ w8.cell? ⟨wr.heap.size + 1, 1, none⟩ = some (.int .i64 x.sc.trust) ∧ w8.cell? ⟨wr.heap.size + 1, 2, none⟩ = some (.string x.sc.ref) ∧ w8.cell? ⟨wr.heap.size + 1, 3, none⟩ = some (.string x.key) ∧ w8.cell? ⟨w.heap.size, 1, none⟩ = some (.slice (some ⟨b, o, none⟩) n c) ∧ (Instr.lookup 68 (.map (some (w.heap.size + 1))) (.agg #[.string x.sc.prj, .int .i64 x.sc.trust, .string x.sc.ref, .string x.key]) false).run Tryd.prog w8 = .ok (.bool hv) w8 := hS w8 (Below.refl _ _)
                replace keepS := Lib.hid keepS
                replace CN2 := Lib.hid CN2
                clear hS
                refine wp_region_held_drew (S := fun w' => Below w8.heap.size w8 w' ∧ w'.cell? ⟨wr.heap.size, 0, none⟩ = some (.string x.sc.prj) ∧ w'.cell? ⟨wr.heap.size, 1, none⟩ = some (.int .i64 x.sc.trust) ∧ w'.cell? ⟨wr.heap.size, 2, none⟩ = some (.string x.sc.ref) ∧ w'.cell? ⟨wr.heap.size, 3, none⟩ = some (.string x.key) ∧ w'.cell? ⟨wr.heap.size, 4, none⟩ = some (.int .u64 x.dig) ∧ w'.cell? ⟨wr.heap.size, 5, none⟩ = some (.int .i64 x.size) ∧ w'.cell? ⟨wr.heap.size, 6, none⟩ = some (.int .i64 x.created) ∧ w'.cell? ⟨wr.heap.size, 7, none⟩ = some (.int .i64 x.used) ∧ w'.cell? ⟨wr.heap.size + 1, 0, none⟩ = some (.string x.sc.prj) ∧ w'.cell? ⟨wr.heap.size + 1, 1, none⟩ = some (.int .i64 x.sc.trust) ∧ w'.cell? ⟨wr.heap.size + 1, 2, none⟩ = some (.string x.sc.ref) ∧ w'.cell? ⟨wr.heap.size + 1, 3, none⟩ = some (.string x.key) ∧ w'.cell? ⟨w.heap.size, 1, none⟩ = some (.slice (some ⟨b, o, none⟩) n c) ∧ (Instr.lookup 68 (.map (some (w.heap.size + 1))) (.agg #[.string x.sc.prj, .int .i64 x.sc.trust, .string x.sc.ref, .string x.key]) false).run Tryd.prog w' = .ok (.bool hv) w') (by kernel_rfl) ?_ (fun hHeld => ?_)
                · (try dsimp only)
                  exact hS1
                refine wpAnyH_take (i := 0) (v := ?v28) rfl (by kernel_rfl) (by kernel_rfl) (by kernel_rfl) (fun _ _ _ h => h) (Or.inl ⟨by rfl, ?hy28⟩) (by assumption) ?rest28
                case hy28 => (intro w hSw; (try dsimp only at hSw); go_simp; try with_reducible rfl)
                simp only [Act.put, List.getElem_toArray, List.getElem_cons_zero, List.setIfInBounds_toArray, List.set_cons_zero, List.set_cons_succ]
                refine wpAnyH_ready (rs := [1]) (by kernel_rfl) (by simp) ?_
                refine AllReadyH.cons rfl (fun K hK => ?_) AllReadyH.nil
                go_simp
                go_at_call 36
                refine (CN2.out _ (by assumption)).mono ?_
                rintro e w7 ⟨rfl, hbq⟩
                dsimp only
                simp only [hN]
                refine hK.out _ _ ?_ (fun hHeld => ?_)
                · (try dsimp only)
                  exact keepS.out _ _ (by assumption) hbq
                clear hK K
                try simp only [Act.put, List.getElem_toArray, List.getElem_cons_zero, List.getElem_cons_succ, List.setIfInBounds_toArray, List.set_cons_zero, List.set_cons_succ]
                refine wpAnyH_take (i := 2) (v := ?v29) rfl (by kernel_rfl) (by kernel_rfl) (by kernel_rfl) (fun _ _ _ h => h) (Or.inl ⟨by rfl, ?hy29⟩) (by assumption) ?rest29
                case hy29 => (intro w hSw; (try dsimp only at hSw); go_simp; try with_reducible rfl)
                simp only [Act.put, List.getElem_toArray, List.getElem_cons_zero, List.getElem_cons_succ, List.setIfInBounds_toArray, List.set_cons_zero, List.set_cons_succ]
                refine wpAnyH_take (i := 3) (v := ?v30) rfl (by kernel_rfl) (by kernel_rfl) (by kernel_rfl) (fun _ _ _ h => h) (Or.inl ⟨by rfl, ?hy30⟩) (by assumption) ?rest30
                case hy30 => (intro w hSw; (try dsimp only at hSw); go_simp; try with_reducible rfl)
                simp only [Act.put, List.getElem_toArray, List.getElem_cons_zero, List.getElem_cons_succ, List.setIfInBounds_toArray, List.set_cons_zero, List.set_cons_succ]
                refine wpAnyH_take (i := 4) (v := ?v31) rfl (by kernel_rfl) (by kernel_rfl) (by kernel_rfl) (fun _ _ _ h => h) (Or.inl ⟨by rfl, ?hy31⟩) (by assumption) ?rest31
                case hy31 => (intro w hSw; (try dsimp only at hSw); go_simp; try with_reducible rfl)
                simp only [Act.put, List.getElem_toArray, List.getElem_cons_zero, List.getElem_cons_succ, List.setIfInBounds_toArray, List.set_cons_zero, List.set_cons_succ]
                refine wpAnyH_take (i := 5) (v := ?v32) rfl (by kernel_rfl) (by kernel_rfl) (by kernel_rfl) (fun _ _ _ h => h) (Or.inl ⟨by rfl, ?hy32⟩) (by assumption) ?rest32
                case hy32 => (intro w hSw; (try dsimp only at hSw); go_simp; try with_reducible rfl)
                simp only [Act.put, List.getElem_toArray, List.getElem_cons_zero, List.getElem_cons_succ, List.setIfInBounds_toArray, List.set_cons_zero, List.set_cons_succ]
                refine wpAnyH_ready (rs := [6]) (by kernel_rfl) (by simp) ?_
                refine AllReadyH.cons rfl (fun K hK => ?_) AllReadyH.nil
                go_simp
                go_at_call 35
                refine (CW.out _ _ _ _).mono ?_
                rintro e w7 ⟨rfl, hbq⟩
                dsimp only
                simp only [hZ]
                refine hK.out _ _ ?_ (fun hHeld => ?_)
                · (try dsimp only)
                  exact keepS.out _ _ (by assumption) hbq
                clear hK K
                try simp only [Act.put, List.getElem_toArray, List.getElem_cons_zero, List.getElem_cons_succ, List.setIfInBounds_toArray, List.set_cons_zero, List.set_cons_succ]
                refine wpAnyH_take (i := 7) (v := ?v33) rfl (by kernel_rfl) (by kernel_rfl) (by kernel_rfl) (fun _ _ _ h => h) (Or.inl ⟨by rfl, ?hy33⟩) (by assumption) ?rest33
                case hy33 => (intro w hSw; (try dsimp only at hSw); go_simp; try with_reducible rfl)
                simp only [Act.put, List.getElem_toArray, List.getElem_cons_zero, List.getElem_cons_succ, List.setIfInBounds_toArray, List.set_cons_zero, List.set_cons_succ]
                refine wpAnyH_take (i := 8) (v := ?v34) rfl (by kernel_rfl) (by kernel_rfl) (by kernel_rfl) (fun _ _ _ h => h) (Or.inl ⟨by rfl, ?hy34⟩) (by assumption) ?rest34
                case hy34 => (intro w hSw; (try dsimp only at hSw); go_simp; try with_reducible rfl)
                simp only [Act.put, List.getElem_toArray, List.getElem_cons_zero, List.getElem_cons_succ, List.setIfInBounds_toArray, List.set_cons_zero, List.set_cons_succ]
                refine wpAnyH_take (i := 9) (v := ?v35) rfl (by kernel_rfl) (by kernel_rfl) (by kernel_rfl) (fun _ _ _ h => h) (Or.inl ⟨by rfl, ?hy35⟩) (by assumption) ?rest35
                case hy35 => (intro w hSw; (try dsimp only at hSw); go_simp; try with_reducible rfl)
                simp only [Act.put, List.getElem_toArray, List.getElem_cons_zero, List.getElem_cons_succ, List.setIfInBounds_toArray, List.set_cons_zero, List.set_cons_succ]
                refine wpAnyH_take (i := 10) (v := ?v36) rfl (by kernel_rfl) (by kernel_rfl) (by kernel_rfl) (fun _ _ _ h => h) (Or.inl ⟨by rfl, ?hy36⟩) (by assumption) ?rest36
                case hy36 => (intro w hSw; (try dsimp only at hSw); go_simp; try with_reducible rfl)
                simp only [Act.put, List.getElem_toArray, List.getElem_cons_zero, List.getElem_cons_succ, List.setIfInBounds_toArray, List.set_cons_zero, List.set_cons_succ]
                refine wpAnyH_take (i := 11) (v := ?v37) rfl (by kernel_rfl) (by kernel_rfl) (by kernel_rfl) (fun _ _ _ h => h) (Or.inl ⟨by rfl, ?hy37⟩) (by assumption) ?rest37
                case hy37 => (intro w hSw; (try dsimp only at hSw); go_simp; try with_reducible rfl)
                simp only [Act.put, List.getElem_toArray, List.getElem_cons_zero, List.getElem_cons_succ, List.setIfInBounds_toArray, List.set_cons_zero, List.set_cons_succ]
                refine wpAnyH_ready (rs := [12]) (by kernel_rfl) (by simp) ?_
                refine AllReadyH.cons rfl (fun K hK => ?_) AllReadyH.nil
                go_simp
                go_at_call 35
                refine (CW.out _ _ _ _).mono ?_
                rintro e w7 ⟨rfl, hbq⟩
                dsimp only
                simp only [hC]
                refine hK.out _ _ ?_ (fun hHeld => ?_)
                · (try dsimp only)
                  exact keepS.out _ _ (by assumption) hbq
                clear hK K
                try simp only [Act.put, List.getElem_toArray, List.getElem_cons_zero, List.getElem_cons_succ, List.setIfInBounds_toArray, List.set_cons_zero, List.set_cons_succ]
                refine wpAnyH_take (i := 13) (v := ?v38) rfl (by kernel_rfl) (by kernel_rfl) (by kernel_rfl) (fun _ _ _ h => h) (Or.inl ⟨by rfl, ?hy38⟩) (by assumption) ?rest38
                case hy38 => (intro w hSw; (try dsimp only at hSw); go_simp; try with_reducible rfl)
                simp only [Act.put, List.getElem_toArray, List.getElem_cons_zero, List.getElem_cons_succ, List.setIfInBounds_toArray, List.set_cons_zero, List.set_cons_succ]
                refine wpAnyH_take (i := 14) (v := ?v39) rfl (by kernel_rfl) (by kernel_rfl) (by kernel_rfl) (fun _ _ _ h => h) (Or.inl ⟨by rfl, ?hy39⟩) (by assumption) ?rest39
                case hy39 => (intro w hSw; (try dsimp only at hSw); go_simp; try with_reducible rfl)
                simp only [Act.put, List.getElem_toArray, List.getElem_cons_zero, List.getElem_cons_succ, List.setIfInBounds_toArray, List.set_cons_zero, List.set_cons_succ]
                refine wpAnyH_take (i := 15) (v := ?v40) rfl (by kernel_rfl) (by kernel_rfl) (by kernel_rfl) (fun _ _ _ h => h) (Or.inl ⟨by rfl, ?hy40⟩) (by assumption) ?rest40
                case hy40 => (intro w hSw; (try dsimp only at hSw); go_simp; try with_reducible rfl)
                simp only [Act.put, List.getElem_toArray, List.getElem_cons_zero, List.getElem_cons_succ, List.setIfInBounds_toArray, List.set_cons_zero, List.set_cons_succ]
                refine wpAnyH_take (i := 16) (v := undef) rfl (by kernel_rfl) (by kernel_rfl) (by kernel_rfl) (fun _ _ _ h => h) (Or.inr ⟨by rfl, rfl⟩) (by assumption) ?_
                simp only [Act.put, List.getElem_toArray, List.getElem_cons_zero, List.getElem_cons_succ, List.setIfInBounds_toArray, List.set_cons_zero, List.set_cons_succ]
                refine wpAnyH_take (i := 17) (v := undef) rfl (by kernel_rfl) (by kernel_rfl) (by kernel_rfl) (fun _ _ _ h => h) (Or.inr ⟨by rfl, rfl⟩) (by assumption) ?_
                simp only [Act.put, List.getElem_toArray, List.getElem_cons_zero, List.getElem_cons_succ, List.setIfInBounds_toArray, List.set_cons_zero, List.set_cons_succ]
                refine wpAnyH_take (i := 18) (v := undef) rfl (by kernel_rfl) (by kernel_rfl) (by kernel_rfl) (fun _ _ _ h => h) (Or.inr ⟨by rfl, rfl⟩) (by assumption) ?_
                simp only [Act.put, List.getElem_toArray, List.getElem_cons_zero, List.getElem_cons_succ, List.setIfInBounds_toArray, List.set_cons_zero, List.set_cons_succ]
                refine wpAnyH_take (i := 19) (v := undef) rfl (by kernel_rfl) (by kernel_rfl) (by kernel_rfl) (fun _ _ _ h => h) (Or.inr ⟨by rfl, rfl⟩) (by assumption) ?_
                simp only [Act.put, List.getElem_toArray, List.getElem_cons_zero, List.getElem_cons_succ, List.setIfInBounds_toArray, List.set_cons_zero, List.set_cons_succ]
                refine wpAnyH_take (i := 20) (v := undef) rfl (by kernel_rfl) (by kernel_rfl) (by kernel_rfl) (fun _ _ _ h => h) (Or.inr ⟨by rfl, rfl⟩) (by assumption) ?_
                simp only [Act.put, List.getElem_toArray, List.getElem_cons_zero, List.getElem_cons_succ, List.setIfInBounds_toArray, List.set_cons_zero, List.set_cons_succ]
                refine wpAnyH_take (i := 21) (v := undef) rfl (by kernel_rfl) (by kernel_rfl) (by kernel_rfl) (fun _ _ _ h => h) (Or.inr ⟨by rfl, rfl⟩) (by assumption) ?_
                simp only [Act.put, List.getElem_toArray, List.getElem_cons_zero, List.getElem_cons_succ, List.setIfInBounds_toArray, List.set_cons_zero, List.set_cons_succ]
                refine wpAnyH_take (i := 22) (v := ?v41) rfl (by kernel_rfl) (by kernel_rfl) (by kernel_rfl) (fun _ _ _ h => h) (Or.inl ⟨by rfl, ?hy41⟩) (by assumption) ?rest41
                case hy41 => (intro w hSw; (try dsimp only at hSw); go_simp; try with_reducible rfl)
                simp only [Act.put, List.getElem_toArray, List.getElem_cons_zero, List.getElem_cons_succ, List.setIfInBounds_toArray, List.set_cons_zero, List.set_cons_succ]
                refine wpAnyH_take (i := 23) (v := ?v42) rfl (by kernel_rfl) (by kernel_rfl) (by kernel_rfl) (fun _ _ _ h => h) (Or.inl ⟨by rfl, ?hy42⟩) (by assumption) ?rest42
                case hy42 => (intro w hSw; (try dsimp only at hSw); go_simp; try with_reducible rfl)
                simp only [Act.put, List.getElem_toArray, List.getElem_cons_zero, List.getElem_cons_succ, List.setIfInBounds_toArray, List.set_cons_zero, List.set_cons_succ]
                refine wpAnyH_take (i := 24) (v := undef) rfl (by kernel_rfl) (by kernel_rfl) (by kernel_rfl) (fun _ _ _ h => h) (Or.inr ⟨by rfl, rfl⟩) (by assumption) ?_
                simp only [Act.put, List.getElem_toArray, List.getElem_cons_zero, List.getElem_cons_succ, List.setIfInBounds_toArray, List.set_cons_zero, List.set_cons_succ]
                refine wpAnyH_take (i := 25) (v := undef) rfl (by kernel_rfl) (by kernel_rfl) (by kernel_rfl) (fun _ _ _ h => h) (Or.inr ⟨by rfl, rfl⟩) (by assumption) ?_
                simp only [Act.put, List.getElem_toArray, List.getElem_cons_zero, List.getElem_cons_succ, List.setIfInBounds_toArray, List.set_cons_zero, List.set_cons_succ]
                refine wpAnyH_take (i := 26) (v := undef) rfl (by kernel_rfl) (by kernel_rfl) (by kernel_rfl) (fun _ _ _ h => h) (Or.inr ⟨by rfl, rfl⟩) (by assumption) ?_
                simp only [Act.put, List.getElem_toArray, List.getElem_cons_zero, List.getElem_cons_succ, List.setIfInBounds_toArray, List.set_cons_zero, List.set_cons_succ]
                refine wpAnyH_take (i := 27) (v := ?v43) rfl (by kernel_rfl) (by kernel_rfl) (by kernel_rfl) (fun _ _ _ h => h) (Or.inl ⟨by rfl, ?hy43⟩) (by assumption) ?rest43
                case hy43 => (intro w hSw; (try dsimp only at hSw); go_simp; try with_reducible rfl)
                simp only [Act.put, List.getElem_toArray, List.getElem_cons_zero, List.getElem_cons_succ, List.setIfInBounds_toArray, List.set_cons_zero, List.set_cons_succ]
                refine wpAnyH_take (i := 28) (v := ?v44) rfl (by kernel_rfl) (by kernel_rfl) (by kernel_rfl) (fun _ _ _ h => h) (Or.inl ⟨by rfl, ?hy44⟩) (by assumption) ?rest44
                case hy44 => (intro w hSw; (try dsimp only at hSw); go_simp; try with_reducible rfl)
                simp only [Act.put, List.getElem_toArray, List.getElem_cons_zero, List.getElem_cons_succ, List.setIfInBounds_toArray, List.set_cons_zero, List.set_cons_succ]
                refine wpAnyH_take (i := 29) (v := undef) rfl (by kernel_rfl) (by kernel_rfl) (by kernel_rfl) (fun _ _ _ h => h) (Or.inr ⟨by rfl, rfl⟩) (by assumption) ?_
                simp only [Act.put, List.getElem_toArray, List.getElem_cons_zero, List.getElem_cons_succ, List.setIfInBounds_toArray, List.set_cons_zero, List.set_cons_succ]
                refine wpAnyH_take (i := 30) (v := undef) rfl (by kernel_rfl) (by kernel_rfl) (by kernel_rfl) (fun _ _ _ h => h) (Or.inr ⟨by rfl, rfl⟩) (by assumption) ?_
                simp only [Act.put, List.getElem_toArray, List.getElem_cons_zero, List.getElem_cons_succ, List.setIfInBounds_toArray, List.set_cons_zero, List.set_cons_succ]
                refine wpAnyH_take (i := 31) (v := undef) rfl (by kernel_rfl) (by kernel_rfl) (by kernel_rfl) (fun _ _ _ h => h) (Or.inr ⟨by rfl, rfl⟩) (by assumption) ?_
                simp only [Act.put, List.getElem_toArray, List.getElem_cons_zero, List.getElem_cons_succ, List.setIfInBounds_toArray, List.set_cons_zero, List.set_cons_succ]
                refine wpAnyH_take (i := 32) (v := undef) rfl (by kernel_rfl) (by kernel_rfl) (by kernel_rfl) (fun _ _ _ h => h) (Or.inr ⟨by rfl, rfl⟩) (by assumption) ?_
                simp only [Act.put, List.getElem_toArray, List.getElem_cons_zero, List.getElem_cons_succ, List.setIfInBounds_toArray, List.set_cons_zero, List.set_cons_succ]
                refine wpAnyH_take (i := 33) (v := undef) rfl (by kernel_rfl) (by kernel_rfl) (by kernel_rfl) (fun _ _ _ h => h) (Or.inr ⟨by rfl, rfl⟩) (by assumption) ?_
                simp only [Act.put, List.getElem_toArray, List.getElem_cons_zero, List.getElem_cons_succ, List.setIfInBounds_toArray, List.set_cons_zero, List.set_cons_succ]
                refine wpAnyH_take (i := 34) (v := undef) rfl (by kernel_rfl) (by kernel_rfl) (by kernel_rfl) (fun _ _ _ h => h) (Or.inr ⟨by rfl, rfl⟩) (by assumption) ?_
                simp only [Act.put, List.getElem_toArray, List.getElem_cons_zero, List.getElem_cons_succ, List.setIfInBounds_toArray, List.set_cons_zero, List.set_cons_succ]
                refine wpAnyH_take (i := 35) (v := undef) rfl (by kernel_rfl) (by kernel_rfl) (by kernel_rfl) (fun _ _ _ h => h) (Or.inr ⟨by rfl, rfl⟩) (by assumption) ?_
                simp only [Act.put, List.getElem_toArray, List.getElem_cons_zero, List.getElem_cons_succ, List.setIfInBounds_toArray, List.set_cons_zero, List.set_cons_succ]
                refine wpAnyH_take (i := 36) (v := undef) rfl (by kernel_rfl) (by kernel_rfl) (by kernel_rfl) (fun _ _ _ h => h) (Or.inr ⟨by rfl, rfl⟩) (by assumption) ?_
                simp only [Act.put, List.getElem_toArray, List.getElem_cons_zero, List.getElem_cons_succ, List.setIfInBounds_toArray, List.set_cons_zero, List.set_cons_succ]
                refine wpAnyH_take (i := 37) (v := undef) rfl (by kernel_rfl) (by kernel_rfl) (by kernel_rfl) (fun _ _ _ h => h) (Or.inr ⟨by rfl, rfl⟩) (by assumption) ?_
                simp only [Act.put, List.getElem_toArray, List.getElem_cons_zero, List.getElem_cons_succ, List.setIfInBounds_toArray, List.set_cons_zero, List.set_cons_succ]
                refine wpAnyH_take (i := 38) (v := undef) rfl (by kernel_rfl) (by kernel_rfl) (by kernel_rfl) (fun _ _ _ h => h) (Or.inr ⟨by rfl, rfl⟩) (by assumption) ?_
                simp only [Act.put, List.getElem_toArray, List.getElem_cons_zero, List.getElem_cons_succ, List.setIfInBounds_toArray, List.set_cons_zero, List.set_cons_succ]
                refine wpAnyH_take (i := 39) (v := undef) rfl (by kernel_rfl) (by kernel_rfl) (by kernel_rfl) (fun _ _ _ h => h) (Or.inr ⟨by rfl, rfl⟩) (by assumption) ?_
                simp only [Act.put, List.getElem_toArray, List.getElem_cons_zero, List.getElem_cons_succ, List.setIfInBounds_toArray, List.set_cons_zero, List.set_cons_succ]
                refine wpAnyH_take (i := 40) (v := undef) rfl (by kernel_rfl) (by kernel_rfl) (by kernel_rfl) (fun _ _ _ h => h) (Or.inr ⟨by rfl, rfl⟩) (by assumption) ?_
                simp only [Act.put, List.getElem_toArray, List.getElem_cons_zero, List.getElem_cons_succ, List.setIfInBounds_toArray, List.set_cons_zero, List.set_cons_succ]
                refine wpAnyH_take (i := 41) (v := undef) rfl (by kernel_rfl) (by kernel_rfl) (by kernel_rfl) (fun _ _ _ h => h) (Or.inr ⟨by rfl, rfl⟩) (by assumption) ?_
                simp only [Act.put, List.getElem_toArray, List.getElem_cons_zero, List.getElem_cons_succ, List.setIfInBounds_toArray, List.set_cons_zero, List.set_cons_succ]
                refine wpAnyH_take (i := 42) (v := undef) rfl (by kernel_rfl) (by kernel_rfl) (by kernel_rfl) (fun _ _ _ h => h) (Or.inr ⟨by rfl, rfl⟩) (by assumption) ?_
                simp only [Act.put, List.getElem_toArray, List.getElem_cons_zero, List.getElem_cons_succ, List.setIfInBounds_toArray, List.set_cons_zero, List.set_cons_succ]
                refine wpAnyH_take (i := 43) (v := ?v45) rfl (by kernel_rfl) (by kernel_rfl) (by kernel_rfl) (fun _ _ _ h => h) (Or.inl ⟨by rfl, ?hy45⟩) (by assumption) ?rest45
                case hy45 => (intro w hSw; (try dsimp only at hSw); go_simp; try with_reducible rfl)
                simp only [Act.put, List.getElem_toArray, List.getElem_cons_zero, List.getElem_cons_succ, List.setIfInBounds_toArray, List.set_cons_zero, List.set_cons_succ]
                refine wpAnyH_done (by kernel_rfl) ?_ _
                have hb9 := hHeld.1
                repeat' ((fail_if_success at_builtin); (first | go_skip | go_guarded | go_step))
                go_ret
                exact ⟨ret_i hbad.out.symm, hb8.trans (hb9.mono hb8.size)⟩
              | true =>
                cases hU : inR x.used x.created 1125899906842624 with
                | false =>
                  have hbad : errV z l = 1 := errV_bad (validS_bad hx.out (by rw [hga.out, hra]; simp [hN, hZ, hC, hU]))
                  replace hbad := Lib.hid hbad
                  have hS : ∀ w', Below w8.heap.size w8 w' → Below w8.heap.size w8 w' ∧ w'.cell? ⟨wr.heap.size, 0, none⟩ = some (.string x.sc.prj) ∧ w'.cell? ⟨wr.heap.size, 1, none⟩ = some (.int .i64 x.sc.trust) ∧ w'.cell? ⟨wr.heap.size, 2, none⟩ = some (.string x.sc.ref) ∧ w'.cell? ⟨wr.heap.size, 3, none⟩ = some (.string x.key) ∧ w'.cell? ⟨wr.heap.size, 4, none⟩ = some (.int .u64 x.dig) ∧ w'.cell? ⟨wr.heap.size, 5, none⟩ = some (.int .i64 x.size) ∧ w'.cell? ⟨wr.heap.size, 6, none⟩ = some (.int .i64 x.created) ∧ w'.cell? ⟨wr.heap.size, 7, none⟩ = some (.int .i64 x.used) ∧ w'.cell? ⟨wr.heap.size + 1, 0, none⟩ = some (.string x.sc.prj) ∧ w'.cell? ⟨wr.heap.size + 1, 1, none⟩ = some (.int .i64 x.sc.trust) ∧ w'.cell? ⟨wr.heap.size + 1, 2, none⟩ = some (.string x.sc.ref) ∧ w'.cell? ⟨wr.heap.size + 1, 3, none⟩ = some (.string x.key) ∧ w'.cell? ⟨w.heap.size, 1, none⟩ = some (.slice (some ⟨b, o, none⟩) n c) ∧ (Instr.lookup 68 (.map (some (w.heap.size + 1))) (.agg #[.string x.sc.prj, .int .i64 x.sc.trust, .string x.sc.ref, .string x.key]) false).run Tryd.prog w' = .ok (.bool hv) w' := fun w' hb => ⟨hb, (hb.cell (p := ⟨wr.heap.size, 0, none⟩) le).trans e0, (hb.cell (p := ⟨wr.heap.size, 1, none⟩) le).trans e1, (hb.cell (p := ⟨wr.heap.size, 2, none⟩) le).trans e2, (hb.cell (p := ⟨wr.heap.size, 3, none⟩) le).trans e3, (hb.cell (p := ⟨wr.heap.size, 4, none⟩) le).trans e4, (hb.cell (p := ⟨wr.heap.size, 5, none⟩) le).trans e5, (hb.cell (p := ⟨wr.heap.size, 6, none⟩) le).trans e6, (hb.cell (p := ⟨wr.heap.size, 7, none⟩) le).trans e7, (hb.cell (p := ⟨wr.heap.size + 1, 0, none⟩) ln).trans n0, (hb.cell (p := ⟨wr.heap.size + 1, 1, none⟩) ln).trans n1, (hb.cell (p := ⟨wr.heap.size + 1, 2, none⟩) ln).trans n2, (hb.cell (p := ⟨wr.heap.size + 1, 3, none⟩) ln).trans n3, (hb.cell (p := ⟨w.heap.size, 1, none⟩) l1).trans q1, hlook w' hb⟩
                  have keepS : ∀ w' w'', (Below w8.heap.size w8 w' ∧ w'.cell? ⟨wr.heap.size, 0, none⟩ = some (.string x.sc.prj) ∧ w'.cell? ⟨wr.heap.size, 1, none⟩ = some (.int .i64 x.sc.trust) ∧ w'.cell? ⟨wr.heap.size, 2, none⟩ = some (.string x.sc.ref) ∧ w'.cell? ⟨wr.heap.size, 3, none⟩ = some (.string x.key) ∧ w'.cell? ⟨wr.heap.size, 4, none⟩ = some (.int .u64 x.dig) ∧ w'.cell? ⟨wr.heap.size, 5, none⟩ = some (.int .i64 x.size) ∧ w'.cell? ⟨wr.heap.size, 6, none⟩ = some (.int .i64 x.created) ∧ w'.cell? ⟨wr.heap.size, 7, none⟩ = some (.int .i64 x.used) ∧ w'.cell? ⟨wr.heap.size + 1, 0, none⟩ = some (.string x.sc.prj) ∧ w'.cell? ⟨wr.heap.size + 1, 1, none⟩ = some (.int .i64 x.sc.trust) ∧ w'.cell? ⟨wr.heap.size + 1, 2, none⟩ = some (.string x.sc.ref) ∧ w'.cell? ⟨wr.heap.size + 1, 3, none⟩ = some (.string x.key) ∧ w'.cell? ⟨w.heap.size, 1, none⟩ = some (.slice (some ⟨b, o, none⟩) n c) ∧ (Instr.lookup 68 (.map (some (w.heap.size + 1))) (.agg #[.string x.sc.prj, .int .i64 x.sc.trust, .string x.sc.ref, .string x.key]) false).run Tryd.prog w' = .ok (.bool hv) w') → Below w'.heap.size w' w'' → (Below w8.heap.size w8 w'' ∧ w''.cell? ⟨wr.heap.size, 0, none⟩ = some (.string x.sc.prj) ∧ w''.cell? ⟨wr.heap.size, 1, none⟩ = some (.int .i64 x.sc.trust) ∧ w''.cell? ⟨wr.heap.size, 2, none⟩ = some (.string x.sc.ref) ∧ w''.cell? ⟨wr.heap.size, 3, none⟩ = some (.string x.key) ∧ w''.cell? ⟨wr.heap.size, 4, none⟩ = some (.int .u64 x.dig) ∧ w''.cell? ⟨wr.heap.size, 5, none⟩ = some (.int .i64 x.size) ∧ w''.cell? ⟨wr.heap.size, 6, none⟩ = some (.int .i64 x.created) ∧ w''.cell? ⟨wr.heap.size, 7, none⟩ = some (.int .i64 x.used) ∧ w''.cell? ⟨wr.heap.size + 1, 0, none⟩ = some (.string x.sc.prj) ∧ w''.cell? ⟨wr.heap.size + 1, 1, none⟩ = some (.int .i64 x.sc.trust) ∧ w''.cell? ⟨wr.heap.size + 1, 2, none⟩ = some (.string x.sc.ref) ∧ w''.cell? ⟨wr.heap.size + 1, 3, none⟩ = some (.string x.key) ∧ w''.cell? ⟨w.heap.size, 1, none⟩ = some (.slice (some ⟨b, o, none⟩) n c) ∧ (Instr.lookup 68 (.map (some (w.heap.size + 1))) (.agg #[.string x.sc.prj, .int .i64 x.sc.trust, .string x.sc.ref, .string x.key]) false).run Tryd.prog w'' = .ok (.bool hv) w'') := fun w' w'' h hc => hS w'' (h.1.trans (hc.mono h.1.size))
                  have CN2 := fun w' (h : Below w8.heap.size w8 w' ∧ w'.cell? ⟨wr.heap.size, 0, none⟩ = some (.string x.sc.prj) ∧ w'.cell? ⟨wr.heap.size, 1, none⟩ = some (.int .i64 x.sc.trust) ∧ w'.cell? ⟨wr.heap.size, 2, none⟩ = some (.string x.sc.ref) ∧ w'.cell? ⟨wr.heap.size, 3, none⟩ = some (.string x.key) ∧ w'.cell? ⟨wr.heap.size, 4, none⟩ = some (.int .u64 x.dig) ∧ w'.cell? ⟨wr.heap.size, 5, none⟩ = some (.int .i64 x.size) ∧ w'.cell? ⟨wr.heap.size, 6, none⟩ = some (.int .i64 x.created) ∧ w'.cell? ⟨wr.heap.size, 7, none⟩ = some (.int .i64 x.used) ∧ w'.cell? ⟨wr.heap.size + 1, 0, none⟩ = some (.string x.sc.prj) ∧ w'.cell? ⟨wr.heap.size + 1, 1, none⟩ = some (.int .i64 x.sc.trust) ∧ w'.cell? ⟨wr.heap.size + 1, 2, none⟩ = some (.string x.sc.ref) ∧ w'.cell? ⟨wr.heap.size + 1, 3, none⟩ = some (.string x.key) ∧ w'.cell? ⟨w.heap.size, 1, none⟩ = some (.slice (some ⟨b, o, none⟩) n c) ∧ (Instr.lookup 68 (.map (some (w.heap.size + 1))) (.agg #[.string x.sc.prj, .int .i64 x.sc.trust, .string x.sc.ref, .string x.key]) false).run Tryd.prog w' = .ok (.bool hv) w') => CN w' h.1
                  have hS1 : Below w8.heap.size w8 w8.drew ∧ w8.drew.cell? ⟨wr.heap.size, 0, none⟩ = some (.string x.sc.prj) ∧ w8.drew.cell? ⟨wr.heap.size, 1, none⟩ = some (.int .i64 x.sc.trust) ∧ w8.drew.cell? ⟨wr.heap.size, 2, none⟩ = some (.string x.sc.ref) ∧ w8.drew.cell? ⟨wr.heap.size, 3, none⟩ = some (.string x.key) ∧ w8.drew.cell? ⟨wr.heap.size, 4, none⟩ = some (.int .u64 x.dig) ∧ w8.drew.cell? ⟨wr.heap.size, 5, none⟩ = some (.int .i64 x.size) ∧ w8.drew.cell? ⟨wr.heap.size, 6, none⟩ = some (.int .i64 x.created) ∧ w8.drew.cell? ⟨wr.heap.size, 7, none⟩ = some (.int .i64 x.used) ∧ w8.drew.cell? ⟨wr.heap.size + 1, 0, none⟩ = some (.string x.sc.prj) ∧ w8.drew.cell? ⟨wr.heap.size + 1, 1, none⟩ = some (.int .i64 x.sc.trust) ∧ w8.drew.cell? ⟨wr.heap.size + 1, 2, none⟩ = some (.string x.sc.ref) ∧ w8.drew.cell? ⟨wr.heap.size + 1, 3, none⟩ = some (.string x.key) ∧ w8.drew.cell? ⟨w.heap.size, 1, none⟩ = some (.slice (some ⟨b, o, none⟩) n c) ∧ (Instr.lookup 68 (.map (some (w.heap.size + 1))) (.agg #[.string x.sc.prj, .int .i64 x.sc.trust, .string x.sc.ref, .string x.key]) false).run Tryd.prog w8.drew = .ok (.bool hv) w8.drew := hS w8.drew (Below.refl _ _).drew
                  have hS0 : Below w8.heap.size w8 w8 ∧ w8.cell? ⟨wr.heap.size, 0, none⟩ = some (.string x.sc.prj) ∧ w8.cell? ⟨wr.heap.size, 1, none⟩ = some (.int .i64 x.sc.trust) ∧ w8.cell? ⟨wr.heap.size, 2, none⟩ = some (.string x.sc.ref) ∧ w8.cell? ⟨wr.heap.size, 3, none⟩ = some (.string x.key) ∧ w8.cell? ⟨wr.heap.size, 4, none⟩ = some (.int .u64 x.dig) ∧ w8.cell? ⟨wr.heap.size, 5, none⟩ = some (.int .i64 x.size) ∧ w8.cell? ⟨wr.heap.size, 6, none⟩ = some (.int .i64 x.created) ∧ w8.cell? ⟨wr.heap.size, 7, none⟩ = some (.int .i64 x.used) ∧ w8.cell? ⟨wr.heap.size + 1, 0, none⟩ = some (.string x.sc.prj) ∧ w8.cell? ⟨wr.heap.size + 1, 1, none⟩ = some (.int .i64 x.sc.trust) ∧ w8.cell? ⟨wr.heap.size + 1, 2, none⟩ = some (.string x.sc.ref) ∧ w8.cell? ⟨wr.heap.size + 1, 3, none⟩ = some (.string x.key) ∧ w8.cell? ⟨w.heap.size, 1, none⟩ = some (.slice (some ⟨b, o, none⟩) n c) ∧ (Instr.lookup 68 (.map (some (w.heap.size + 1))) (.agg #[.string x.sc.prj, .int .i64 x.sc.trust, .string x.sc.ref, .string x.key]) false).run Tryd.prog w8 = .ok (.bool hv) w8 := hS w8 (Below.refl _ _)
                  replace keepS := Lib.hid keepS
                  replace CN2 := Lib.hid CN2
                  clear hS
                  refine wp_region_held_drew (S := fun w' => Below w8.heap.size w8 w' ∧ w'.cell? ⟨wr.heap.size, 0, none⟩ = some (.string x.sc.prj) ∧ w'.cell? ⟨wr.heap.size, 1, none⟩ = some (.int .i64 x.sc.trust) ∧ w'.cell? ⟨wr.heap.size, 2, none⟩ = some (.string x.sc.ref) ∧ w'.cell? ⟨wr.heap.size, 3, none⟩ = some (.string x.key) ∧ w'.cell? ⟨wr.heap.size, 4, none⟩ = some (.int .u64 x.dig) ∧ w'.cell? ⟨wr.heap.size, 5, none⟩ = some (.int .i64 x.size) ∧ w'.cell? ⟨wr.heap.size, 6, none⟩ = some (.int .i64 x.created) ∧ w'.cell? ⟨wr.heap.size, 7, none⟩ = some (.int .i64 x.used) ∧ w'.cell? ⟨wr.heap.size + 1, 0, none⟩ = some (.string x.sc.prj) ∧ w'.cell? ⟨wr.heap.size + 1, 1, none⟩ = some (.int .i64 x.sc.trust) ∧ w'.cell? ⟨wr.heap.size + 1, 2, none⟩ = some (.string x.sc.ref) ∧ w'.cell? ⟨wr.heap.size + 1, 3, none⟩ = some (.string x.key) ∧ w'.cell? ⟨w.heap.size, 1, none⟩ = some (.slice (some ⟨b, o, none⟩) n c) ∧ (Instr.lookup 68 (.map (some (w.heap.size + 1))) (.agg #[.string x.sc.prj, .int .i64 x.sc.trust, .string x.sc.ref, .string x.key]) false).run Tryd.prog w' = .ok (.bool hv) w') (by kernel_rfl) ?_ (fun hHeld => ?_)
                  · (try dsimp only)
                    exact hS1
                  refine wpAnyH_take (i := 0) (v := ?v46) rfl (by kernel_rfl) (by kernel_rfl) (by kernel_rfl) (fun _ _ _ h => h) (Or.inl ⟨by rfl, ?hy46⟩) (by assumption) ?rest46
                  case hy46 => (intro w hSw; (try dsimp only at hSw); go_simp; try with_reducible rfl)
                  simp only [Act.put, List.getElem_toArray, List.getElem_cons_zero, List.setIfInBounds_toArray, List.set_cons_zero, List.set_cons_succ]
                  refine wpAnyH_ready (rs := [1]) (by kernel_rfl) (by simp) ?_
                  refine AllReadyH.cons rfl (fun K hK => ?_) AllReadyH.nil
                  go_simp
                  go_at_call 36
                  refine (CN2.out _ (by assumption)).mono ?_
                  rintro e w7 ⟨rfl, hbq⟩
                  dsimp only
                  simp only [hN]
                  refine hK.out _ _ ?_ (fun hHeld => ?_)
                  · (try dsimp only)
                    exact keepS.out _ _ (by assumption) hbq
                  clear hK K
                  try simp only [Act.put, List.getElem_toArray, List.getElem_cons_zero, List.getElem_cons_succ, List.setIfInBounds_toArray, List.set_cons_zero, List.set_cons_succ]
                  refine wpAnyH_take (i := 2) (v := ?v47) rfl (by kernel_rfl) (by kernel_rfl) (by kernel_rfl) (fun _ _ _ h => h) (Or.inl ⟨by rfl, ?hy47⟩) (by assumption) ?rest47
                  case hy47 => (intro w hSw; (try dsimp only at hSw); go_simp; try with_reducible rfl)
                  simp only [Act.put, List.getElem_toArray, List.getElem_cons_zero, List.getElem_cons_succ, List.setIfInBounds_toArray, List.set_cons_zero, List.set_cons_succ]
                  refine wpAnyH_take (i := 3) (v := ?v48) rfl (by kernel_rfl) (by kernel_rfl) (by kernel_rfl) (fun _ _ _ h => h) (Or.inl ⟨by rfl, ?hy48⟩) (by assumption) ?rest48
                  case hy48 => (intro w hSw; (try dsimp only at hSw); go_simp; try with_reducible rfl)
                  simp only [Act.put, List.getElem_toArray, List.getElem_cons_zero, List.getElem_cons_succ, List.setIfInBounds_toArray, List.set_cons_zero, List.set_cons_succ]
                  refine wpAnyH_take (i := 4) (v := ?v49) rfl (by kernel_rfl) (by kernel_rfl) (by kernel_rfl) (fun _ _ _ h => h) (Or.inl ⟨by rfl, ?hy49⟩) (by assumption) ?rest49
                  case hy49 => (intro w hSw; (try dsimp only at hSw); go_simp; try with_reducible rfl)
                  simp only [Act.put, List.getElem_toArray, List.getElem_cons_zero, List.getElem_cons_succ, List.setIfInBounds_toArray, List.set_cons_zero, List.set_cons_succ]
                  refine wpAnyH_take (i := 5) (v := ?v50) rfl (by kernel_rfl) (by kernel_rfl) (by kernel_rfl) (fun _ _ _ h => h) (Or.inl ⟨by rfl, ?hy50⟩) (by assumption) ?rest50
                  case hy50 => (intro w hSw; (try dsimp only at hSw); go_simp; try with_reducible rfl)
                  simp only [Act.put, List.getElem_toArray, List.getElem_cons_zero, List.getElem_cons_succ, List.setIfInBounds_toArray, List.set_cons_zero, List.set_cons_succ]
                  refine wpAnyH_ready (rs := [6]) (by kernel_rfl) (by simp) ?_
                  refine AllReadyH.cons rfl (fun K hK => ?_) AllReadyH.nil
                  go_simp
                  go_at_call 35
                  refine (CW.out _ _ _ _).mono ?_
                  rintro e w7 ⟨rfl, hbq⟩
                  dsimp only
                  simp only [hZ]
                  refine hK.out _ _ ?_ (fun hHeld => ?_)
                  · (try dsimp only)
                    exact keepS.out _ _ (by assumption) hbq
                  clear hK K
                  try simp only [Act.put, List.getElem_toArray, List.getElem_cons_zero, List.getElem_cons_succ, List.setIfInBounds_toArray, List.set_cons_zero, List.set_cons_succ]
                  refine wpAnyH_take (i := 7) (v := ?v51) rfl (by kernel_rfl) (by kernel_rfl) (by kernel_rfl) (fun _ _ _ h => h) (Or.inl ⟨by rfl, ?hy51⟩) (by assumption) ?rest51
                  case hy51 => (intro w hSw; (try dsimp only at hSw); go_simp; try with_reducible rfl)
                  simp only [Act.put, List.getElem_toArray, List.getElem_cons_zero, List.getElem_cons_succ, List.setIfInBounds_toArray, List.set_cons_zero, List.set_cons_succ]
                  refine wpAnyH_take (i := 8) (v := ?v52) rfl (by kernel_rfl) (by kernel_rfl) (by kernel_rfl) (fun _ _ _ h => h) (Or.inl ⟨by rfl, ?hy52⟩) (by assumption) ?rest52
                  case hy52 => (intro w hSw; (try dsimp only at hSw); go_simp; try with_reducible rfl)
                  simp only [Act.put, List.getElem_toArray, List.getElem_cons_zero, List.getElem_cons_succ, List.setIfInBounds_toArray, List.set_cons_zero, List.set_cons_succ]
                  refine wpAnyH_take (i := 9) (v := ?v53) rfl (by kernel_rfl) (by kernel_rfl) (by kernel_rfl) (fun _ _ _ h => h) (Or.inl ⟨by rfl, ?hy53⟩) (by assumption) ?rest53
                  case hy53 => (intro w hSw; (try dsimp only at hSw); go_simp; try with_reducible rfl)
                  simp only [Act.put, List.getElem_toArray, List.getElem_cons_zero, List.getElem_cons_succ, List.setIfInBounds_toArray, List.set_cons_zero, List.set_cons_succ]
                  refine wpAnyH_take (i := 10) (v := ?v54) rfl (by kernel_rfl) (by kernel_rfl) (by kernel_rfl) (fun _ _ _ h => h) (Or.inl ⟨by rfl, ?hy54⟩) (by assumption) ?rest54
                  case hy54 => (intro w hSw; (try dsimp only at hSw); go_simp; try with_reducible rfl)
                  simp only [Act.put, List.getElem_toArray, List.getElem_cons_zero, List.getElem_cons_succ, List.setIfInBounds_toArray, List.set_cons_zero, List.set_cons_succ]
                  refine wpAnyH_take (i := 11) (v := ?v55) rfl (by kernel_rfl) (by kernel_rfl) (by kernel_rfl) (fun _ _ _ h => h) (Or.inl ⟨by rfl, ?hy55⟩) (by assumption) ?rest55
                  case hy55 => (intro w hSw; (try dsimp only at hSw); go_simp; try with_reducible rfl)
                  simp only [Act.put, List.getElem_toArray, List.getElem_cons_zero, List.getElem_cons_succ, List.setIfInBounds_toArray, List.set_cons_zero, List.set_cons_succ]
                  refine wpAnyH_ready (rs := [12]) (by kernel_rfl) (by simp) ?_
                  refine AllReadyH.cons rfl (fun K hK => ?_) AllReadyH.nil
                  go_simp
                  go_at_call 35
                  refine (CW.out _ _ _ _).mono ?_
                  rintro e w7 ⟨rfl, hbq⟩
                  dsimp only
                  simp only [hC]
                  refine hK.out _ _ ?_ (fun hHeld => ?_)
                  · (try dsimp only)
                    exact keepS.out _ _ (by assumption) hbq
                  clear hK K
                  try simp only [Act.put, List.getElem_toArray, List.getElem_cons_zero, List.getElem_cons_succ, List.setIfInBounds_toArray, List.set_cons_zero, List.set_cons_succ]
                  refine wpAnyH_take (i := 13) (v := ?v56) rfl (by kernel_rfl) (by kernel_rfl) (by kernel_rfl) (fun _ _ _ h => h) (Or.inl ⟨by rfl, ?hy56⟩) (by assumption) ?rest56
                  case hy56 => (intro w hSw; (try dsimp only at hSw); go_simp; try with_reducible rfl)
                  simp only [Act.put, List.getElem_toArray, List.getElem_cons_zero, List.getElem_cons_succ, List.setIfInBounds_toArray, List.set_cons_zero, List.set_cons_succ]
                  refine wpAnyH_take (i := 14) (v := ?v57) rfl (by kernel_rfl) (by kernel_rfl) (by kernel_rfl) (fun _ _ _ h => h) (Or.inl ⟨by rfl, ?hy57⟩) (by assumption) ?rest57
                  case hy57 => (intro w hSw; (try dsimp only at hSw); go_simp; try with_reducible rfl)
                  simp only [Act.put, List.getElem_toArray, List.getElem_cons_zero, List.getElem_cons_succ, List.setIfInBounds_toArray, List.set_cons_zero, List.set_cons_succ]
                  refine wpAnyH_take (i := 15) (v := ?v58) rfl (by kernel_rfl) (by kernel_rfl) (by kernel_rfl) (fun _ _ _ h => h) (Or.inl ⟨by rfl, ?hy58⟩) (by assumption) ?rest58
                  case hy58 => (intro w hSw; (try dsimp only at hSw); go_simp; try with_reducible rfl)
                  simp only [Act.put, List.getElem_toArray, List.getElem_cons_zero, List.getElem_cons_succ, List.setIfInBounds_toArray, List.set_cons_zero, List.set_cons_succ]
                  refine wpAnyH_take (i := 16) (v := ?v59) rfl (by kernel_rfl) (by kernel_rfl) (by kernel_rfl) (fun _ _ _ h => h) (Or.inl ⟨by rfl, ?hy59⟩) (by assumption) ?rest59
                  case hy59 => (intro w hSw; (try dsimp only at hSw); go_simp; try with_reducible rfl)
                  simp only [Act.put, List.getElem_toArray, List.getElem_cons_zero, List.getElem_cons_succ, List.setIfInBounds_toArray, List.set_cons_zero, List.set_cons_succ]
                  refine wpAnyH_take (i := 17) (v := ?v60) rfl (by kernel_rfl) (by kernel_rfl) (by kernel_rfl) (fun _ _ _ h => h) (Or.inl ⟨by rfl, ?hy60⟩) (by assumption) ?rest60
                  case hy60 => (intro w hSw; (try dsimp only at hSw); go_simp; try with_reducible rfl)
                  simp only [Act.put, List.getElem_toArray, List.getElem_cons_zero, List.getElem_cons_succ, List.setIfInBounds_toArray, List.set_cons_zero, List.set_cons_succ]
                  refine wpAnyH_take (i := 18) (v := ?v61) rfl (by kernel_rfl) (by kernel_rfl) (by kernel_rfl) (fun _ _ _ h => h) (Or.inl ⟨by rfl, ?hy61⟩) (by assumption) ?rest61
                  case hy61 => (intro w hSw; (try dsimp only at hSw); go_simp; try with_reducible rfl)
                  simp only [Act.put, List.getElem_toArray, List.getElem_cons_zero, List.getElem_cons_succ, List.setIfInBounds_toArray, List.set_cons_zero, List.set_cons_succ]
                  refine wpAnyH_take (i := 19) (v := ?v62) rfl (by kernel_rfl) (by kernel_rfl) (by kernel_rfl) (fun _ _ _ h => h) (Or.inl ⟨by rfl, ?hy62⟩) (by assumption) ?rest62
                  case hy62 => (intro w hSw; (try dsimp only at hSw); go_simp; try with_reducible rfl)
                  simp only [Act.put, List.getElem_toArray, List.getElem_cons_zero, List.getElem_cons_succ, List.setIfInBounds_toArray, List.set_cons_zero, List.set_cons_succ]
                  refine wpAnyH_ready (rs := [20]) (by kernel_rfl) (by simp) ?_
                  refine AllReadyH.cons rfl (fun K hK => ?_) AllReadyH.nil
                  go_simp
                  go_at_call 35
                  refine (CW.out _ _ _ _).mono ?_
                  rintro e w7 ⟨rfl, hbq⟩
                  dsimp only
                  simp only [hU]
                  refine hK.out _ _ ?_ (fun hHeld => ?_)
                  · (try dsimp only)
                    exact keepS.out _ _ (by assumption) hbq
                  clear hK K
                  try simp only [Act.put, List.getElem_toArray, List.getElem_cons_zero, List.getElem_cons_succ, List.setIfInBounds_toArray, List.set_cons_zero, List.set_cons_succ]
                  refine wpAnyH_take (i := 21) (v := ?v63) rfl (by kernel_rfl) (by kernel_rfl) (by kernel_rfl) (fun _ _ _ h => h) (Or.inl ⟨by rfl, ?hy63⟩) (by assumption) ?rest63
                  case hy63 => (intro w hSw; (try dsimp only at hSw); go_simp; try with_reducible rfl)
                  simp only [Act.put, List.getElem_toArray, List.getElem_cons_zero, List.getElem_cons_succ, List.setIfInBounds_toArray, List.set_cons_zero, List.set_cons_succ]
                  refine wpAnyH_take (i := 22) (v := ?v64) rfl (by kernel_rfl) (by kernel_rfl) (by kernel_rfl) (fun _ _ _ h => h) (Or.inl ⟨by rfl, ?hy64⟩) (by assumption) ?rest64
                  case hy64 => (intro w hSw; (try dsimp only at hSw); go_simp; try with_reducible rfl)
                  simp only [Act.put, List.getElem_toArray, List.getElem_cons_zero, List.getElem_cons_succ, List.setIfInBounds_toArray, List.set_cons_zero, List.set_cons_succ]
                  refine wpAnyH_take (i := 23) (v := ?v65) rfl (by kernel_rfl) (by kernel_rfl) (by kernel_rfl) (fun _ _ _ h => h) (Or.inl ⟨by rfl, ?hy65⟩) (by assumption) ?rest65
                  case hy65 => (intro w hSw; (try dsimp only at hSw); go_simp; try with_reducible rfl)
                  simp only [Act.put, List.getElem_toArray, List.getElem_cons_zero, List.getElem_cons_succ, List.setIfInBounds_toArray, List.set_cons_zero, List.set_cons_succ]
                  refine wpAnyH_take (i := 24) (v := undef) rfl (by kernel_rfl) (by kernel_rfl) (by kernel_rfl) (fun _ _ _ h => h) (Or.inr ⟨by rfl, rfl⟩) (by assumption) ?_
                  simp only [Act.put, List.getElem_toArray, List.getElem_cons_zero, List.getElem_cons_succ, List.setIfInBounds_toArray, List.set_cons_zero, List.set_cons_succ]
                  refine wpAnyH_take (i := 25) (v := undef) rfl (by kernel_rfl) (by kernel_rfl) (by kernel_rfl) (fun _ _ _ h => h) (Or.inr ⟨by rfl, rfl⟩) (by assumption) ?_
                  simp only [Act.put, List.getElem_toArray, List.getElem_cons_zero, List.getElem_cons_succ, List.setIfInBounds_toArray, List.set_cons_zero, List.set_cons_succ]
                  refine wpAnyH_take (i := 26) (v := undef) rfl (by kernel_rfl) (by kernel_rfl) (by kernel_rfl) (fun _ _ _ h => h) (Or.inr ⟨by rfl, rfl⟩) (by assumption) ?_
                  simp only [Act.put, List.getElem_toArray, List.getElem_cons_zero, List.getElem_cons_succ, List.setIfInBounds_toArray, List.set_cons_zero, List.set_cons_succ]
                  refine wpAnyH_take (i := 27) (v := ?v66) rfl (by kernel_rfl) (by kernel_rfl) (by kernel_rfl) (fun _ _ _ h => h) (Or.inl ⟨by rfl, ?hy66⟩) (by assumption) ?rest66
                  case hy66 => (intro w hSw; (try dsimp only at hSw); go_simp; try with_reducible rfl)
                  simp only [Act.put, List.getElem_toArray, List.getElem_cons_zero, List.getElem_cons_succ, List.setIfInBounds_toArray, List.set_cons_zero, List.set_cons_succ]
                  refine wpAnyH_take (i := 28) (v := ?v67) rfl (by kernel_rfl) (by kernel_rfl) (by kernel_rfl) (fun _ _ _ h => h) (Or.inl ⟨by rfl, ?hy67⟩) (by assumption) ?rest67
                  case hy67 => (intro w hSw; (try dsimp only at hSw); go_simp; try with_reducible rfl)
                  simp only [Act.put, List.getElem_toArray, List.getElem_cons_zero, List.getElem_cons_succ, List.setIfInBounds_toArray, List.set_cons_zero, List.set_cons_succ]
                  refine wpAnyH_take (i := 29) (v := undef) rfl (by kernel_rfl) (by kernel_rfl) (by kernel_rfl) (fun _ _ _ h => h) (Or.inr ⟨by rfl, rfl⟩) (by assumption) ?_
                  simp only [Act.put, List.getElem_toArray, List.getElem_cons_zero, List.getElem_cons_succ, List.setIfInBounds_toArray, List.set_cons_zero, List.set_cons_succ]
                  refine wpAnyH_take (i := 30) (v := undef) rfl (by kernel_rfl) (by kernel_rfl) (by kernel_rfl) (fun _ _ _ h => h) (Or.inr ⟨by rfl, rfl⟩) (by assumption) ?_
                  simp only [Act.put, List.getElem_toArray, List.getElem_cons_zero, List.getElem_cons_succ, List.setIfInBounds_toArray, List.set_cons_zero, List.set_cons_succ]
                  refine wpAnyH_take (i := 31) (v := undef) rfl (by kernel_rfl) (by kernel_rfl) (by kernel_rfl) (fun _ _ _ h => h) (Or.inr ⟨by rfl, rfl⟩) (by assumption) ?_
                  simp only [Act.put, List.getElem_toArray, List.getElem_cons_zero, List.getElem_cons_succ, List.setIfInBounds_toArray, List.set_cons_zero, List.set_cons_succ]
                  refine wpAnyH_take (i := 32) (v := undef) rfl (by kernel_rfl) (by kernel_rfl) (by kernel_rfl) (fun _ _ _ h => h) (Or.inr ⟨by rfl, rfl⟩) (by assumption) ?_
                  simp only [Act.put, List.getElem_toArray, List.getElem_cons_zero, List.getElem_cons_succ, List.setIfInBounds_toArray, List.set_cons_zero, List.set_cons_succ]
                  refine wpAnyH_take (i := 33) (v := undef) rfl (by kernel_rfl) (by kernel_rfl) (by kernel_rfl) (fun _ _ _ h => h) (Or.inr ⟨by rfl, rfl⟩) (by assumption) ?_
                  simp only [Act.put, List.getElem_toArray, List.getElem_cons_zero, List.getElem_cons_succ, List.setIfInBounds_toArray, List.set_cons_zero, List.set_cons_succ]
                  refine wpAnyH_take (i := 34) (v := undef) rfl (by kernel_rfl) (by kernel_rfl) (by kernel_rfl) (fun _ _ _ h => h) (Or.inr ⟨by rfl, rfl⟩) (by assumption) ?_
                  simp only [Act.put, List.getElem_toArray, List.getElem_cons_zero, List.getElem_cons_succ, List.setIfInBounds_toArray, List.set_cons_zero, List.set_cons_succ]
                  refine wpAnyH_take (i := 35) (v := undef) rfl (by kernel_rfl) (by kernel_rfl) (by kernel_rfl) (fun _ _ _ h => h) (Or.inr ⟨by rfl, rfl⟩) (by assumption) ?_
                  simp only [Act.put, List.getElem_toArray, List.getElem_cons_zero, List.getElem_cons_succ, List.setIfInBounds_toArray, List.set_cons_zero, List.set_cons_succ]
                  refine wpAnyH_take (i := 36) (v := undef) rfl (by kernel_rfl) (by kernel_rfl) (by kernel_rfl) (fun _ _ _ h => h) (Or.inr ⟨by rfl, rfl⟩) (by assumption) ?_
                  simp only [Act.put, List.getElem_toArray, List.getElem_cons_zero, List.getElem_cons_succ, List.setIfInBounds_toArray, List.set_cons_zero, List.set_cons_succ]
                  refine wpAnyH_take (i := 37) (v := undef) rfl (by kernel_rfl) (by kernel_rfl) (by kernel_rfl) (fun _ _ _ h => h) (Or.inr ⟨by rfl, rfl⟩) (by assumption) ?_
                  simp only [Act.put, List.getElem_toArray, List.getElem_cons_zero, List.getElem_cons_succ, List.setIfInBounds_toArray, List.set_cons_zero, List.set_cons_succ]
                  refine wpAnyH_take (i := 38) (v := undef) rfl (by kernel_rfl) (by kernel_rfl) (by kernel_rfl) (fun _ _ _ h => h) (Or.inr ⟨by rfl, rfl⟩) (by assumption) ?_
                  simp only [Act.put, List.getElem_toArray, List.getElem_cons_zero, List.getElem_cons_succ, List.setIfInBounds_toArray, List.set_cons_zero, List.set_cons_succ]
                  refine wpAnyH_take (i := 39) (v := undef) rfl (by kernel_rfl) (by kernel_rfl) (by kernel_rfl) (fun _ _ _ h => h) (Or.inr ⟨by rfl, rfl⟩) (by assumption) ?_
                  simp only [Act.put, List.getElem_toArray, List.getElem_cons_zero, List.getElem_cons_succ, List.setIfInBounds_toArray, List.set_cons_zero, List.set_cons_succ]
                  refine wpAnyH_take (i := 40) (v := undef) rfl (by kernel_rfl) (by kernel_rfl) (by kernel_rfl) (fun _ _ _ h => h) (Or.inr ⟨by rfl, rfl⟩) (by assumption) ?_
                  simp only [Act.put, List.getElem_toArray, List.getElem_cons_zero, List.getElem_cons_succ, List.setIfInBounds_toArray, List.set_cons_zero, List.set_cons_succ]
                  refine wpAnyH_take (i := 41) (v := undef) rfl (by kernel_rfl) (by kernel_rfl) (by kernel_rfl) (fun _ _ _ h => h) (Or.inr ⟨by rfl, rfl⟩) (by assumption) ?_
                  simp only [Act.put, List.getElem_toArray, List.getElem_cons_zero, List.getElem_cons_succ, List.setIfInBounds_toArray, List.set_cons_zero, List.set_cons_succ]
                  refine wpAnyH_take (i := 42) (v := undef) rfl (by kernel_rfl) (by kernel_rfl) (by kernel_rfl) (fun _ _ _ h => h) (Or.inr ⟨by rfl, rfl⟩) (by assumption) ?_
                  simp only [Act.put, List.getElem_toArray, List.getElem_cons_zero, List.getElem_cons_succ, List.setIfInBounds_toArray, List.set_cons_zero, List.set_cons_succ]
                  refine wpAnyH_take (i := 43) (v := ?v68) rfl (by kernel_rfl) (by kernel_rfl) (by kernel_rfl) (fun _ _ _ h => h) (Or.inl ⟨by rfl, ?hy68⟩) (by assumption) ?rest68
                  case hy68 => (intro w hSw; (try dsimp only at hSw); go_simp; try with_reducible rfl)
                  simp only [Act.put, List.getElem_toArray, List.getElem_cons_zero, List.getElem_cons_succ, List.setIfInBounds_toArray, List.set_cons_zero, List.set_cons_succ]
                  refine wpAnyH_done (by kernel_rfl) ?_ _
                  have hb9 := hHeld.1
                  repeat' ((fail_if_success at_builtin); (first | go_skip | go_guarded | go_step))
                  go_ret
                  exact ⟨ret_i hbad.out.symm, hb8.trans (hb9.mono hb8.size)⟩
                | true =>
                  cases hv with
                  | true =>
                    have hbad : errV z l = 1 := errV_bad (validS_bad hx.out (by rw [hga.out, hra]; simp))
                    replace hbad := Lib.hid hbad
                    have hS : ∀ w', Below w8.heap.size w8 w' → Below w8.heap.size w8 w' ∧ w'.cell? ⟨wr.heap.size, 0, none⟩ = some (.string x.sc.prj) ∧ w'.cell? ⟨wr.heap.size, 1, none⟩ = some (.int .i64 x.sc.trust) ∧ w'.cell? ⟨wr.heap.size, 2, none⟩ = some (.string x.sc.ref) ∧ w'.cell? ⟨wr.heap.size, 3, none⟩ = some (.string x.key) ∧ w'.cell? ⟨wr.heap.size, 4, none⟩ = some (.int .u64 x.dig) ∧ w'.cell? ⟨wr.heap.size, 5, none⟩ = some (.int .i64 x.size) ∧ w'.cell? ⟨wr.heap.size, 6, none⟩ = some (.int .i64 x.created) ∧ w'.cell? ⟨wr.heap.size, 7, none⟩ = some (.int .i64 x.used) ∧ w'.cell? ⟨wr.heap.size + 1, 0, none⟩ = some (.string x.sc.prj) ∧ w'.cell? ⟨wr.heap.size + 1, 1, none⟩ = some (.int .i64 x.sc.trust) ∧ w'.cell? ⟨wr.heap.size + 1, 2, none⟩ = some (.string x.sc.ref) ∧ w'.cell? ⟨wr.heap.size + 1, 3, none⟩ = some (.string x.key) ∧ w'.cell? ⟨w.heap.size, 1, none⟩ = some (.slice (some ⟨b, o, none⟩) n c) ∧ (Instr.lookup 68 (.map (some (w.heap.size + 1))) (.agg #[.string x.sc.prj, .int .i64 x.sc.trust, .string x.sc.ref, .string x.key]) false).run Tryd.prog w' = .ok (.bool true) w' := fun w' hb => ⟨hb, (hb.cell (p := ⟨wr.heap.size, 0, none⟩) le).trans e0, (hb.cell (p := ⟨wr.heap.size, 1, none⟩) le).trans e1, (hb.cell (p := ⟨wr.heap.size, 2, none⟩) le).trans e2, (hb.cell (p := ⟨wr.heap.size, 3, none⟩) le).trans e3, (hb.cell (p := ⟨wr.heap.size, 4, none⟩) le).trans e4, (hb.cell (p := ⟨wr.heap.size, 5, none⟩) le).trans e5, (hb.cell (p := ⟨wr.heap.size, 6, none⟩) le).trans e6, (hb.cell (p := ⟨wr.heap.size, 7, none⟩) le).trans e7, (hb.cell (p := ⟨wr.heap.size + 1, 0, none⟩) ln).trans n0, (hb.cell (p := ⟨wr.heap.size + 1, 1, none⟩) ln).trans n1, (hb.cell (p := ⟨wr.heap.size + 1, 2, none⟩) ln).trans n2, (hb.cell (p := ⟨wr.heap.size + 1, 3, none⟩) ln).trans n3, (hb.cell (p := ⟨w.heap.size, 1, none⟩) l1).trans q1, hlook w' hb⟩
                    have keepS : ∀ w' w'', (Below w8.heap.size w8 w' ∧ w'.cell? ⟨wr.heap.size, 0, none⟩ = some (.string x.sc.prj) ∧ w'.cell? ⟨wr.heap.size, 1, none⟩ = some (.int .i64 x.sc.trust) ∧ w'.cell? ⟨wr.heap.size, 2, none⟩ = some (.string x.sc.ref) ∧ w'.cell? ⟨wr.heap.size, 3, none⟩ = some (.string x.key) ∧ w'.cell? ⟨wr.heap.size, 4, none⟩ = some (.int .u64 x.dig) ∧ w'.cell? ⟨wr.heap.size, 5, none⟩ = some (.int .i64 x.size) ∧ w'.cell? ⟨wr.heap.size, 6, none⟩ = some (.int .i64 x.created) ∧ w'.cell? ⟨wr.heap.size, 7, none⟩ = some (.int .i64 x.used) ∧ w'.cell? ⟨wr.heap.size + 1, 0, none⟩ = some (.string x.sc.prj) ∧ w'.cell? ⟨wr.heap.size + 1, 1, none⟩ = some (.int .i64 x.sc.trust) ∧ w'.cell? ⟨wr.heap.size + 1, 2, none⟩ = some (.string x.sc.ref) ∧ w'.cell? ⟨wr.heap.size + 1, 3, none⟩ = some (.string x.key) ∧ w'.cell? ⟨w.heap.size, 1, none⟩ = some (.slice (some ⟨b, o, none⟩) n c) ∧ (Instr.lookup 68 (.map (some (w.heap.size + 1))) (.agg #[.string x.sc.prj, .int .i64 x.sc.trust, .string x.sc.ref, .string x.key]) false).run Tryd.prog w' = .ok (.bool true) w') → Below w'.heap.size w' w'' → (Below w8.heap.size w8 w'' ∧ w''.cell? ⟨wr.heap.size, 0, none⟩ = some (.string x.sc.prj) ∧ w''.cell? ⟨wr.heap.size, 1, none⟩ = some (.int .i64 x.sc.trust) ∧ w''.cell? ⟨wr.heap.size, 2, none⟩ = some (.string x.sc.ref) ∧ w''.cell? ⟨wr.heap.size, 3, none⟩ = some (.string x.key) ∧ w''.cell? ⟨wr.heap.size, 4, none⟩ = some (.int .u64 x.dig) ∧ w''.cell? ⟨wr.heap.size, 5, none⟩ = some (.int .i64 x.size) ∧ w''.cell? ⟨wr.heap.size, 6, none⟩ = some (.int .i64 x.created) ∧ w''.cell? ⟨wr.heap.size, 7, none⟩ = some (.int .i64 x.used) ∧ w''.cell? ⟨wr.heap.size + 1, 0, none⟩ = some (.string x.sc.prj) ∧ w''.cell? ⟨wr.heap.size + 1, 1, none⟩ = some (.int .i64 x.sc.trust) ∧ w''.cell? ⟨wr.heap.size + 1, 2, none⟩ = some (.string x.sc.ref) ∧ w''.cell? ⟨wr.heap.size + 1, 3, none⟩ = some (.string x.key) ∧ w''.cell? ⟨w.heap.size, 1, none⟩ = some (.slice (some ⟨b, o, none⟩) n c) ∧ (Instr.lookup 68 (.map (some (w.heap.size + 1))) (.agg #[.string x.sc.prj, .int .i64 x.sc.trust, .string x.sc.ref, .string x.key]) false).run Tryd.prog w'' = .ok (.bool true) w'') := fun w' w'' h hc => hS w'' (h.1.trans (hc.mono h.1.size))
                    have CN2 := fun w' (h : Below w8.heap.size w8 w' ∧ w'.cell? ⟨wr.heap.size, 0, none⟩ = some (.string x.sc.prj) ∧ w'.cell? ⟨wr.heap.size, 1, none⟩ = some (.int .i64 x.sc.trust) ∧ w'.cell? ⟨wr.heap.size, 2, none⟩ = some (.string x.sc.ref) ∧ w'.cell? ⟨wr.heap.size, 3, none⟩ = some (.string x.key) ∧ w'.cell? ⟨wr.heap.size, 4, none⟩ = some (.int .u64 x.dig) ∧ w'.cell? ⟨wr.heap.size, 5, none⟩ = some (.int .i64 x.size) ∧ w'.cell? ⟨wr.heap.size, 6, none⟩ = some (.int .i64 x.created) ∧ w'.cell? ⟨wr.heap.size, 7, none⟩ = some (.int .i64 x.used) ∧ w'.cell? ⟨wr.heap.size + 1, 0, none⟩ = some (.string x.sc.prj) ∧ w'.cell? ⟨wr.heap.size + 1, 1, none⟩ = some (.int .i64 x.sc.trust) ∧ w'.cell? ⟨wr.heap.size + 1, 2, none⟩ = some (.string x.sc.ref) ∧ w'.cell? ⟨wr.heap.size + 1, 3, none⟩ = some (.string x.key) ∧ w'.cell? ⟨w.heap.size, 1, none⟩ = some (.slice (some ⟨b, o, none⟩) n c) ∧ (Instr.lookup 68 (.map (some (w.heap.size + 1))) (.agg #[.string x.sc.prj, .int .i64 x.sc.trust, .string x.sc.ref, .string x.key]) false).run Tryd.prog w' = .ok (.bool true) w') => CN w' h.1
                    have hS1 : Below w8.heap.size w8 w8.drew ∧ w8.drew.cell? ⟨wr.heap.size, 0, none⟩ = some (.string x.sc.prj) ∧ w8.drew.cell? ⟨wr.heap.size, 1, none⟩ = some (.int .i64 x.sc.trust) ∧ w8.drew.cell? ⟨wr.heap.size, 2, none⟩ = some (.string x.sc.ref) ∧ w8.drew.cell? ⟨wr.heap.size, 3, none⟩ = some (.string x.key) ∧ w8.drew.cell? ⟨wr.heap.size, 4, none⟩ = some (.int .u64 x.dig) ∧ w8.drew.cell? ⟨wr.heap.size, 5, none⟩ = some (.int .i64 x.size) ∧ w8.drew.cell? ⟨wr.heap.size, 6, none⟩ = some (.int .i64 x.created) ∧ w8.drew.cell? ⟨wr.heap.size, 7, none⟩ = some (.int .i64 x.used) ∧ w8.drew.cell? ⟨wr.heap.size + 1, 0, none⟩ = some (.string x.sc.prj) ∧ w8.drew.cell? ⟨wr.heap.size + 1, 1, none⟩ = some (.int .i64 x.sc.trust) ∧ w8.drew.cell? ⟨wr.heap.size + 1, 2, none⟩ = some (.string x.sc.ref) ∧ w8.drew.cell? ⟨wr.heap.size + 1, 3, none⟩ = some (.string x.key) ∧ w8.drew.cell? ⟨w.heap.size, 1, none⟩ = some (.slice (some ⟨b, o, none⟩) n c) ∧ (Instr.lookup 68 (.map (some (w.heap.size + 1))) (.agg #[.string x.sc.prj, .int .i64 x.sc.trust, .string x.sc.ref, .string x.key]) false).run Tryd.prog w8.drew = .ok (.bool true) w8.drew := hS w8.drew (Below.refl _ _).drew
                    have hS0 : Below w8.heap.size w8 w8 ∧ w8.cell? ⟨wr.heap.size, 0, none⟩ = some (.string x.sc.prj) ∧ w8.cell? ⟨wr.heap.size, 1, none⟩ = some (.int .i64 x.sc.trust) ∧ w8.cell? ⟨wr.heap.size, 2, none⟩ = some (.string x.sc.ref) ∧ w8.cell? ⟨wr.heap.size, 3, none⟩ = some (.string x.key) ∧ w8.cell? ⟨wr.heap.size, 4, none⟩ = some (.int .u64 x.dig) ∧ w8.cell? ⟨wr.heap.size, 5, none⟩ = some (.int .i64 x.size) ∧ w8.cell? ⟨wr.heap.size, 6, none⟩ = some (.int .i64 x.created) ∧ w8.cell? ⟨wr.heap.size, 7, none⟩ = some (.int .i64 x.used) ∧ w8.cell? ⟨wr.heap.size + 1, 0, none⟩ = some (.string x.sc.prj) ∧ w8.cell? ⟨wr.heap.size + 1, 1, none⟩ = some (.int .i64 x.sc.trust) ∧ w8.cell? ⟨wr.heap.size + 1, 2, none⟩ = some (.string x.sc.ref) ∧ w8.cell? ⟨wr.heap.size + 1, 3, none⟩ = some (.string x.key) ∧ w8.cell? ⟨w.heap.size, 1, none⟩ = some (.slice (some ⟨b, o, none⟩) n c) ∧ (Instr.lookup 68 (.map (some (w.heap.size + 1))) (.agg #[.string x.sc.prj, .int .i64 x.sc.trust, .string x.sc.ref, .string x.key]) false).run Tryd.prog w8 = .ok (.bool true) w8 := hS w8 (Below.refl _ _)
                    replace keepS := Lib.hid keepS
                    replace CN2 := Lib.hid CN2
                    clear hS
                    refine wp_region_held_drew (S := fun w' => Below w8.heap.size w8 w' ∧ w'.cell? ⟨wr.heap.size, 0, none⟩ = some (.string x.sc.prj) ∧ w'.cell? ⟨wr.heap.size, 1, none⟩ = some (.int .i64 x.sc.trust) ∧ w'.cell? ⟨wr.heap.size, 2, none⟩ = some (.string x.sc.ref) ∧ w'.cell? ⟨wr.heap.size, 3, none⟩ = some (.string x.key) ∧ w'.cell? ⟨wr.heap.size, 4, none⟩ = some (.int .u64 x.dig) ∧ w'.cell? ⟨wr.heap.size, 5, none⟩ = some (.int .i64 x.size) ∧ w'.cell? ⟨wr.heap.size, 6, none⟩ = some (.int .i64 x.created) ∧ w'.cell? ⟨wr.heap.size, 7, none⟩ = some (.int .i64 x.used) ∧ w'.cell? ⟨wr.heap.size + 1, 0, none⟩ = some (.string x.sc.prj) ∧ w'.cell? ⟨wr.heap.size + 1, 1, none⟩ = some (.int .i64 x.sc.trust) ∧ w'.cell? ⟨wr.heap.size + 1, 2, none⟩ = some (.string x.sc.ref) ∧ w'.cell? ⟨wr.heap.size + 1, 3, none⟩ = some (.string x.key) ∧ w'.cell? ⟨w.heap.size, 1, none⟩ = some (.slice (some ⟨b, o, none⟩) n c) ∧ (Instr.lookup 68 (.map (some (w.heap.size + 1))) (.agg #[.string x.sc.prj, .int .i64 x.sc.trust, .string x.sc.ref, .string x.key]) false).run Tryd.prog w' = .ok (.bool true) w') (by kernel_rfl) ?_ (fun hHeld => ?_)
                    · (try dsimp only)
                      exact hS1
                    refine wpAnyH_take (i := 0) (v := ?v69) rfl (by kernel_rfl) (by kernel_rfl) (by kernel_rfl) (fun _ _ _ h => h) (Or.inl ⟨by rfl, ?hy69⟩) (by assumption) ?rest69
                    case hy69 => (intro w hSw; (try dsimp only at hSw); go_simp; try with_reducible rfl)
                    simp only [Act.put, List.getElem_toArray, List.getElem_cons_zero, List.setIfInBounds_toArray, List.set_cons_zero, List.set_cons_succ]
                    refine wpAnyH_ready (rs := [1]) (by kernel_rfl) (by simp) ?_
                    refine AllReadyH.cons rfl (fun K hK => ?_) AllReadyH.nil
                    go_simp
                    go_at_call 36
                    refine (CN2.out _ (by assumption)).mono ?_
                    rintro e w7 ⟨rfl, hbq⟩
                    dsimp only
                    simp only [hN]
                    refine hK.out _ _ ?_ (fun hHeld => ?_)
                    · (try dsimp only)
                      exact keepS.out _ _ (by assumption) hbq
                    clear hK K
                    try simp only [Act.put, List.getElem_toArray, List.getElem_cons_zero, List.getElem_cons_succ, List.setIfInBounds_toArray, List.set_cons_zero, List.set_cons_succ]
                    refine wpAnyH_take (i := 2) (v := ?v70) rfl (by kernel_rfl) (by kernel_rfl) (by kernel_rfl) (fun _ _ _ h => h) (Or.inl ⟨by rfl, ?hy70⟩) (by assumption) ?rest70
                    case hy70 => (intro w hSw; (try dsimp only at hSw); go_simp; try with_reducible rfl)
                    simp only [Act.put, List.getElem_toArray, List.getElem_cons_zero, List.getElem_cons_succ, List.setIfInBounds_toArray, List.set_cons_zero, List.set_cons_succ]
                    refine wpAnyH_take (i := 3) (v := ?v71) rfl (by kernel_rfl) (by kernel_rfl) (by kernel_rfl) (fun _ _ _ h => h) (Or.inl ⟨by rfl, ?hy71⟩) (by assumption) ?rest71
                    case hy71 => (intro w hSw; (try dsimp only at hSw); go_simp; try with_reducible rfl)
                    simp only [Act.put, List.getElem_toArray, List.getElem_cons_zero, List.getElem_cons_succ, List.setIfInBounds_toArray, List.set_cons_zero, List.set_cons_succ]
                    refine wpAnyH_take (i := 4) (v := ?v72) rfl (by kernel_rfl) (by kernel_rfl) (by kernel_rfl) (fun _ _ _ h => h) (Or.inl ⟨by rfl, ?hy72⟩) (by assumption) ?rest72
                    case hy72 => (intro w hSw; (try dsimp only at hSw); go_simp; try with_reducible rfl)
                    simp only [Act.put, List.getElem_toArray, List.getElem_cons_zero, List.getElem_cons_succ, List.setIfInBounds_toArray, List.set_cons_zero, List.set_cons_succ]
                    refine wpAnyH_take (i := 5) (v := ?v73) rfl (by kernel_rfl) (by kernel_rfl) (by kernel_rfl) (fun _ _ _ h => h) (Or.inl ⟨by rfl, ?hy73⟩) (by assumption) ?rest73
                    case hy73 => (intro w hSw; (try dsimp only at hSw); go_simp; try with_reducible rfl)
                    simp only [Act.put, List.getElem_toArray, List.getElem_cons_zero, List.getElem_cons_succ, List.setIfInBounds_toArray, List.set_cons_zero, List.set_cons_succ]
                    refine wpAnyH_ready (rs := [6]) (by kernel_rfl) (by simp) ?_
                    refine AllReadyH.cons rfl (fun K hK => ?_) AllReadyH.nil
                    go_simp
                    go_at_call 35
                    refine (CW.out _ _ _ _).mono ?_
                    rintro e w7 ⟨rfl, hbq⟩
                    dsimp only
                    simp only [hZ]
                    refine hK.out _ _ ?_ (fun hHeld => ?_)
                    · (try dsimp only)
                      exact keepS.out _ _ (by assumption) hbq
                    clear hK K
                    try simp only [Act.put, List.getElem_toArray, List.getElem_cons_zero, List.getElem_cons_succ, List.setIfInBounds_toArray, List.set_cons_zero, List.set_cons_succ]
                    refine wpAnyH_take (i := 7) (v := ?v74) rfl (by kernel_rfl) (by kernel_rfl) (by kernel_rfl) (fun _ _ _ h => h) (Or.inl ⟨by rfl, ?hy74⟩) (by assumption) ?rest74
                    case hy74 => (intro w hSw; (try dsimp only at hSw); go_simp; try with_reducible rfl)
                    simp only [Act.put, List.getElem_toArray, List.getElem_cons_zero, List.getElem_cons_succ, List.setIfInBounds_toArray, List.set_cons_zero, List.set_cons_succ]
                    refine wpAnyH_take (i := 8) (v := ?v75) rfl (by kernel_rfl) (by kernel_rfl) (by kernel_rfl) (fun _ _ _ h => h) (Or.inl ⟨by rfl, ?hy75⟩) (by assumption) ?rest75
                    case hy75 => (intro w hSw; (try dsimp only at hSw); go_simp; try with_reducible rfl)
                    simp only [Act.put, List.getElem_toArray, List.getElem_cons_zero, List.getElem_cons_succ, List.setIfInBounds_toArray, List.set_cons_zero, List.set_cons_succ]
                    refine wpAnyH_take (i := 9) (v := ?v76) rfl (by kernel_rfl) (by kernel_rfl) (by kernel_rfl) (fun _ _ _ h => h) (Or.inl ⟨by rfl, ?hy76⟩) (by assumption) ?rest76
                    case hy76 => (intro w hSw; (try dsimp only at hSw); go_simp; try with_reducible rfl)
                    simp only [Act.put, List.getElem_toArray, List.getElem_cons_zero, List.getElem_cons_succ, List.setIfInBounds_toArray, List.set_cons_zero, List.set_cons_succ]
                    refine wpAnyH_take (i := 10) (v := ?v77) rfl (by kernel_rfl) (by kernel_rfl) (by kernel_rfl) (fun _ _ _ h => h) (Or.inl ⟨by rfl, ?hy77⟩) (by assumption) ?rest77
                    case hy77 => (intro w hSw; (try dsimp only at hSw); go_simp; try with_reducible rfl)
                    simp only [Act.put, List.getElem_toArray, List.getElem_cons_zero, List.getElem_cons_succ, List.setIfInBounds_toArray, List.set_cons_zero, List.set_cons_succ]
                    refine wpAnyH_take (i := 11) (v := ?v78) rfl (by kernel_rfl) (by kernel_rfl) (by kernel_rfl) (fun _ _ _ h => h) (Or.inl ⟨by rfl, ?hy78⟩) (by assumption) ?rest78
                    case hy78 => (intro w hSw; (try dsimp only at hSw); go_simp; try with_reducible rfl)
                    simp only [Act.put, List.getElem_toArray, List.getElem_cons_zero, List.getElem_cons_succ, List.setIfInBounds_toArray, List.set_cons_zero, List.set_cons_succ]
                    refine wpAnyH_ready (rs := [12]) (by kernel_rfl) (by simp) ?_
                    refine AllReadyH.cons rfl (fun K hK => ?_) AllReadyH.nil
                    go_simp
                    go_at_call 35
                    refine (CW.out _ _ _ _).mono ?_
                    rintro e w7 ⟨rfl, hbq⟩
                    dsimp only
                    simp only [hC]
                    refine hK.out _ _ ?_ (fun hHeld => ?_)
                    · (try dsimp only)
                      exact keepS.out _ _ (by assumption) hbq
                    clear hK K
                    try simp only [Act.put, List.getElem_toArray, List.getElem_cons_zero, List.getElem_cons_succ, List.setIfInBounds_toArray, List.set_cons_zero, List.set_cons_succ]
                    refine wpAnyH_take (i := 13) (v := ?v79) rfl (by kernel_rfl) (by kernel_rfl) (by kernel_rfl) (fun _ _ _ h => h) (Or.inl ⟨by rfl, ?hy79⟩) (by assumption) ?rest79
                    case hy79 => (intro w hSw; (try dsimp only at hSw); go_simp; try with_reducible rfl)
                    simp only [Act.put, List.getElem_toArray, List.getElem_cons_zero, List.getElem_cons_succ, List.setIfInBounds_toArray, List.set_cons_zero, List.set_cons_succ]
                    refine wpAnyH_take (i := 14) (v := ?v80) rfl (by kernel_rfl) (by kernel_rfl) (by kernel_rfl) (fun _ _ _ h => h) (Or.inl ⟨by rfl, ?hy80⟩) (by assumption) ?rest80
                    case hy80 => (intro w hSw; (try dsimp only at hSw); go_simp; try with_reducible rfl)
                    simp only [Act.put, List.getElem_toArray, List.getElem_cons_zero, List.getElem_cons_succ, List.setIfInBounds_toArray, List.set_cons_zero, List.set_cons_succ]
                    refine wpAnyH_take (i := 15) (v := ?v81) rfl (by kernel_rfl) (by kernel_rfl) (by kernel_rfl) (fun _ _ _ h => h) (Or.inl ⟨by rfl, ?hy81⟩) (by assumption) ?rest81
                    case hy81 => (intro w hSw; (try dsimp only at hSw); go_simp; try with_reducible rfl)
                    simp only [Act.put, List.getElem_toArray, List.getElem_cons_zero, List.getElem_cons_succ, List.setIfInBounds_toArray, List.set_cons_zero, List.set_cons_succ]
                    refine wpAnyH_take (i := 16) (v := ?v82) rfl (by kernel_rfl) (by kernel_rfl) (by kernel_rfl) (fun _ _ _ h => h) (Or.inl ⟨by rfl, ?hy82⟩) (by assumption) ?rest82
                    case hy82 => (intro w hSw; (try dsimp only at hSw); go_simp; try with_reducible rfl)
                    simp only [Act.put, List.getElem_toArray, List.getElem_cons_zero, List.getElem_cons_succ, List.setIfInBounds_toArray, List.set_cons_zero, List.set_cons_succ]
                    refine wpAnyH_take (i := 17) (v := ?v83) rfl (by kernel_rfl) (by kernel_rfl) (by kernel_rfl) (fun _ _ _ h => h) (Or.inl ⟨by rfl, ?hy83⟩) (by assumption) ?rest83
                    case hy83 => (intro w hSw; (try dsimp only at hSw); go_simp; try with_reducible rfl)
                    simp only [Act.put, List.getElem_toArray, List.getElem_cons_zero, List.getElem_cons_succ, List.setIfInBounds_toArray, List.set_cons_zero, List.set_cons_succ]
                    refine wpAnyH_take (i := 18) (v := ?v84) rfl (by kernel_rfl) (by kernel_rfl) (by kernel_rfl) (fun _ _ _ h => h) (Or.inl ⟨by rfl, ?hy84⟩) (by assumption) ?rest84
                    case hy84 => (intro w hSw; (try dsimp only at hSw); go_simp; try with_reducible rfl)
                    simp only [Act.put, List.getElem_toArray, List.getElem_cons_zero, List.getElem_cons_succ, List.setIfInBounds_toArray, List.set_cons_zero, List.set_cons_succ]
                    refine wpAnyH_take (i := 19) (v := ?v85) rfl (by kernel_rfl) (by kernel_rfl) (by kernel_rfl) (fun _ _ _ h => h) (Or.inl ⟨by rfl, ?hy85⟩) (by assumption) ?rest85
                    case hy85 => (intro w hSw; (try dsimp only at hSw); go_simp; try with_reducible rfl)
                    simp only [Act.put, List.getElem_toArray, List.getElem_cons_zero, List.getElem_cons_succ, List.setIfInBounds_toArray, List.set_cons_zero, List.set_cons_succ]
                    refine wpAnyH_ready (rs := [20]) (by kernel_rfl) (by simp) ?_
                    refine AllReadyH.cons rfl (fun K hK => ?_) AllReadyH.nil
                    go_simp
                    go_at_call 35
                    refine (CW.out _ _ _ _).mono ?_
                    rintro e w7 ⟨rfl, hbq⟩
                    dsimp only
                    simp only [hU]
                    refine hK.out _ _ ?_ (fun hHeld => ?_)
                    · (try dsimp only)
                      exact keepS.out _ _ (by assumption) hbq
                    clear hK K
                    try simp only [Act.put, List.getElem_toArray, List.getElem_cons_zero, List.getElem_cons_succ, List.setIfInBounds_toArray, List.set_cons_zero, List.set_cons_succ]
                    refine wpAnyH_take (i := 21) (v := ?v86) rfl (by kernel_rfl) (by kernel_rfl) (by kernel_rfl) (fun _ _ _ h => h) (Or.inl ⟨by rfl, ?hy86⟩) (by assumption) ?rest86
                    case hy86 => (intro w hSw; (try dsimp only at hSw); go_simp; try with_reducible rfl)
                    simp only [Act.put, List.getElem_toArray, List.getElem_cons_zero, List.getElem_cons_succ, List.setIfInBounds_toArray, List.set_cons_zero, List.set_cons_succ]
                    refine wpAnyH_take (i := 22) (v := ?v87) rfl (by kernel_rfl) (by kernel_rfl) (by kernel_rfl) (fun _ _ _ h => h) (Or.inl ⟨by rfl, ?hy87⟩) (by assumption) ?rest87
                    case hy87 => (intro w hSw; (try dsimp only at hSw); go_simp; try with_reducible rfl)
                    simp only [Act.put, List.getElem_toArray, List.getElem_cons_zero, List.getElem_cons_succ, List.setIfInBounds_toArray, List.set_cons_zero, List.set_cons_succ]
                    refine wpAnyH_take (i := 23) (v := ?v88) rfl (by kernel_rfl) (by kernel_rfl) (by kernel_rfl) (fun _ _ _ h => h) (Or.inl ⟨by rfl, ?hy88⟩) (by assumption) ?rest88
                    case hy88 => (intro w hSw; (try dsimp only at hSw); go_simp; try with_reducible rfl)
                    simp only [Act.put, List.getElem_toArray, List.getElem_cons_zero, List.getElem_cons_succ, List.setIfInBounds_toArray, List.set_cons_zero, List.set_cons_succ]
                    refine wpAnyH_take (i := 24) (v := ?v89) rfl (by kernel_rfl) (by kernel_rfl) (by kernel_rfl) (fun _ _ _ h => h) (Or.inl ⟨by rfl, ?hy89⟩) (by assumption) ?rest89
                    case hy89 => (intro w hSw; (try dsimp only at hSw); go_simp; try with_reducible rfl)
                    simp only [Act.put, List.getElem_toArray, List.getElem_cons_zero, List.getElem_cons_succ, List.setIfInBounds_toArray, List.set_cons_zero, List.set_cons_succ]
                    refine wpAnyH_take (i := 25) (v := ?v90) rfl (by kernel_rfl) (by kernel_rfl) (by kernel_rfl) (fun _ _ _ h => h) (Or.inl ⟨by rfl, ?hy90⟩) (by assumption) ?rest90
                    case hy90 => (intro w hSw; (try dsimp only at hSw); go_simp; try with_reducible rfl)
                    simp only [Act.put, List.getElem_toArray, List.getElem_cons_zero, List.getElem_cons_succ, List.setIfInBounds_toArray, List.set_cons_zero, List.set_cons_succ]
                    refine wpAnyH_take (i := 26) (v := ?v91) rfl (by kernel_rfl) (by kernel_rfl) (by kernel_rfl) (fun _ _ _ h => h) (Or.inl ⟨by rfl, ?hy91⟩) (by assumption) ?rest91
                    case hy91 => (intro w hSw; (try dsimp only at hSw); go_simp; try with_reducible rfl)
                    simp only [Act.put, List.getElem_toArray, List.getElem_cons_zero, List.getElem_cons_succ, List.setIfInBounds_toArray, List.set_cons_zero, List.set_cons_succ]
                    refine wpAnyH_take (i := 27) (v := ?v92) rfl (by kernel_rfl) (by kernel_rfl) (by kernel_rfl) (fun _ _ _ h => h) (Or.inl ⟨by rfl, ?hy92⟩) (by assumption) ?rest92
                    case hy92 => (intro w hSw; (try dsimp only at hSw); go_simp; try with_reducible rfl)
                    simp only [Act.put, List.getElem_toArray, List.getElem_cons_zero, List.getElem_cons_succ, List.setIfInBounds_toArray, List.set_cons_zero, List.set_cons_succ]
                    refine wpAnyH_take (i := 28) (v := ?v93) rfl (by kernel_rfl) (by kernel_rfl) (by kernel_rfl) (fun _ _ _ h => h) (Or.inl ⟨by rfl, ?hy93⟩) (by assumption) ?rest93
                    case hy93 => (intro w hSw; (try dsimp only at hSw); go_simp; try with_reducible rfl)
                    simp only [Act.put, List.getElem_toArray, List.getElem_cons_zero, List.getElem_cons_succ, List.setIfInBounds_toArray, List.set_cons_zero, List.set_cons_succ]
                    refine wpAnyH_take (i := 29) (v := undef) rfl (by kernel_rfl) (by kernel_rfl) (by kernel_rfl) (fun _ _ _ h => h) (Or.inr ⟨by rfl, rfl⟩) (by assumption) ?_
                    simp only [Act.put, List.getElem_toArray, List.getElem_cons_zero, List.getElem_cons_succ, List.setIfInBounds_toArray, List.set_cons_zero, List.set_cons_succ]
                    refine wpAnyH_take (i := 30) (v := undef) rfl (by kernel_rfl) (by kernel_rfl) (by kernel_rfl) (fun _ _ _ h => h) (Or.inr ⟨by rfl, rfl⟩) (by assumption) ?_
                    simp only [Act.put, List.getElem_toArray, List.getElem_cons_zero, List.getElem_cons_succ, List.setIfInBounds_toArray, List.set_cons_zero, List.set_cons_succ]
                    refine wpAnyH_take (i := 31) (v := undef) rfl (by kernel_rfl) (by kernel_rfl) (by kernel_rfl) (fun _ _ _ h => h) (Or.inr ⟨by rfl, rfl⟩) (by assumption) ?_
                    simp only [Act.put, List.getElem_toArray, List.getElem_cons_zero, List.getElem_cons_succ, List.setIfInBounds_toArray, List.set_cons_zero, List.set_cons_succ]
                    refine wpAnyH_take (i := 32) (v := undef) rfl (by kernel_rfl) (by kernel_rfl) (by kernel_rfl) (fun _ _ _ h => h) (Or.inr ⟨by rfl, rfl⟩) (by assumption) ?_
                    simp only [Act.put, List.getElem_toArray, List.getElem_cons_zero, List.getElem_cons_succ, List.setIfInBounds_toArray, List.set_cons_zero, List.set_cons_succ]
                    refine wpAnyH_take (i := 33) (v := undef) rfl (by kernel_rfl) (by kernel_rfl) (by kernel_rfl) (fun _ _ _ h => h) (Or.inr ⟨by rfl, rfl⟩) (by assumption) ?_
                    simp only [Act.put, List.getElem_toArray, List.getElem_cons_zero, List.getElem_cons_succ, List.setIfInBounds_toArray, List.set_cons_zero, List.set_cons_succ]
                    refine wpAnyH_take (i := 34) (v := undef) rfl (by kernel_rfl) (by kernel_rfl) (by kernel_rfl) (fun _ _ _ h => h) (Or.inr ⟨by rfl, rfl⟩) (by assumption) ?_
                    simp only [Act.put, List.getElem_toArray, List.getElem_cons_zero, List.getElem_cons_succ, List.setIfInBounds_toArray, List.set_cons_zero, List.set_cons_succ]
                    refine wpAnyH_take (i := 35) (v := undef) rfl (by kernel_rfl) (by kernel_rfl) (by kernel_rfl) (fun _ _ _ h => h) (Or.inr ⟨by rfl, rfl⟩) (by assumption) ?_
                    simp only [Act.put, List.getElem_toArray, List.getElem_cons_zero, List.getElem_cons_succ, List.setIfInBounds_toArray, List.set_cons_zero, List.set_cons_succ]
                    refine wpAnyH_take (i := 36) (v := undef) rfl (by kernel_rfl) (by kernel_rfl) (by kernel_rfl) (fun _ _ _ h => h) (Or.inr ⟨by rfl, rfl⟩) (by assumption) ?_
                    simp only [Act.put, List.getElem_toArray, List.getElem_cons_zero, List.getElem_cons_succ, List.setIfInBounds_toArray, List.set_cons_zero, List.set_cons_succ]
                    refine wpAnyH_take (i := 37) (v := undef) rfl (by kernel_rfl) (by kernel_rfl) (by kernel_rfl) (fun _ _ _ h => h) (Or.inr ⟨by rfl, rfl⟩) (by assumption) ?_
                    simp only [Act.put, List.getElem_toArray, List.getElem_cons_zero, List.getElem_cons_succ, List.setIfInBounds_toArray, List.set_cons_zero, List.set_cons_succ]
                    refine wpAnyH_take (i := 38) (v := undef) rfl (by kernel_rfl) (by kernel_rfl) (by kernel_rfl) (fun _ _ _ h => h) (Or.inr ⟨by rfl, rfl⟩) (by assumption) ?_
                    simp only [Act.put, List.getElem_toArray, List.getElem_cons_zero, List.getElem_cons_succ, List.setIfInBounds_toArray, List.set_cons_zero, List.set_cons_succ]
                    refine wpAnyH_take (i := 39) (v := undef) rfl (by kernel_rfl) (by kernel_rfl) (by kernel_rfl) (fun _ _ _ h => h) (Or.inr ⟨by rfl, rfl⟩) (by assumption) ?_
                    simp only [Act.put, List.getElem_toArray, List.getElem_cons_zero, List.getElem_cons_succ, List.setIfInBounds_toArray, List.set_cons_zero, List.set_cons_succ]
                    refine wpAnyH_take (i := 40) (v := undef) rfl (by kernel_rfl) (by kernel_rfl) (by kernel_rfl) (fun _ _ _ h => h) (Or.inr ⟨by rfl, rfl⟩) (by assumption) ?_
                    simp only [Act.put, List.getElem_toArray, List.getElem_cons_zero, List.getElem_cons_succ, List.setIfInBounds_toArray, List.set_cons_zero, List.set_cons_succ]
                    refine wpAnyH_take (i := 41) (v := undef) rfl (by kernel_rfl) (by kernel_rfl) (by kernel_rfl) (fun _ _ _ h => h) (Or.inr ⟨by rfl, rfl⟩) (by assumption) ?_
                    simp only [Act.put, List.getElem_toArray, List.getElem_cons_zero, List.getElem_cons_succ, List.setIfInBounds_toArray, List.set_cons_zero, List.set_cons_succ]
                    refine wpAnyH_take (i := 42) (v := undef) rfl (by kernel_rfl) (by kernel_rfl) (by kernel_rfl) (fun _ _ _ h => h) (Or.inr ⟨by rfl, rfl⟩) (by assumption) ?_
                    simp only [Act.put, List.getElem_toArray, List.getElem_cons_zero, List.getElem_cons_succ, List.setIfInBounds_toArray, List.set_cons_zero, List.set_cons_succ]
                    refine wpAnyH_take (i := 43) (v := ?v94) rfl (by kernel_rfl) (by kernel_rfl) (by kernel_rfl) (fun _ _ _ h => h) (Or.inl ⟨by rfl, ?hy94⟩) (by assumption) ?rest94
                    case hy94 => (intro w hSw; (try dsimp only at hSw); go_simp; try with_reducible rfl)
                    simp only [Act.put, List.getElem_toArray, List.getElem_cons_zero, List.getElem_cons_succ, List.setIfInBounds_toArray, List.set_cons_zero, List.set_cons_succ]
                    refine wpAnyH_done (by kernel_rfl) ?_ _
                    have hb9 := hHeld.1
                    repeat' ((fail_if_success at_builtin); (first | go_skip | go_guarded | go_step))
                    go_ret
                    exact ⟨ret_i hbad.out.symm, hb8.trans (hb9.mono hb8.size)⟩
                  | false =>
                    have hgb : goodAt l i x = prevOk l i x := by rw [hga.out, hra]; simp [hN, hZ, hC, hU]
                    cases i with
                    | zero =>
                      have hgok := hgood.out.snoc hx.out (by rw [hgb]; rfl)
                      replace hgok := Lib.hid hgok
                      have hS : ∀ w', Below w8.heap.size w8 w' → Below w8.heap.size w8 w' ∧ w'.cell? ⟨wr.heap.size, 0, none⟩ = some (.string x.sc.prj) ∧ w'.cell? ⟨wr.heap.size, 1, none⟩ = some (.int .i64 x.sc.trust) ∧ w'.cell? ⟨wr.heap.size, 2, none⟩ = some (.string x.sc.ref) ∧ w'.cell? ⟨wr.heap.size, 3, none⟩ = some (.string x.key) ∧ w'.cell? ⟨wr.heap.size, 4, none⟩ = some (.int .u64 x.dig) ∧ w'.cell? ⟨wr.heap.size, 5, none⟩ = some (.int .i64 x.size) ∧ w'.cell? ⟨wr.heap.size, 6, none⟩ = some (.int .i64 x.created) ∧ w'.cell? ⟨wr.heap.size, 7, none⟩ = some (.int .i64 x.used) ∧ w'.cell? ⟨wr.heap.size + 1, 0, none⟩ = some (.string x.sc.prj) ∧ w'.cell? ⟨wr.heap.size + 1, 1, none⟩ = some (.int .i64 x.sc.trust) ∧ w'.cell? ⟨wr.heap.size + 1, 2, none⟩ = some (.string x.sc.ref) ∧ w'.cell? ⟨wr.heap.size + 1, 3, none⟩ = some (.string x.key) ∧ w'.cell? ⟨w.heap.size, 1, none⟩ = some (.slice (some ⟨b, o, none⟩) n c) ∧ (Instr.lookup 68 (.map (some (w.heap.size + 1))) (.agg #[.string x.sc.prj, .int .i64 x.sc.trust, .string x.sc.ref, .string x.key]) false).run Tryd.prog w' = .ok (.bool false) w' := fun w' hb => ⟨hb, (hb.cell (p := ⟨wr.heap.size, 0, none⟩) le).trans e0, (hb.cell (p := ⟨wr.heap.size, 1, none⟩) le).trans e1, (hb.cell (p := ⟨wr.heap.size, 2, none⟩) le).trans e2, (hb.cell (p := ⟨wr.heap.size, 3, none⟩) le).trans e3, (hb.cell (p := ⟨wr.heap.size, 4, none⟩) le).trans e4, (hb.cell (p := ⟨wr.heap.size, 5, none⟩) le).trans e5, (hb.cell (p := ⟨wr.heap.size, 6, none⟩) le).trans e6, (hb.cell (p := ⟨wr.heap.size, 7, none⟩) le).trans e7, (hb.cell (p := ⟨wr.heap.size + 1, 0, none⟩) ln).trans n0, (hb.cell (p := ⟨wr.heap.size + 1, 1, none⟩) ln).trans n1, (hb.cell (p := ⟨wr.heap.size + 1, 2, none⟩) ln).trans n2, (hb.cell (p := ⟨wr.heap.size + 1, 3, none⟩) ln).trans n3, (hb.cell (p := ⟨w.heap.size, 1, none⟩) l1).trans q1, hlook w' hb⟩
                      have keepS : ∀ w' w'', (Below w8.heap.size w8 w' ∧ w'.cell? ⟨wr.heap.size, 0, none⟩ = some (.string x.sc.prj) ∧ w'.cell? ⟨wr.heap.size, 1, none⟩ = some (.int .i64 x.sc.trust) ∧ w'.cell? ⟨wr.heap.size, 2, none⟩ = some (.string x.sc.ref) ∧ w'.cell? ⟨wr.heap.size, 3, none⟩ = some (.string x.key) ∧ w'.cell? ⟨wr.heap.size, 4, none⟩ = some (.int .u64 x.dig) ∧ w'.cell? ⟨wr.heap.size, 5, none⟩ = some (.int .i64 x.size) ∧ w'.cell? ⟨wr.heap.size, 6, none⟩ = some (.int .i64 x.created) ∧ w'.cell? ⟨wr.heap.size, 7, none⟩ = some (.int .i64 x.used) ∧ w'.cell? ⟨wr.heap.size + 1, 0, none⟩ = some (.string x.sc.prj) ∧ w'.cell? ⟨wr.heap.size + 1, 1, none⟩ = some (.int .i64 x.sc.trust) ∧ w'.cell? ⟨wr.heap.size + 1, 2, none⟩ = some (.string x.sc.ref) ∧ w'.cell? ⟨wr.heap.size + 1, 3, none⟩ = some (.string x.key) ∧ w'.cell? ⟨w.heap.size, 1, none⟩ = some (.slice (some ⟨b, o, none⟩) n c) ∧ (Instr.lookup 68 (.map (some (w.heap.size + 1))) (.agg #[.string x.sc.prj, .int .i64 x.sc.trust, .string x.sc.ref, .string x.key]) false).run Tryd.prog w' = .ok (.bool false) w') → Below w'.heap.size w' w'' → (Below w8.heap.size w8 w'' ∧ w''.cell? ⟨wr.heap.size, 0, none⟩ = some (.string x.sc.prj) ∧ w''.cell? ⟨wr.heap.size, 1, none⟩ = some (.int .i64 x.sc.trust) ∧ w''.cell? ⟨wr.heap.size, 2, none⟩ = some (.string x.sc.ref) ∧ w''.cell? ⟨wr.heap.size, 3, none⟩ = some (.string x.key) ∧ w''.cell? ⟨wr.heap.size, 4, none⟩ = some (.int .u64 x.dig) ∧ w''.cell? ⟨wr.heap.size, 5, none⟩ = some (.int .i64 x.size) ∧ w''.cell? ⟨wr.heap.size, 6, none⟩ = some (.int .i64 x.created) ∧ w''.cell? ⟨wr.heap.size, 7, none⟩ = some (.int .i64 x.used) ∧ w''.cell? ⟨wr.heap.size + 1, 0, none⟩ = some (.string x.sc.prj) ∧ w''.cell? ⟨wr.heap.size + 1, 1, none⟩ = some (.int .i64 x.sc.trust) ∧ w''.cell? ⟨wr.heap.size + 1, 2, none⟩ = some (.string x.sc.ref) ∧ w''.cell? ⟨wr.heap.size + 1, 3, none⟩ = some (.string x.key) ∧ w''.cell? ⟨w.heap.size, 1, none⟩ = some (.slice (some ⟨b, o, none⟩) n c) ∧ (Instr.lookup 68 (.map (some (w.heap.size + 1))) (.agg #[.string x.sc.prj, .int .i64 x.sc.trust, .string x.sc.ref, .string x.key]) false).run Tryd.prog w'' = .ok (.bool false) w'') := fun w' w'' h hc => hS w'' (h.1.trans (hc.mono h.1.size))
                      have CN2 := fun w' (h : Below w8.heap.size w8 w' ∧ w'.cell? ⟨wr.heap.size, 0, none⟩ = some (.string x.sc.prj) ∧ w'.cell? ⟨wr.heap.size, 1, none⟩ = some (.int .i64 x.sc.trust) ∧ w'.cell? ⟨wr.heap.size, 2, none⟩ = some (.string x.sc.ref) ∧ w'.cell? ⟨wr.heap.size, 3, none⟩ = some (.string x.key) ∧ w'.cell? ⟨wr.heap.size, 4, none⟩ = some (.int .u64 x.dig) ∧ w'.cell? ⟨wr.heap.size, 5, none⟩ = some (.int .i64 x.size) ∧ w'.cell? ⟨wr.heap.size, 6, none⟩ = some (.int .i64 x.created) ∧ w'.cell? ⟨wr.heap.size, 7, none⟩ = some (.int .i64 x.used) ∧ w'.cell? ⟨wr.heap.size + 1, 0, none⟩ = some (.string x.sc.prj) ∧ w'.cell? ⟨wr.heap.size + 1, 1, none⟩ = some (.int .i64 x.sc.trust) ∧ w'.cell? ⟨wr.heap.size + 1, 2, none⟩ = some (.string x.sc.ref) ∧ w'.cell? ⟨wr.heap.size + 1, 3, none⟩ = some (.string x.key) ∧ w'.cell? ⟨w.heap.size, 1, none⟩ = some (.slice (some ⟨b, o, none⟩) n c) ∧ (Instr.lookup 68 (.map (some (w.heap.size + 1))) (.agg #[.string x.sc.prj, .int .i64 x.sc.trust, .string x.sc.ref, .string x.key]) false).run Tryd.prog w' = .ok (.bool false) w') => CN w' h.1
                      have hS1 : Below w8.heap.size w8 w8.drew ∧ w8.drew.cell? ⟨wr.heap.size, 0, none⟩ = some (.string x.sc.prj) ∧ w8.drew.cell? ⟨wr.heap.size, 1, none⟩ = some (.int .i64 x.sc.trust) ∧ w8.drew.cell? ⟨wr.heap.size, 2, none⟩ = some (.string x.sc.ref) ∧ w8.drew.cell? ⟨wr.heap.size, 3, none⟩ = some (.string x.key) ∧ w8.drew.cell? ⟨wr.heap.size, 4, none⟩ = some (.int .u64 x.dig) ∧ w8.drew.cell? ⟨wr.heap.size, 5, none⟩ = some (.int .i64 x.size) ∧ w8.drew.cell? ⟨wr.heap.size, 6, none⟩ = some (.int .i64 x.created) ∧ w8.drew.cell? ⟨wr.heap.size, 7, none⟩ = some (.int .i64 x.used) ∧ w8.drew.cell? ⟨wr.heap.size + 1, 0, none⟩ = some (.string x.sc.prj) ∧ w8.drew.cell? ⟨wr.heap.size + 1, 1, none⟩ = some (.int .i64 x.sc.trust) ∧ w8.drew.cell? ⟨wr.heap.size + 1, 2, none⟩ = some (.string x.sc.ref) ∧ w8.drew.cell? ⟨wr.heap.size + 1, 3, none⟩ = some (.string x.key) ∧ w8.drew.cell? ⟨w.heap.size, 1, none⟩ = some (.slice (some ⟨b, o, none⟩) n c) ∧ (Instr.lookup 68 (.map (some (w.heap.size + 1))) (.agg #[.string x.sc.prj, .int .i64 x.sc.trust, .string x.sc.ref, .string x.key]) false).run Tryd.prog w8.drew = .ok (.bool false) w8.drew := hS w8.drew (Below.refl _ _).drew
                      have hS0 : Below w8.heap.size w8 w8 ∧ w8.cell? ⟨wr.heap.size, 0, none⟩ = some (.string x.sc.prj) ∧ w8.cell? ⟨wr.heap.size, 1, none⟩ = some (.int .i64 x.sc.trust) ∧ w8.cell? ⟨wr.heap.size, 2, none⟩ = some (.string x.sc.ref) ∧ w8.cell? ⟨wr.heap.size, 3, none⟩ = some (.string x.key) ∧ w8.cell? ⟨wr.heap.size, 4, none⟩ = some (.int .u64 x.dig) ∧ w8.cell? ⟨wr.heap.size, 5, none⟩ = some (.int .i64 x.size) ∧ w8.cell? ⟨wr.heap.size, 6, none⟩ = some (.int .i64 x.created) ∧ w8.cell? ⟨wr.heap.size, 7, none⟩ = some (.int .i64 x.used) ∧ w8.cell? ⟨wr.heap.size + 1, 0, none⟩ = some (.string x.sc.prj) ∧ w8.cell? ⟨wr.heap.size + 1, 1, none⟩ = some (.int .i64 x.sc.trust) ∧ w8.cell? ⟨wr.heap.size + 1, 2, none⟩ = some (.string x.sc.ref) ∧ w8.cell? ⟨wr.heap.size + 1, 3, none⟩ = some (.string x.key) ∧ w8.cell? ⟨w.heap.size, 1, none⟩ = some (.slice (some ⟨b, o, none⟩) n c) ∧ (Instr.lookup 68 (.map (some (w.heap.size + 1))) (.agg #[.string x.sc.prj, .int .i64 x.sc.trust, .string x.sc.ref, .string x.key]) false).run Tryd.prog w8 = .ok (.bool false) w8 := hS w8 (Below.refl _ _)
                      replace keepS := Lib.hid keepS
                      replace CN2 := Lib.hid CN2
                      clear hS
                      refine wp_region_held_drew (S := fun w' => Below w8.heap.size w8 w' ∧ w'.cell? ⟨wr.heap.size, 0, none⟩ = some (.string x.sc.prj) ∧ w'.cell? ⟨wr.heap.size, 1, none⟩ = some (.int .i64 x.sc.trust) ∧ w'.cell? ⟨wr.heap.size, 2, none⟩ = some (.string x.sc.ref) ∧ w'.cell? ⟨wr.heap.size, 3, none⟩ = some (.string x.key) ∧ w'.cell? ⟨wr.heap.size, 4, none⟩ = some (.int .u64 x.dig) ∧ w'.cell? ⟨wr.heap.size, 5, none⟩ = some (.int .i64 x.size) ∧ w'.cell? ⟨wr.heap.size, 6, none⟩ = some (.int .i64 x.created) ∧ w'.cell? ⟨wr.heap.size, 7, none⟩ = some (.int .i64 x.used) ∧ w'.cell? ⟨wr.heap.size + 1, 0, none⟩ = some (.string x.sc.prj) ∧ w'.cell? ⟨wr.heap.size + 1, 1, none⟩ = some (.int .i64 x.sc.trust) ∧ w'.cell? ⟨wr.heap.size + 1, 2, none⟩ = some (.string x.sc.ref) ∧ w'.cell? ⟨wr.heap.size + 1, 3, none⟩ = some (.string x.key) ∧ w'.cell? ⟨w.heap.size, 1, none⟩ = some (.slice (some ⟨b, o, none⟩) n c) ∧ (Instr.lookup 68 (.map (some (w.heap.size + 1))) (.agg #[.string x.sc.prj, .int .i64 x.sc.trust, .string x.sc.ref, .string x.key]) false).run Tryd.prog w' = .ok (.bool false) w') (by kernel_rfl) ?_ (fun hHeld => ?_)
                      · (try dsimp only)
                        exact hS1
                      refine wpAnyH_take (i := 0) (v := ?v95) rfl (by kernel_rfl) (by kernel_rfl) (by kernel_rfl) (fun _ _ _ h => h) (Or.inl ⟨by rfl, ?hy95⟩) (by assumption) ?rest95
                      case hy95 => (intro w hSw; (try dsimp only at hSw); go_simp; try with_reducible rfl)
                      simp only [Act.put, List.getElem_toArray, List.getElem_cons_zero, List.setIfInBounds_toArray, List.set_cons_zero, List.set_cons_succ]
                      refine wpAnyH_ready (rs := [1]) (by kernel_rfl) (by simp) ?_
                      refine AllReadyH.cons rfl (fun K hK => ?_) AllReadyH.nil
                      go_simp
                      go_at_call 36
                      refine (CN2.out _ (by assumption)).mono ?_
                      rintro e w7 ⟨rfl, hbq⟩
                      dsimp only
                      simp only [hN]
                      refine hK.out _ _ ?_ (fun hHeld => ?_)
                      · (try dsimp only)
                        exact keepS.out _ _ (by assumption) hbq
                      clear hK K
                      try simp only [Act.put, List.getElem_toArray, List.getElem_cons_zero, List.getElem_cons_succ, List.setIfInBounds_toArray, List.set_cons_zero, List.set_cons_succ]
                      refine wpAnyH_take (i := 2) (v := ?v96) rfl (by kernel_rfl) (by kernel_rfl) (by kernel_rfl) (fun _ _ _ h => h) (Or.inl ⟨by rfl, ?hy96⟩) (by assumption) ?rest96
                      case hy96 => (intro w hSw; (try dsimp only at hSw); go_simp; try with_reducible rfl)
                      simp only [Act.put, List.getElem_toArray, List.getElem_cons_zero, List.getElem_cons_succ, List.setIfInBounds_toArray, List.set_cons_zero, List.set_cons_succ]
                      refine wpAnyH_take (i := 3) (v := ?v97) rfl (by kernel_rfl) (by kernel_rfl) (by kernel_rfl) (fun _ _ _ h => h) (Or.inl ⟨by rfl, ?hy97⟩) (by assumption) ?rest97
                      case hy97 => (intro w hSw; (try dsimp only at hSw); go_simp; try with_reducible rfl)
                      simp only [Act.put, List.getElem_toArray, List.getElem_cons_zero, List.getElem_cons_succ, List.setIfInBounds_toArray, List.set_cons_zero, List.set_cons_succ]
                      refine wpAnyH_take (i := 4) (v := ?v98) rfl (by kernel_rfl) (by kernel_rfl) (by kernel_rfl) (fun _ _ _ h => h) (Or.inl ⟨by rfl, ?hy98⟩) (by assumption) ?rest98
                      case hy98 => (intro w hSw; (try dsimp only at hSw); go_simp; try with_reducible rfl)
                      simp only [Act.put, List.getElem_toArray, List.getElem_cons_zero, List.getElem_cons_succ, List.setIfInBounds_toArray, List.set_cons_zero, List.set_cons_succ]
                      refine wpAnyH_take (i := 5) (v := ?v99) rfl (by kernel_rfl) (by kernel_rfl) (by kernel_rfl) (fun _ _ _ h => h) (Or.inl ⟨by rfl, ?hy99⟩) (by assumption) ?rest99
                      case hy99 => (intro w hSw; (try dsimp only at hSw); go_simp; try with_reducible rfl)
                      simp only [Act.put, List.getElem_toArray, List.getElem_cons_zero, List.getElem_cons_succ, List.setIfInBounds_toArray, List.set_cons_zero, List.set_cons_succ]
                      refine wpAnyH_ready (rs := [6]) (by kernel_rfl) (by simp) ?_
                      refine AllReadyH.cons rfl (fun K hK => ?_) AllReadyH.nil
                      go_simp
                      go_at_call 35
                      refine (CW.out _ _ _ _).mono ?_
                      rintro e w7 ⟨rfl, hbq⟩
                      dsimp only
                      simp only [hZ]
                      refine hK.out _ _ ?_ (fun hHeld => ?_)
                      · (try dsimp only)
                        exact keepS.out _ _ (by assumption) hbq
                      clear hK K
                      try simp only [Act.put, List.getElem_toArray, List.getElem_cons_zero, List.getElem_cons_succ, List.setIfInBounds_toArray, List.set_cons_zero, List.set_cons_succ]
                      refine wpAnyH_take (i := 7) (v := ?v100) rfl (by kernel_rfl) (by kernel_rfl) (by kernel_rfl) (fun _ _ _ h => h) (Or.inl ⟨by rfl, ?hy100⟩) (by assumption) ?rest100
                      case hy100 => (intro w hSw; (try dsimp only at hSw); go_simp; try with_reducible rfl)
                      simp only [Act.put, List.getElem_toArray, List.getElem_cons_zero, List.getElem_cons_succ, List.setIfInBounds_toArray, List.set_cons_zero, List.set_cons_succ]
                      refine wpAnyH_take (i := 8) (v := ?v101) rfl (by kernel_rfl) (by kernel_rfl) (by kernel_rfl) (fun _ _ _ h => h) (Or.inl ⟨by rfl, ?hy101⟩) (by assumption) ?rest101
                      case hy101 => (intro w hSw; (try dsimp only at hSw); go_simp; try with_reducible rfl)
                      simp only [Act.put, List.getElem_toArray, List.getElem_cons_zero, List.getElem_cons_succ, List.setIfInBounds_toArray, List.set_cons_zero, List.set_cons_succ]
                      refine wpAnyH_take (i := 9) (v := ?v102) rfl (by kernel_rfl) (by kernel_rfl) (by kernel_rfl) (fun _ _ _ h => h) (Or.inl ⟨by rfl, ?hy102⟩) (by assumption) ?rest102
                      case hy102 => (intro w hSw; (try dsimp only at hSw); go_simp; try with_reducible rfl)
                      simp only [Act.put, List.getElem_toArray, List.getElem_cons_zero, List.getElem_cons_succ, List.setIfInBounds_toArray, List.set_cons_zero, List.set_cons_succ]
                      refine wpAnyH_take (i := 10) (v := ?v103) rfl (by kernel_rfl) (by kernel_rfl) (by kernel_rfl) (fun _ _ _ h => h) (Or.inl ⟨by rfl, ?hy103⟩) (by assumption) ?rest103
                      case hy103 => (intro w hSw; (try dsimp only at hSw); go_simp; try with_reducible rfl)
                      simp only [Act.put, List.getElem_toArray, List.getElem_cons_zero, List.getElem_cons_succ, List.setIfInBounds_toArray, List.set_cons_zero, List.set_cons_succ]
                      refine wpAnyH_take (i := 11) (v := ?v104) rfl (by kernel_rfl) (by kernel_rfl) (by kernel_rfl) (fun _ _ _ h => h) (Or.inl ⟨by rfl, ?hy104⟩) (by assumption) ?rest104
                      case hy104 => (intro w hSw; (try dsimp only at hSw); go_simp; try with_reducible rfl)
                      simp only [Act.put, List.getElem_toArray, List.getElem_cons_zero, List.getElem_cons_succ, List.setIfInBounds_toArray, List.set_cons_zero, List.set_cons_succ]
                      refine wpAnyH_ready (rs := [12]) (by kernel_rfl) (by simp) ?_
                      refine AllReadyH.cons rfl (fun K hK => ?_) AllReadyH.nil
                      go_simp
                      go_at_call 35
                      refine (CW.out _ _ _ _).mono ?_
                      rintro e w7 ⟨rfl, hbq⟩
                      dsimp only
                      simp only [hC]
                      refine hK.out _ _ ?_ (fun hHeld => ?_)
                      · (try dsimp only)
                        exact keepS.out _ _ (by assumption) hbq
                      clear hK K
                      try simp only [Act.put, List.getElem_toArray, List.getElem_cons_zero, List.getElem_cons_succ, List.setIfInBounds_toArray, List.set_cons_zero, List.set_cons_succ]
                      refine wpAnyH_take (i := 13) (v := ?v105) rfl (by kernel_rfl) (by kernel_rfl) (by kernel_rfl) (fun _ _ _ h => h) (Or.inl ⟨by rfl, ?hy105⟩) (by assumption) ?rest105
                      case hy105 => (intro w hSw; (try dsimp only at hSw); go_simp; try with_reducible rfl)
                      simp only [Act.put, List.getElem_toArray, List.getElem_cons_zero, List.getElem_cons_succ, List.setIfInBounds_toArray, List.set_cons_zero, List.set_cons_succ]
                      refine wpAnyH_take (i := 14) (v := ?v106) rfl (by kernel_rfl) (by kernel_rfl) (by kernel_rfl) (fun _ _ _ h => h) (Or.inl ⟨by rfl, ?hy106⟩) (by assumption) ?rest106
                      case hy106 => (intro w hSw; (try dsimp only at hSw); go_simp; try with_reducible rfl)
                      simp only [Act.put, List.getElem_toArray, List.getElem_cons_zero, List.getElem_cons_succ, List.setIfInBounds_toArray, List.set_cons_zero, List.set_cons_succ]
                      refine wpAnyH_take (i := 15) (v := ?v107) rfl (by kernel_rfl) (by kernel_rfl) (by kernel_rfl) (fun _ _ _ h => h) (Or.inl ⟨by rfl, ?hy107⟩) (by assumption) ?rest107
                      case hy107 => (intro w hSw; (try dsimp only at hSw); go_simp; try with_reducible rfl)
                      simp only [Act.put, List.getElem_toArray, List.getElem_cons_zero, List.getElem_cons_succ, List.setIfInBounds_toArray, List.set_cons_zero, List.set_cons_succ]
                      refine wpAnyH_take (i := 16) (v := ?v108) rfl (by kernel_rfl) (by kernel_rfl) (by kernel_rfl) (fun _ _ _ h => h) (Or.inl ⟨by rfl, ?hy108⟩) (by assumption) ?rest108
                      case hy108 => (intro w hSw; (try dsimp only at hSw); go_simp; try with_reducible rfl)
                      simp only [Act.put, List.getElem_toArray, List.getElem_cons_zero, List.getElem_cons_succ, List.setIfInBounds_toArray, List.set_cons_zero, List.set_cons_succ]
                      refine wpAnyH_take (i := 17) (v := ?v109) rfl (by kernel_rfl) (by kernel_rfl) (by kernel_rfl) (fun _ _ _ h => h) (Or.inl ⟨by rfl, ?hy109⟩) (by assumption) ?rest109
                      case hy109 => (intro w hSw; (try dsimp only at hSw); go_simp; try with_reducible rfl)
                      simp only [Act.put, List.getElem_toArray, List.getElem_cons_zero, List.getElem_cons_succ, List.setIfInBounds_toArray, List.set_cons_zero, List.set_cons_succ]
                      refine wpAnyH_take (i := 18) (v := ?v110) rfl (by kernel_rfl) (by kernel_rfl) (by kernel_rfl) (fun _ _ _ h => h) (Or.inl ⟨by rfl, ?hy110⟩) (by assumption) ?rest110
                      case hy110 => (intro w hSw; (try dsimp only at hSw); go_simp; try with_reducible rfl)
                      simp only [Act.put, List.getElem_toArray, List.getElem_cons_zero, List.getElem_cons_succ, List.setIfInBounds_toArray, List.set_cons_zero, List.set_cons_succ]
                      refine wpAnyH_take (i := 19) (v := ?v111) rfl (by kernel_rfl) (by kernel_rfl) (by kernel_rfl) (fun _ _ _ h => h) (Or.inl ⟨by rfl, ?hy111⟩) (by assumption) ?rest111
                      case hy111 => (intro w hSw; (try dsimp only at hSw); go_simp; try with_reducible rfl)
                      simp only [Act.put, List.getElem_toArray, List.getElem_cons_zero, List.getElem_cons_succ, List.setIfInBounds_toArray, List.set_cons_zero, List.set_cons_succ]
                      refine wpAnyH_ready (rs := [20]) (by kernel_rfl) (by simp) ?_
                      refine AllReadyH.cons rfl (fun K hK => ?_) AllReadyH.nil
                      go_simp
                      go_at_call 35
                      refine (CW.out _ _ _ _).mono ?_
                      rintro e w7 ⟨rfl, hbq⟩
                      dsimp only
                      simp only [hU]
                      refine hK.out _ _ ?_ (fun hHeld => ?_)
                      · (try dsimp only)
                        exact keepS.out _ _ (by assumption) hbq
                      clear hK K
                      try simp only [Act.put, List.getElem_toArray, List.getElem_cons_zero, List.getElem_cons_succ, List.setIfInBounds_toArray, List.set_cons_zero, List.set_cons_succ]
                      refine wpAnyH_take (i := 21) (v := ?v112) rfl (by kernel_rfl) (by kernel_rfl) (by kernel_rfl) (fun _ _ _ h => h) (Or.inl ⟨by rfl, ?hy112⟩) (by assumption) ?rest112
                      case hy112 => (intro w hSw; (try dsimp only at hSw); go_simp; try with_reducible rfl)
                      simp only [Act.put, List.getElem_toArray, List.getElem_cons_zero, List.getElem_cons_succ, List.setIfInBounds_toArray, List.set_cons_zero, List.set_cons_succ]
                      refine wpAnyH_take (i := 22) (v := ?v113) rfl (by kernel_rfl) (by kernel_rfl) (by kernel_rfl) (fun _ _ _ h => h) (Or.inl ⟨by rfl, ?hy113⟩) (by assumption) ?rest113
                      case hy113 => (intro w hSw; (try dsimp only at hSw); go_simp; try with_reducible rfl)
                      simp only [Act.put, List.getElem_toArray, List.getElem_cons_zero, List.getElem_cons_succ, List.setIfInBounds_toArray, List.set_cons_zero, List.set_cons_succ]
                      refine wpAnyH_take (i := 23) (v := ?v114) rfl (by kernel_rfl) (by kernel_rfl) (by kernel_rfl) (fun _ _ _ h => h) (Or.inl ⟨by rfl, ?hy114⟩) (by assumption) ?rest114
                      case hy114 => (intro w hSw; (try dsimp only at hSw); go_simp; try with_reducible rfl)
                      simp only [Act.put, List.getElem_toArray, List.getElem_cons_zero, List.getElem_cons_succ, List.setIfInBounds_toArray, List.set_cons_zero, List.set_cons_succ]
                      refine wpAnyH_take (i := 24) (v := ?v115) rfl (by kernel_rfl) (by kernel_rfl) (by kernel_rfl) (fun _ _ _ h => h) (Or.inl ⟨by rfl, ?hy115⟩) (by assumption) ?rest115
                      case hy115 => (intro w hSw; (try dsimp only at hSw); go_simp; try with_reducible rfl)
                      simp only [Act.put, List.getElem_toArray, List.getElem_cons_zero, List.getElem_cons_succ, List.setIfInBounds_toArray, List.set_cons_zero, List.set_cons_succ]
                      refine wpAnyH_take (i := 25) (v := ?v116) rfl (by kernel_rfl) (by kernel_rfl) (by kernel_rfl) (fun _ _ _ h => h) (Or.inl ⟨by rfl, ?hy116⟩) (by assumption) ?rest116
                      case hy116 => (intro w hSw; (try dsimp only at hSw); go_simp; try with_reducible rfl)
                      simp only [Act.put, List.getElem_toArray, List.getElem_cons_zero, List.getElem_cons_succ, List.setIfInBounds_toArray, List.set_cons_zero, List.set_cons_succ]
                      refine wpAnyH_take (i := 26) (v := ?v117) rfl (by kernel_rfl) (by kernel_rfl) (by kernel_rfl) (fun _ _ _ h => h) (Or.inl ⟨by rfl, ?hy117⟩) (by assumption) ?rest117
                      case hy117 => (intro w hSw; (try dsimp only at hSw); go_simp; try with_reducible rfl)
                      simp only [Act.put, List.getElem_toArray, List.getElem_cons_zero, List.getElem_cons_succ, List.setIfInBounds_toArray, List.set_cons_zero, List.set_cons_succ]
                      refine wpAnyH_take (i := 27) (v := ?v118) rfl (by kernel_rfl) (by kernel_rfl) (by kernel_rfl) (fun _ _ _ h => h) (Or.inl ⟨by rfl, ?hy118⟩) (by assumption) ?rest118
                      case hy118 => (intro w hSw; (try dsimp only at hSw); go_simp; try with_reducible rfl)
                      simp only [Act.put, List.getElem_toArray, List.getElem_cons_zero, List.getElem_cons_succ, List.setIfInBounds_toArray, List.set_cons_zero, List.set_cons_succ]
                      refine wpAnyH_take (i := 28) (v := ?v119) rfl (by kernel_rfl) (by kernel_rfl) (by kernel_rfl) (fun _ _ _ h => h) (Or.inl ⟨by rfl, ?hy119⟩) (by assumption) ?rest119
                      case hy119 => (intro w hSw; (try dsimp only at hSw); go_simp; try with_reducible rfl)
                      simp only [Act.put, List.getElem_toArray, List.getElem_cons_zero, List.getElem_cons_succ, List.setIfInBounds_toArray, List.set_cons_zero, List.set_cons_succ]
                      refine wpAnyH_take (i := 29) (v := ?v120) rfl (by kernel_rfl) (by kernel_rfl) (by kernel_rfl) (fun _ _ _ h => h) (Or.inl ⟨by rfl, ?hy120⟩) (by assumption) ?rest120
                      case hy120 => (intro w hSw; (try dsimp only at hSw); go_simp; try with_reducible rfl)
                      simp only [Act.put, List.getElem_toArray, List.getElem_cons_zero, List.getElem_cons_succ, List.setIfInBounds_toArray, List.set_cons_zero, List.set_cons_succ]
                      refine wpAnyH_take (i := 30) (v := ?v121) rfl (by kernel_rfl) (by kernel_rfl) (by kernel_rfl) (fun _ _ _ h => h) (Or.inl ⟨by rfl, ?hy121⟩) (by assumption) ?rest121
                      case hy121 => (intro w hSw; (try dsimp only at hSw); go_simp; try with_reducible rfl)
                      simp only [Act.put, List.getElem_toArray, List.getElem_cons_zero, List.getElem_cons_succ, List.setIfInBounds_toArray, List.set_cons_zero, List.set_cons_succ]
                      refine wpAnyH_take (i := 31) (v := ?v122) rfl (by kernel_rfl) (by kernel_rfl) (by kernel_rfl) (fun _ _ _ h => h) (Or.inl ⟨by rfl, ?hy122⟩) (by assumption) ?rest122
                      case hy122 => (intro w hSw; (try dsimp only at hSw); go_simp; try with_reducible rfl)
                      simp only [Act.put, List.getElem_toArray, List.getElem_cons_zero, List.getElem_cons_succ, List.setIfInBounds_toArray, List.set_cons_zero, List.set_cons_succ]
                      refine wpAnyH_take (i := 32) (v := undef) rfl (by kernel_rfl) (by kernel_rfl) (by kernel_rfl) (fun _ _ _ h => h) (Or.inr ⟨by rfl, rfl⟩) (by assumption) ?_
                      simp only [Act.put, List.getElem_toArray, List.getElem_cons_zero, List.getElem_cons_succ, List.setIfInBounds_toArray, List.set_cons_zero, List.set_cons_succ]
                      refine wpAnyH_take (i := 33) (v := undef) rfl (by kernel_rfl) (by kernel_rfl) (by kernel_rfl) (fun _ _ _ h => h) (Or.inr ⟨by rfl, rfl⟩) (by assumption) ?_
                      simp only [Act.put, List.getElem_toArray, List.getElem_cons_zero, List.getElem_cons_succ, List.setIfInBounds_toArray, List.set_cons_zero, List.set_cons_succ]
                      refine wpAnyH_take (i := 34) (v := undef) rfl (by kernel_rfl) (by kernel_rfl) (by kernel_rfl) (fun _ _ _ h => h) (Or.inr ⟨by rfl, rfl⟩) (by assumption) ?_
                      simp only [Act.put, List.getElem_toArray, List.getElem_cons_zero, List.getElem_cons_succ, List.setIfInBounds_toArray, List.set_cons_zero, List.set_cons_succ]
                      refine wpAnyH_take (i := 35) (v := undef) rfl (by kernel_rfl) (by kernel_rfl) (by kernel_rfl) (fun _ _ _ h => h) (Or.inr ⟨by rfl, rfl⟩) (by assumption) ?_
                      simp only [Act.put, List.getElem_toArray, List.getElem_cons_zero, List.getElem_cons_succ, List.setIfInBounds_toArray, List.set_cons_zero, List.set_cons_succ]
                      refine wpAnyH_take (i := 36) (v := undef) rfl (by kernel_rfl) (by kernel_rfl) (by kernel_rfl) (fun _ _ _ h => h) (Or.inr ⟨by rfl, rfl⟩) (by assumption) ?_
                      simp only [Act.put, List.getElem_toArray, List.getElem_cons_zero, List.getElem_cons_succ, List.setIfInBounds_toArray, List.set_cons_zero, List.set_cons_succ]
                      refine wpAnyH_take (i := 37) (v := undef) rfl (by kernel_rfl) (by kernel_rfl) (by kernel_rfl) (fun _ _ _ h => h) (Or.inr ⟨by rfl, rfl⟩) (by assumption) ?_
                      simp only [Act.put, List.getElem_toArray, List.getElem_cons_zero, List.getElem_cons_succ, List.setIfInBounds_toArray, List.set_cons_zero, List.set_cons_succ]
                      refine wpAnyH_take (i := 38) (v := undef) rfl (by kernel_rfl) (by kernel_rfl) (by kernel_rfl) (fun _ _ _ h => h) (Or.inr ⟨by rfl, rfl⟩) (by assumption) ?_
                      simp only [Act.put, List.getElem_toArray, List.getElem_cons_zero, List.getElem_cons_succ, List.setIfInBounds_toArray, List.set_cons_zero, List.set_cons_succ]
                      refine wpAnyH_take (i := 39) (v := undef) rfl (by kernel_rfl) (by kernel_rfl) (by kernel_rfl) (fun _ _ _ h => h) (Or.inr ⟨by rfl, rfl⟩) (by assumption) ?_
                      simp only [Act.put, List.getElem_toArray, List.getElem_cons_zero, List.getElem_cons_succ, List.setIfInBounds_toArray, List.set_cons_zero, List.set_cons_succ]
                      refine wpAnyH_take (i := 40) (v := undef) rfl (by kernel_rfl) (by kernel_rfl) (by kernel_rfl) (fun _ _ _ h => h) (Or.inr ⟨by rfl, rfl⟩) (by assumption) ?_
                      simp only [Act.put, List.getElem_toArray, List.getElem_cons_zero, List.getElem_cons_succ, List.setIfInBounds_toArray, List.set_cons_zero, List.set_cons_succ]
                      refine wpAnyH_take (i := 41) (v := undef) rfl (by kernel_rfl) (by kernel_rfl) (by kernel_rfl) (fun _ _ _ h => h) (Or.inr ⟨by rfl, rfl⟩) (by assumption) ?_
                      simp only [Act.put, List.getElem_toArray, List.getElem_cons_zero, List.getElem_cons_succ, List.setIfInBounds_toArray, List.set_cons_zero, List.set_cons_succ]
                      refine wpAnyH_take (i := 42) (v := ?v123) rfl (by kernel_rfl) (by kernel_rfl) (by kernel_rfl) (fun _ _ _ h => h) (Or.inl ⟨by rfl, ?hy123⟩) (by assumption) ?rest123
                      case hy123 => (intro w hSw; (try dsimp only at hSw); go_simp; try with_reducible rfl)
                      simp only [Act.put, List.getElem_toArray, List.getElem_cons_zero, List.getElem_cons_succ, List.setIfInBounds_toArray, List.set_cons_zero, List.set_cons_succ]
                      refine wpAnyH_take (i := 43) (v := ?v124) rfl (by kernel_rfl) (by kernel_rfl) (by kernel_rfl) (fun _ _ _ h => h) (Or.inl ⟨by rfl, ?hy124⟩) (by assumption) ?rest124
                      case hy124 => (intro w hSw; (try dsimp only at hSw); go_simp; try with_reducible rfl)
                      simp only [Act.put, List.getElem_toArray, List.getElem_cons_zero, List.getElem_cons_succ, List.setIfInBounds_toArray, List.set_cons_zero, List.set_cons_succ]
                      refine wpAnyH_done (by kernel_rfl) ?_ _
                      obtain ⟨hb9, f0, f1, f2, f3, f4, f5, f6, f7, m0, m1, m2, m3, _⟩ := hHeld
                      have hnm9 := hnm8.kept hb9 (by omega)
                      have hz9 := hb9.size
                      repeat' ((fail_if_success at_mapUpdate); (fail_if_success at_builtin); (first | go_skip | go_guarded | go_step))
                      refine wpList_mapUpdate_own _ rfl _ _ _ 68 rfl 70 4 nmLaw Tryd.underlying68 trueE (w.heap.size + 1) _ _ rfl hnm9 (by refine Nat.lt_of_le_of_lt (List.length_take_le _ _) ?_; unfold maxLen; omega) _ _ (klOf x) rfl rfl hkey.out (.lit (.bool true)) [] rfl ?_
                      intro w10 hown10 hg10
                      repeat' ((fail_if_success at_builtin); (first | go_skip | go_guarded | go_step))
                      go_roundw
                      case rel => exact ⟨0 + 1, by omega, by go_num, hgok.out, hgr8.out.trans ((Below.grownB hb9 _).trans hg10), htk.out ▸ Names.snoc hown10⟩
                      case measure => simp [intOf]; omega
                    | succ k =>
                      have hk2 : k < l.length := by omega
                      have hy : l[k]? = some l[k] := List.getElem?_eq_getElem hk2
                      obtain ⟨b', o', hbo, _, hcy⟩ := ent_at hs.out hn2.out hy
                      cases hbo
                      have yp := (hb8.cell (p := ⟨b, o + k * 8 + 6, none⟩) hbB).trans hcy.c6
                      have hpk : prevOk l (k + 1) x = decide ((l[k]).created ≤ x.created) := by
                        show (match l[k]? with
                          | some y => decide (y.created ≤ x.created)
                          | none => true) = _
                        rw [hy]
                      rw [hpk] at hgb
                      generalize l[k] = y at *
                      clear hcy hpk hy
                      have lb : b < w8.heap.size := by omega
                      have s0 : (0 : Int) < (k : Int) + 1 := by omega
                      have s1 : IntKind.i64.wrap ((k : Int) + 1 - 1) = (k : Int) := by rw [show (k : Int) + 1 - 1 = (k : Int) from by omega]; exact IntWalk.i64_in _ (by omega)
                      have s2 : IntKind.i64.wrap (k : Int) = (k : Int) := IntWalk.i64_in _ (by omega)
                      have s3 : (0 : Int) ≤ (k : Int) := by omega
                      have s4 : (k : Int) < (n : Int) := by omega
                      by_cases hp : y.created ≤ x.created
                      · have hp' : ¬ (x.created < y.created) := by omega
                        have hgok := hgood.out.snoc hx.out (by rw [hgb, decide_eq_true hp])
                        replace hgok := Lib.hid hgok
                        replace hgb := Lib.hid hgb
                        have hS : ∀ w', Below w8.heap.size w8 w' → Below w8.heap.size w8 w' ∧ w'.cell? ⟨wr.heap.size, 0, none⟩ = some (.string x.sc.prj) ∧ w'.cell? ⟨wr.heap.size, 1, none⟩ = some (.int .i64 x.sc.trust) ∧ w'.cell? ⟨wr.heap.size, 2, none⟩ = some (.string x.sc.ref) ∧ w'.cell? ⟨wr.heap.size, 3, none⟩ = some (.string x.key) ∧ w'.cell? ⟨wr.heap.size, 4, none⟩ = some (.int .u64 x.dig) ∧ w'.cell? ⟨wr.heap.size, 5, none⟩ = some (.int .i64 x.size) ∧ w'.cell? ⟨wr.heap.size, 6, none⟩ = some (.int .i64 x.created) ∧ w'.cell? ⟨wr.heap.size, 7, none⟩ = some (.int .i64 x.used) ∧ w'.cell? ⟨wr.heap.size + 1, 0, none⟩ = some (.string x.sc.prj) ∧ w'.cell? ⟨wr.heap.size + 1, 1, none⟩ = some (.int .i64 x.sc.trust) ∧ w'.cell? ⟨wr.heap.size + 1, 2, none⟩ = some (.string x.sc.ref) ∧ w'.cell? ⟨wr.heap.size + 1, 3, none⟩ = some (.string x.key) ∧ w'.cell? ⟨w.heap.size, 1, none⟩ = some (.slice (some ⟨b, o, none⟩) n c) ∧ (Instr.lookup 68 (.map (some (w.heap.size + 1))) (.agg #[.string x.sc.prj, .int .i64 x.sc.trust, .string x.sc.ref, .string x.key]) false).run Tryd.prog w' = .ok (.bool false) w' ∧ w'.cell? ⟨b, o + k * 8 + 6, none⟩ = some (.int .i64 y.created) := fun w' hb => ⟨hb, (hb.cell (p := ⟨wr.heap.size, 0, none⟩) le).trans e0, (hb.cell (p := ⟨wr.heap.size, 1, none⟩) le).trans e1, (hb.cell (p := ⟨wr.heap.size, 2, none⟩) le).trans e2, (hb.cell (p := ⟨wr.heap.size, 3, none⟩) le).trans e3, (hb.cell (p := ⟨wr.heap.size, 4, none⟩) le).trans e4, (hb.cell (p := ⟨wr.heap.size, 5, none⟩) le).trans e5, (hb.cell (p := ⟨wr.heap.size, 6, none⟩) le).trans e6, (hb.cell (p := ⟨wr.heap.size, 7, none⟩) le).trans e7, (hb.cell (p := ⟨wr.heap.size + 1, 0, none⟩) ln).trans n0, (hb.cell (p := ⟨wr.heap.size + 1, 1, none⟩) ln).trans n1, (hb.cell (p := ⟨wr.heap.size + 1, 2, none⟩) ln).trans n2, (hb.cell (p := ⟨wr.heap.size + 1, 3, none⟩) ln).trans n3, (hb.cell (p := ⟨w.heap.size, 1, none⟩) l1).trans q1, hlook w' hb, (hb.cell (p := ⟨b, o + k * 8 + 6, none⟩) lb).trans yp⟩
                        have keepS : ∀ w' w'', (Below w8.heap.size w8 w' ∧ w'.cell? ⟨wr.heap.size, 0, none⟩ = some (.string x.sc.prj) ∧ w'.cell? ⟨wr.heap.size, 1, none⟩ = some (.int .i64 x.sc.trust) ∧ w'.cell? ⟨wr.heap.size, 2, none⟩ = some (.string x.sc.ref) ∧ w'.cell? ⟨wr.heap.size, 3, none⟩ = some (.string x.key) ∧ w'.cell? ⟨wr.heap.size, 4, none⟩ = some (.int .u64 x.dig) ∧ w'.cell? ⟨wr.heap.size, 5, none⟩ = some (.int .i64 x.size) ∧ w'.cell? ⟨wr.heap.size, 6, none⟩ = some (.int .i64 x.created) ∧ w'.cell? ⟨wr.heap.size, 7, none⟩ = some (.int .i64 x.used) ∧ w'.cell? ⟨wr.heap.size + 1, 0, none⟩ = some (.string x.sc.prj) ∧ w'.cell? ⟨wr.heap.size + 1, 1, none⟩ = some (.int .i64 x.sc.trust) ∧ w'.cell? ⟨wr.heap.size + 1, 2, none⟩ = some (.string x.sc.ref) ∧ w'.cell? ⟨wr.heap.size + 1, 3, none⟩ = some (.string x.key) ∧ w'.cell? ⟨w.heap.size, 1, none⟩ = some (.slice (some ⟨b, o, none⟩) n c) ∧ (Instr.lookup 68 (.map (some (w.heap.size + 1))) (.agg #[.string x.sc.prj, .int .i64 x.sc.trust, .string x.sc.ref, .string x.key]) false).run Tryd.prog w' = .ok (.bool false) w' ∧ w'.cell? ⟨b, o + k * 8 + 6, none⟩ = some (.int .i64 y.created)) → Below w'.heap.size w' w'' → (Below w8.heap.size w8 w'' ∧ w''.cell? ⟨wr.heap.size, 0, none⟩ = some (.string x.sc.prj) ∧ w''.cell? ⟨wr.heap.size, 1, none⟩ = some (.int .i64 x.sc.trust) ∧ w''.cell? ⟨wr.heap.size, 2, none⟩ = some (.string x.sc.ref) ∧ w''.cell? ⟨wr.heap.size, 3, none⟩ = some (.string x.key) ∧ w''.cell? ⟨wr.heap.size, 4, none⟩ = some (.int .u64 x.dig) ∧ w''.cell? ⟨wr.heap.size, 5, none⟩ = some (.int .i64 x.size) ∧ w''.cell? ⟨wr.heap.size, 6, none⟩ = some (.int .i64 x.created) ∧ w''.cell? ⟨wr.heap.size, 7, none⟩ = some (.int .i64 x.used) ∧ w''.cell? ⟨wr.heap.size + 1, 0, none⟩ = some (.string x.sc.prj) ∧ w''.cell? ⟨wr.heap.size + 1, 1, none⟩ = some (.int .i64 x.sc.trust) ∧ w''.cell? ⟨wr.heap.size + 1, 2, none⟩ = some (.string x.sc.ref) ∧ w''.cell? ⟨wr.heap.size + 1, 3, none⟩ = some (.string x.key) ∧ w''.cell? ⟨w.heap.size, 1, none⟩ = some (.slice (some ⟨b, o, none⟩) n c) ∧ (Instr.lookup 68 (.map (some (w.heap.size + 1))) (.agg #[.string x.sc.prj, .int .i64 x.sc.trust, .string x.sc.ref, .string x.key]) false).run Tryd.prog w'' = .ok (.bool false) w'' ∧ w''.cell? ⟨b, o + k * 8 + 6, none⟩ = some (.int .i64 y.created)) := fun w' w'' h hc => hS w'' (h.1.trans (hc.mono h.1.size))
                        have CN2 := fun w' (h : Below w8.heap.size w8 w' ∧ w'.cell? ⟨wr.heap.size, 0, none⟩ = some (.string x.sc.prj) ∧ w'.cell? ⟨wr.heap.size, 1, none⟩ = some (.int .i64 x.sc.trust) ∧ w'.cell? ⟨wr.heap.size, 2, none⟩ = some (.string x.sc.ref) ∧ w'.cell? ⟨wr.heap.size, 3, none⟩ = some (.string x.key) ∧ w'.cell? ⟨wr.heap.size, 4, none⟩ = some (.int .u64 x.dig) ∧ w'.cell? ⟨wr.heap.size, 5, none⟩ = some (.int .i64 x.size) ∧ w'.cell? ⟨wr.heap.size, 6, none⟩ = some (.int .i64 x.created) ∧ w'.cell? ⟨wr.heap.size, 7, none⟩ = some (.int .i64 x.used) ∧ w'.cell? ⟨wr.heap.size + 1, 0, none⟩ = some (.string x.sc.prj) ∧ w'.cell? ⟨wr.heap.size + 1, 1, none⟩ = some (.int .i64 x.sc.trust) ∧ w'.cell? ⟨wr.heap.size + 1, 2, none⟩ = some (.string x.sc.ref) ∧ w'.cell? ⟨wr.heap.size + 1, 3, none⟩ = some (.string x.key) ∧ w'.cell? ⟨w.heap.size, 1, none⟩ = some (.slice (some ⟨b, o, none⟩) n c) ∧ (Instr.lookup 68 (.map (some (w.heap.size + 1))) (.agg #[.string x.sc.prj, .int .i64 x.sc.trust, .string x.sc.ref, .string x.key]) false).run Tryd.prog w' = .ok (.bool false) w' ∧ w'.cell? ⟨b, o + k * 8 + 6, none⟩ = some (.int .i64 y.created)) => CN w' h.1
                        have hS1 : Below w8.heap.size w8 w8.drew ∧ w8.drew.cell? ⟨wr.heap.size, 0, none⟩ = some (.string x.sc.prj) ∧ w8.drew.cell? ⟨wr.heap.size, 1, none⟩ = some (.int .i64 x.sc.trust) ∧ w8.drew.cell? ⟨wr.heap.size, 2, none⟩ = some (.string x.sc.ref) ∧ w8.drew.cell? ⟨wr.heap.size, 3, none⟩ = some (.string x.key) ∧ w8.drew.cell? ⟨wr.heap.size, 4, none⟩ = some (.int .u64 x.dig) ∧ w8.drew.cell? ⟨wr.heap.size, 5, none⟩ = some (.int .i64 x.size) ∧ w8.drew.cell? ⟨wr.heap.size, 6, none⟩ = some (.int .i64 x.created) ∧ w8.drew.cell? ⟨wr.heap.size, 7, none⟩ = some (.int .i64 x.used) ∧ w8.drew.cell? ⟨wr.heap.size + 1, 0, none⟩ = some (.string x.sc.prj) ∧ w8.drew.cell? ⟨wr.heap.size + 1, 1, none⟩ = some (.int .i64 x.sc.trust) ∧ w8.drew.cell? ⟨wr.heap.size + 1, 2, none⟩ = some (.string x.sc.ref) ∧ w8.drew.cell? ⟨wr.heap.size + 1, 3, none⟩ = some (.string x.key) ∧ w8.drew.cell? ⟨w.heap.size, 1, none⟩ = some (.slice (some ⟨b, o, none⟩) n c) ∧ (Instr.lookup 68 (.map (some (w.heap.size + 1))) (.agg #[.string x.sc.prj, .int .i64 x.sc.trust, .string x.sc.ref, .string x.key]) false).run Tryd.prog w8.drew = .ok (.bool false) w8.drew ∧ w8.drew.cell? ⟨b, o + k * 8 + 6, none⟩ = some (.int .i64 y.created) := hS w8.drew (Below.refl _ _).drew
                        have hS0 : Below w8.heap.size w8 w8 ∧ w8.cell? ⟨wr.heap.size, 0, none⟩ = some (.string x.sc.prj) ∧ w8.cell? ⟨wr.heap.size, 1, none⟩ = some (.int .i64 x.sc.trust) ∧ w8.cell? ⟨wr.heap.size, 2, none⟩ = some (.string x.sc.ref) ∧ w8.cell? ⟨wr.heap.size, 3, none⟩ = some (.string x.key) ∧ w8.cell? ⟨wr.heap.size, 4, none⟩ = some (.int .u64 x.dig) ∧ w8.cell? ⟨wr.heap.size, 5, none⟩ = some (.int .i64 x.size) ∧ w8.cell? ⟨wr.heap.size, 6, none⟩ = some (.int .i64 x.created) ∧ w8.cell? ⟨wr.heap.size, 7, none⟩ = some (.int .i64 x.used) ∧ w8.cell? ⟨wr.heap.size + 1, 0, none⟩ = some (.string x.sc.prj) ∧ w8.cell? ⟨wr.heap.size + 1, 1, none⟩ = some (.int .i64 x.sc.trust) ∧ w8.cell? ⟨wr.heap.size + 1, 2, none⟩ = some (.string x.sc.ref) ∧ w8.cell? ⟨wr.heap.size + 1, 3, none⟩ = some (.string x.key) ∧ w8.cell? ⟨w.heap.size, 1, none⟩ = some (.slice (some ⟨b, o, none⟩) n c) ∧ (Instr.lookup 68 (.map (some (w.heap.size + 1))) (.agg #[.string x.sc.prj, .int .i64 x.sc.trust, .string x.sc.ref, .string x.key]) false).run Tryd.prog w8 = .ok (.bool false) w8 ∧ w8.cell? ⟨b, o + k * 8 + 6, none⟩ = some (.int .i64 y.created) := hS w8 (Below.refl _ _)
                        replace keepS := Lib.hid keepS
                        replace CN2 := Lib.hid CN2
                        clear hS
                        refine wp_region_held_drew (S := fun w' => Below w8.heap.size w8 w' ∧ w'.cell? ⟨wr.heap.size, 0, none⟩ = some (.string x.sc.prj) ∧ w'.cell? ⟨wr.heap.size, 1, none⟩ = some (.int .i64 x.sc.trust) ∧ w'.cell? ⟨wr.heap.size, 2, none⟩ = some (.string x.sc.ref) ∧ w'.cell? ⟨wr.heap.size, 3, none⟩ = some (.string x.key) ∧ w'.cell? ⟨wr.heap.size, 4, none⟩ = some (.int .u64 x.dig) ∧ w'.cell? ⟨wr.heap.size, 5, none⟩ = some (.int .i64 x.size) ∧ w'.cell? ⟨wr.heap.size, 6, none⟩ = some (.int .i64 x.created) ∧ w'.cell? ⟨wr.heap.size, 7, none⟩ = some (.int .i64 x.used) ∧ w'.cell? ⟨wr.heap.size + 1, 0, none⟩ = some (.string x.sc.prj) ∧ w'.cell? ⟨wr.heap.size + 1, 1, none⟩ = some (.int .i64 x.sc.trust) ∧ w'.cell? ⟨wr.heap.size + 1, 2, none⟩ = some (.string x.sc.ref) ∧ w'.cell? ⟨wr.heap.size + 1, 3, none⟩ = some (.string x.key) ∧ w'.cell? ⟨w.heap.size, 1, none⟩ = some (.slice (some ⟨b, o, none⟩) n c) ∧ (Instr.lookup 68 (.map (some (w.heap.size + 1))) (.agg #[.string x.sc.prj, .int .i64 x.sc.trust, .string x.sc.ref, .string x.key]) false).run Tryd.prog w' = .ok (.bool false) w' ∧ w'.cell? ⟨b, o + k * 8 + 6, none⟩ = some (.int .i64 y.created)) (by kernel_rfl) ?_ (fun hHeld => ?_)
                        · (try dsimp only)
                          exact hS1
                        refine wpAnyH_take (i := 0) (v := ?v125) rfl (by kernel_rfl) (by kernel_rfl) (by kernel_rfl) (fun _ _ _ h => h) (Or.inl ⟨by rfl, ?hy125⟩) (by assumption) ?rest125
                        case hy125 => (intro w hSw; (try dsimp only at hSw); go_simp; try with_reducible rfl)
                        simp only [Act.put, List.getElem_toArray, List.getElem_cons_zero, List.setIfInBounds_toArray, List.set_cons_zero, List.set_cons_succ]
                        refine wpAnyH_ready (rs := [1]) (by kernel_rfl) (by simp) ?_
                        refine AllReadyH.cons rfl (fun K hK => ?_) AllReadyH.nil
                        go_simp
                        go_at_call 36
                        refine (CN2.out _ (by assumption)).mono ?_
                        rintro e w7 ⟨rfl, hbq⟩
                        dsimp only
                        simp only [hN]
                        refine hK.out _ _ ?_ (fun hHeld => ?_)
                        · (try dsimp only)
                          exact keepS.out _ _ (by assumption) hbq
                        clear hK K
                        try simp only [Act.put, List.getElem_toArray, List.getElem_cons_zero, List.getElem_cons_succ, List.setIfInBounds_toArray, List.set_cons_zero, List.set_cons_succ]
                        refine wpAnyH_take (i := 2) (v := ?v126) rfl (by kernel_rfl) (by kernel_rfl) (by kernel_rfl) (fun _ _ _ h => h) (Or.inl ⟨by rfl, ?hy126⟩) (by assumption) ?rest126
                        case hy126 => (intro w hSw; (try dsimp only at hSw); go_simp; try with_reducible rfl)
                        simp only [Act.put, List.getElem_toArray, List.getElem_cons_zero, List.getElem_cons_succ, List.setIfInBounds_toArray, List.set_cons_zero, List.set_cons_succ]
                        refine wpAnyH_take (i := 3) (v := ?v127) rfl (by kernel_rfl) (by kernel_rfl) (by kernel_rfl) (fun _ _ _ h => h) (Or.inl ⟨by rfl, ?hy127⟩) (by assumption) ?rest127
                        case hy127 => (intro w hSw; (try dsimp only at hSw); go_simp; try with_reducible rfl)
                        simp only [Act.put, List.getElem_toArray, List.getElem_cons_zero, List.getElem_cons_succ, List.setIfInBounds_toArray, List.set_cons_zero, List.set_cons_succ]
                        refine wpAnyH_take (i := 4) (v := ?v128) rfl (by kernel_rfl) (by kernel_rfl) (by kernel_rfl) (fun _ _ _ h => h) (Or.inl ⟨by rfl, ?hy128⟩) (by assumption) ?rest128
                        case hy128 => (intro w hSw; (try dsimp only at hSw); go_simp; try with_reducible rfl)
                        simp only [Act.put, List.getElem_toArray, List.getElem_cons_zero, List.getElem_cons_succ, List.setIfInBounds_toArray, List.set_cons_zero, List.set_cons_succ]
                        refine wpAnyH_take (i := 5) (v := ?v129) rfl (by kernel_rfl) (by kernel_rfl) (by kernel_rfl) (fun _ _ _ h => h) (Or.inl ⟨by rfl, ?hy129⟩) (by assumption) ?rest129
                        case hy129 => (intro w hSw; (try dsimp only at hSw); go_simp; try with_reducible rfl)
                        simp only [Act.put, List.getElem_toArray, List.getElem_cons_zero, List.getElem_cons_succ, List.setIfInBounds_toArray, List.set_cons_zero, List.set_cons_succ]
                        refine wpAnyH_ready (rs := [6]) (by kernel_rfl) (by simp) ?_
                        refine AllReadyH.cons rfl (fun K hK => ?_) AllReadyH.nil
                        go_simp
                        go_at_call 35
                        refine (CW.out _ _ _ _).mono ?_
                        rintro e w7 ⟨rfl, hbq⟩
                        dsimp only
                        simp only [hZ]
                        refine hK.out _ _ ?_ (fun hHeld => ?_)
                        · (try dsimp only)
                          exact keepS.out _ _ (by assumption) hbq
                        clear hK K
                        try simp only [Act.put, List.getElem_toArray, List.getElem_cons_zero, List.getElem_cons_succ, List.setIfInBounds_toArray, List.set_cons_zero, List.set_cons_succ]
                        refine wpAnyH_take (i := 7) (v := ?v130) rfl (by kernel_rfl) (by kernel_rfl) (by kernel_rfl) (fun _ _ _ h => h) (Or.inl ⟨by rfl, ?hy130⟩) (by assumption) ?rest130
                        case hy130 => (intro w hSw; (try dsimp only at hSw); go_simp; try with_reducible rfl)
                        simp only [Act.put, List.getElem_toArray, List.getElem_cons_zero, List.getElem_cons_succ, List.setIfInBounds_toArray, List.set_cons_zero, List.set_cons_succ]
                        refine wpAnyH_take (i := 8) (v := ?v131) rfl (by kernel_rfl) (by kernel_rfl) (by kernel_rfl) (fun _ _ _ h => h) (Or.inl ⟨by rfl, ?hy131⟩) (by assumption) ?rest131
                        case hy131 => (intro w hSw; (try dsimp only at hSw); go_simp; try with_reducible rfl)
                        simp only [Act.put, List.getElem_toArray, List.getElem_cons_zero, List.getElem_cons_succ, List.setIfInBounds_toArray, List.set_cons_zero, List.set_cons_succ]
                        refine wpAnyH_take (i := 9) (v := ?v132) rfl (by kernel_rfl) (by kernel_rfl) (by kernel_rfl) (fun _ _ _ h => h) (Or.inl ⟨by rfl, ?hy132⟩) (by assumption) ?rest132
                        case hy132 => (intro w hSw; (try dsimp only at hSw); go_simp; try with_reducible rfl)
                        simp only [Act.put, List.getElem_toArray, List.getElem_cons_zero, List.getElem_cons_succ, List.setIfInBounds_toArray, List.set_cons_zero, List.set_cons_succ]
                        refine wpAnyH_take (i := 10) (v := ?v133) rfl (by kernel_rfl) (by kernel_rfl) (by kernel_rfl) (fun _ _ _ h => h) (Or.inl ⟨by rfl, ?hy133⟩) (by assumption) ?rest133
                        case hy133 => (intro w hSw; (try dsimp only at hSw); go_simp; try with_reducible rfl)
                        simp only [Act.put, List.getElem_toArray, List.getElem_cons_zero, List.getElem_cons_succ, List.setIfInBounds_toArray, List.set_cons_zero, List.set_cons_succ]
                        refine wpAnyH_take (i := 11) (v := ?v134) rfl (by kernel_rfl) (by kernel_rfl) (by kernel_rfl) (fun _ _ _ h => h) (Or.inl ⟨by rfl, ?hy134⟩) (by assumption) ?rest134
                        case hy134 => (intro w hSw; (try dsimp only at hSw); go_simp; try with_reducible rfl)
                        simp only [Act.put, List.getElem_toArray, List.getElem_cons_zero, List.getElem_cons_succ, List.setIfInBounds_toArray, List.set_cons_zero, List.set_cons_succ]
                        refine wpAnyH_ready (rs := [12]) (by kernel_rfl) (by simp) ?_
                        refine AllReadyH.cons rfl (fun K hK => ?_) AllReadyH.nil
                        go_simp
                        go_at_call 35
                        refine (CW.out _ _ _ _).mono ?_
                        rintro e w7 ⟨rfl, hbq⟩
                        dsimp only
                        simp only [hC]
                        refine hK.out _ _ ?_ (fun hHeld => ?_)
                        · (try dsimp only)
                          exact keepS.out _ _ (by assumption) hbq
                        clear hK K
                        try simp only [Act.put, List.getElem_toArray, List.getElem_cons_zero, List.getElem_cons_succ, List.setIfInBounds_toArray, List.set_cons_zero, List.set_cons_succ]
                        refine wpAnyH_take (i := 13) (v := ?v135) rfl (by kernel_rfl) (by kernel_rfl) (by kernel_rfl) (fun _ _ _ h => h) (Or.inl ⟨by rfl, ?hy135⟩) (by assumption) ?rest135
                        case hy135 => (intro w hSw; (try dsimp only at hSw); go_simp; try with_reducible rfl)
                        simp only [Act.put, List.getElem_toArray, List.getElem_cons_zero, List.getElem_cons_succ, List.setIfInBounds_toArray, List.set_cons_zero, List.set_cons_succ]
                        refine wpAnyH_take (i := 14) (v := ?v136) rfl (by kernel_rfl) (by kernel_rfl) (by kernel_rfl) (fun _ _ _ h => h) (Or.inl ⟨by rfl, ?hy136⟩) (by assumption) ?rest136
                        case hy136 => (intro w hSw; (try dsimp only at hSw); go_simp; try with_reducible rfl)
                        simp only [Act.put, List.getElem_toArray, List.getElem_cons_zero, List.getElem_cons_succ, List.setIfInBounds_toArray, List.set_cons_zero, List.set_cons_succ]
                        refine wpAnyH_take (i := 15) (v := ?v137) rfl (by kernel_rfl) (by kernel_rfl) (by kernel_rfl) (fun _ _ _ h => h) (Or.inl ⟨by rfl, ?hy137⟩) (by assumption) ?rest137
                        case hy137 => (intro w hSw; (try dsimp only at hSw); go_simp; try with_reducible rfl)
                        simp only [Act.put, List.getElem_toArray, List.getElem_cons_zero, List.getElem_cons_succ, List.setIfInBounds_toArray, List.set_cons_zero, List.set_cons_succ]
                        refine wpAnyH_take (i := 16) (v := ?v138) rfl (by kernel_rfl) (by kernel_rfl) (by kernel_rfl) (fun _ _ _ h => h) (Or.inl ⟨by rfl, ?hy138⟩) (by assumption) ?rest138
                        case hy138 => (intro w hSw; (try dsimp only at hSw); go_simp; try with_reducible rfl)
                        simp only [Act.put, List.getElem_toArray, List.getElem_cons_zero, List.getElem_cons_succ, List.setIfInBounds_toArray, List.set_cons_zero, List.set_cons_succ]
                        refine wpAnyH_take (i := 17) (v := ?v139) rfl (by kernel_rfl) (by kernel_rfl) (by kernel_rfl) (fun _ _ _ h => h) (Or.inl ⟨by rfl, ?hy139⟩) (by assumption) ?rest139
                        case hy139 => (intro w hSw; (try dsimp only at hSw); go_simp; try with_reducible rfl)
                        simp only [Act.put, List.getElem_toArray, List.getElem_cons_zero, List.getElem_cons_succ, List.setIfInBounds_toArray, List.set_cons_zero, List.set_cons_succ]
                        refine wpAnyH_take (i := 18) (v := ?v140) rfl (by kernel_rfl) (by kernel_rfl) (by kernel_rfl) (fun _ _ _ h => h) (Or.inl ⟨by rfl, ?hy140⟩) (by assumption) ?rest140
                        case hy140 => (intro w hSw; (try dsimp only at hSw); go_simp; try with_reducible rfl)
                        simp only [Act.put, List.getElem_toArray, List.getElem_cons_zero, List.getElem_cons_succ, List.setIfInBounds_toArray, List.set_cons_zero, List.set_cons_succ]
                        refine wpAnyH_take (i := 19) (v := ?v141) rfl (by kernel_rfl) (by kernel_rfl) (by kernel_rfl) (fun _ _ _ h => h) (Or.inl ⟨by rfl, ?hy141⟩) (by assumption) ?rest141
                        case hy141 => (intro w hSw; (try dsimp only at hSw); go_simp; try with_reducible rfl)
                        simp only [Act.put, List.getElem_toArray, List.getElem_cons_zero, List.getElem_cons_succ, List.setIfInBounds_toArray, List.set_cons_zero, List.set_cons_succ]
                        refine wpAnyH_ready (rs := [20]) (by kernel_rfl) (by simp) ?_
                        refine AllReadyH.cons rfl (fun K hK => ?_) AllReadyH.nil
                        go_simp
                        go_at_call 35
                        refine (CW.out _ _ _ _).mono ?_
                        rintro e w7 ⟨rfl, hbq⟩
                        dsimp only
                        simp only [hU]
                        refine hK.out _ _ ?_ (fun hHeld => ?_)
                        · (try dsimp only)
                          exact keepS.out _ _ (by assumption) hbq
                        clear hK K
                        try simp only [Act.put, List.getElem_toArray, List.getElem_cons_zero, List.getElem_cons_succ, List.setIfInBounds_toArray, List.set_cons_zero, List.set_cons_succ]
                        refine wpAnyH_take (i := 21) (v := ?v142) rfl (by kernel_rfl) (by kernel_rfl) (by kernel_rfl) (fun _ _ _ h => h) (Or.inl ⟨by rfl, ?hy142⟩) (by assumption) ?rest142
                        case hy142 => (intro w hSw; (try dsimp only at hSw); go_simp; try with_reducible rfl)
                        simp only [Act.put, List.getElem_toArray, List.getElem_cons_zero, List.getElem_cons_succ, List.setIfInBounds_toArray, List.set_cons_zero, List.set_cons_succ]
                        refine wpAnyH_take (i := 22) (v := ?v143) rfl (by kernel_rfl) (by kernel_rfl) (by kernel_rfl) (fun _ _ _ h => h) (Or.inl ⟨by rfl, ?hy143⟩) (by assumption) ?rest143
                        case hy143 => (intro w hSw; (try dsimp only at hSw); go_simp; try with_reducible rfl)
                        simp only [Act.put, List.getElem_toArray, List.getElem_cons_zero, List.getElem_cons_succ, List.setIfInBounds_toArray, List.set_cons_zero, List.set_cons_succ]
                        refine wpAnyH_take (i := 23) (v := ?v144) rfl (by kernel_rfl) (by kernel_rfl) (by kernel_rfl) (fun _ _ _ h => h) (Or.inl ⟨by rfl, ?hy144⟩) (by assumption) ?rest144
                        case hy144 => (intro w hSw; (try dsimp only at hSw); go_simp; try with_reducible rfl)
                        simp only [Act.put, List.getElem_toArray, List.getElem_cons_zero, List.getElem_cons_succ, List.setIfInBounds_toArray, List.set_cons_zero, List.set_cons_succ]
                        refine wpAnyH_take (i := 24) (v := ?v145) rfl (by kernel_rfl) (by kernel_rfl) (by kernel_rfl) (fun _ _ _ h => h) (Or.inl ⟨by rfl, ?hy145⟩) (by assumption) ?rest145
                        case hy145 => (intro w hSw; (try dsimp only at hSw); go_simp; try with_reducible rfl)
                        simp only [Act.put, List.getElem_toArray, List.getElem_cons_zero, List.getElem_cons_succ, List.setIfInBounds_toArray, List.set_cons_zero, List.set_cons_succ]
                        refine wpAnyH_take (i := 25) (v := ?v146) rfl (by kernel_rfl) (by kernel_rfl) (by kernel_rfl) (fun _ _ _ h => h) (Or.inl ⟨by rfl, ?hy146⟩) (by assumption) ?rest146
                        case hy146 => (intro w hSw; (try dsimp only at hSw); go_simp; try with_reducible rfl)
                        simp only [Act.put, List.getElem_toArray, List.getElem_cons_zero, List.getElem_cons_succ, List.setIfInBounds_toArray, List.set_cons_zero, List.set_cons_succ]
                        refine wpAnyH_take (i := 26) (v := ?v147) rfl (by kernel_rfl) (by kernel_rfl) (by kernel_rfl) (fun _ _ _ h => h) (Or.inl ⟨by rfl, ?hy147⟩) (by assumption) ?rest147
                        case hy147 => (intro w hSw; (try dsimp only at hSw); go_simp; try with_reducible rfl)
                        simp only [Act.put, List.getElem_toArray, List.getElem_cons_zero, List.getElem_cons_succ, List.setIfInBounds_toArray, List.set_cons_zero, List.set_cons_succ]
                        refine wpAnyH_take (i := 27) (v := ?v148) rfl (by kernel_rfl) (by kernel_rfl) (by kernel_rfl) (fun _ _ _ h => h) (Or.inl ⟨by rfl, ?hy148⟩) (by assumption) ?rest148
                        case hy148 => (intro w hSw; (try dsimp only at hSw); go_simp; try with_reducible rfl)
                        simp only [Act.put, List.getElem_toArray, List.getElem_cons_zero, List.getElem_cons_succ, List.setIfInBounds_toArray, List.set_cons_zero, List.set_cons_succ]
                        refine wpAnyH_take (i := 28) (v := ?v149) rfl (by kernel_rfl) (by kernel_rfl) (by kernel_rfl) (fun _ _ _ h => h) (Or.inl ⟨by rfl, ?hy149⟩) (by assumption) ?rest149
                        case hy149 => (intro w hSw; (try dsimp only at hSw); go_simp; try with_reducible rfl)
                        simp only [Act.put, List.getElem_toArray, List.getElem_cons_zero, List.getElem_cons_succ, List.setIfInBounds_toArray, List.set_cons_zero, List.set_cons_succ]
                        refine wpAnyH_take (i := 29) (v := ?v150) rfl (by kernel_rfl) (by kernel_rfl) (by kernel_rfl) (fun _ _ _ h => h) (Or.inl ⟨by rfl, ?hy150⟩) (by assumption) ?rest150
                        case hy150 => (intro w hSw; (try dsimp only at hSw); go_simp; try with_reducible rfl)
                        simp only [Act.put, List.getElem_toArray, List.getElem_cons_zero, List.getElem_cons_succ, List.setIfInBounds_toArray, List.set_cons_zero, List.set_cons_succ]
                        refine wpAnyH_take (i := 30) (v := ?v151) rfl (by kernel_rfl) (by kernel_rfl) (by kernel_rfl) (fun _ _ _ h => h) (Or.inl ⟨by rfl, ?hy151⟩) (by assumption) ?rest151
                        case hy151 => (intro w hSw; (try dsimp only at hSw); go_simp; try with_reducible rfl)
                        simp only [Act.put, List.getElem_toArray, List.getElem_cons_zero, List.getElem_cons_succ, List.setIfInBounds_toArray, List.set_cons_zero, List.set_cons_succ]
                        refine wpAnyH_take (i := 31) (v := ?v152) rfl (by kernel_rfl) (by kernel_rfl) (by kernel_rfl) (fun _ _ _ h => h) (Or.inl ⟨by rfl, ?hy152⟩) (by assumption) ?rest152
                        case hy152 => (intro w hSw; (try dsimp only at hSw); go_simp; try with_reducible rfl)
                        simp only [Act.put, List.getElem_toArray, List.getElem_cons_zero, List.getElem_cons_succ, List.setIfInBounds_toArray, List.set_cons_zero, List.set_cons_succ]
                        refine wpAnyH_take (i := 32) (v := ?v153) rfl (by kernel_rfl) (by kernel_rfl) (by kernel_rfl) (fun _ _ _ h => h) (Or.inl ⟨by rfl, ?hy153⟩) (by assumption) ?rest153
                        case hy153 => (intro w hSw; (try dsimp only at hSw); go_simp; try with_reducible rfl)
                        simp only [Act.put, List.getElem_toArray, List.getElem_cons_zero, List.getElem_cons_succ, List.setIfInBounds_toArray, List.set_cons_zero, List.set_cons_succ]
                        refine wpAnyH_take (i := 33) (v := ?v154) rfl (by kernel_rfl) (by kernel_rfl) (by kernel_rfl) (fun _ _ _ h => h) (Or.inl ⟨by rfl, ?hy154⟩) (by assumption) ?rest154
                        case hy154 => (intro w hSw; (try dsimp only at hSw); go_simp; try with_reducible rfl)
                        simp only [Act.put, List.getElem_toArray, List.getElem_cons_zero, List.getElem_cons_succ, List.setIfInBounds_toArray, List.set_cons_zero, List.set_cons_succ]
                        refine wpAnyH_take (i := 34) (v := ?v155) rfl (by kernel_rfl) (by kernel_rfl) (by kernel_rfl) (fun _ _ _ h => h) (Or.inl ⟨by rfl, ?hy155⟩) (by assumption) ?rest155
                        case hy155 => (intro w hSw; (try dsimp only at hSw); go_simp; try with_reducible rfl)
                        simp only [Act.put, List.getElem_toArray, List.getElem_cons_zero, List.getElem_cons_succ, List.setIfInBounds_toArray, List.set_cons_zero, List.set_cons_succ]
                        refine wpAnyH_take (i := 35) (v := ?v156) rfl (by kernel_rfl) (by kernel_rfl) (by kernel_rfl) (fun _ _ _ h => h) (Or.inl ⟨by rfl, ?hy156⟩) (by assumption) ?rest156
                        case hy156 => (intro w hSw; (try dsimp only at hSw); go_simp; try with_reducible rfl)
                        simp only [Act.put, List.getElem_toArray, List.getElem_cons_zero, List.getElem_cons_succ, List.setIfInBounds_toArray, List.set_cons_zero, List.set_cons_succ]
                        refine wpAnyH_take (i := 36) (v := ?v157) rfl (by kernel_rfl) (by kernel_rfl) (by kernel_rfl) (fun _ _ _ h => h) (Or.inl ⟨by rfl, ?hy157⟩) (by assumption) ?rest157
                        case hy157 => (intro w hSw; (try dsimp only at hSw); go_simp; try with_reducible rfl)
                        simp only [Act.put, List.getElem_toArray, List.getElem_cons_zero, List.getElem_cons_succ, List.setIfInBounds_toArray, List.set_cons_zero, List.set_cons_succ]
                        refine wpAnyH_take (i := 37) (v := ?v158) rfl (by kernel_rfl) (by kernel_rfl) (by kernel_rfl) (fun _ _ _ h => h) (Or.inl ⟨by rfl, ?hy158⟩) (by assumption) ?rest158
                        case hy158 => (intro w hSw; (try dsimp only at hSw); go_simp; try with_reducible rfl)
                        simp only [Act.put, List.getElem_toArray, List.getElem_cons_zero, List.getElem_cons_succ, List.setIfInBounds_toArray, List.set_cons_zero, List.set_cons_succ]
                        refine wpAnyH_take (i := 38) (v := ?v159) rfl (by kernel_rfl) (by kernel_rfl) (by kernel_rfl) (fun _ _ _ h => h) (Or.inl ⟨by rfl, ?hy159⟩) (by assumption) ?rest159
                        case hy159 => (intro w hSw; (try dsimp only at hSw); go_simp; try with_reducible rfl)
                        simp only [Act.put, List.getElem_toArray, List.getElem_cons_zero, List.getElem_cons_succ, List.setIfInBounds_toArray, List.set_cons_zero, List.set_cons_succ]
                        refine wpAnyH_take (i := 39) (v := ?v160) rfl (by kernel_rfl) (by kernel_rfl) (by kernel_rfl) (fun _ _ _ h => h) (Or.inl ⟨by rfl, ?hy160⟩) (by assumption) ?rest160
                        case hy160 => (intro w hSw; (try dsimp only at hSw); go_simp; try with_reducible rfl)
                        simp only [Act.put, List.getElem_toArray, List.getElem_cons_zero, List.getElem_cons_succ, List.setIfInBounds_toArray, List.set_cons_zero, List.set_cons_succ]
                        refine wpAnyH_take (i := 40) (v := ?v161) rfl (by kernel_rfl) (by kernel_rfl) (by kernel_rfl) (fun _ _ _ h => h) (Or.inl ⟨by rfl, ?hy161⟩) (by assumption) ?rest161
                        case hy161 => (intro w hSw; (try dsimp only at hSw); go_simp; try with_reducible rfl)
                        simp only [Act.put, List.getElem_toArray, List.getElem_cons_zero, List.getElem_cons_succ, List.setIfInBounds_toArray, List.set_cons_zero, List.set_cons_succ]
                        refine wpAnyH_take (i := 41) (v := ?v162) rfl (by kernel_rfl) (by kernel_rfl) (by kernel_rfl) (fun _ _ _ h => h) (Or.inl ⟨by rfl, ?hy162⟩) (by assumption) ?rest162
                        case hy162 => (intro w hSw; (try dsimp only at hSw); go_simp; try with_reducible rfl)
                        simp only [Act.put, List.getElem_toArray, List.getElem_cons_zero, List.getElem_cons_succ, List.setIfInBounds_toArray, List.set_cons_zero, List.set_cons_succ]
                        refine wpAnyH_take (i := 42) (v := ?v163) rfl (by kernel_rfl) (by kernel_rfl) (by kernel_rfl) (fun _ _ _ h => h) (Or.inl ⟨by rfl, ?hy163⟩) (by assumption) ?rest163
                        case hy163 => (intro w hSw; (try dsimp only at hSw); go_simp; try with_reducible rfl)
                        simp only [Act.put, List.getElem_toArray, List.getElem_cons_zero, List.getElem_cons_succ, List.setIfInBounds_toArray, List.set_cons_zero, List.set_cons_succ]
                        refine wpAnyH_take (i := 43) (v := ?v164) rfl (by kernel_rfl) (by kernel_rfl) (by kernel_rfl) (fun _ _ _ h => h) (Or.inl ⟨by rfl, ?hy164⟩) (by assumption) ?rest164
                        case hy164 => (intro w hSw; (try dsimp only at hSw); go_simp; try with_reducible rfl)
                        simp only [Act.put, List.getElem_toArray, List.getElem_cons_zero, List.getElem_cons_succ, List.setIfInBounds_toArray, List.set_cons_zero, List.set_cons_succ]
                        refine wpAnyH_done (by kernel_rfl) ?_ _
                        obtain ⟨hb9, f0, f1, f2, f3, f4, f5, f6, f7, m0, m1, m2, m3, _⟩ := hHeld
                        have hnm9 := hnm8.kept hb9 (by omega)
                        have hz9 := hb9.size
                        repeat' ((fail_if_success at_mapUpdate); (fail_if_success at_builtin); (first | go_skip | go_guarded | go_step))
                        refine wpList_mapUpdate_own _ rfl _ _ _ 68 rfl 70 4 nmLaw Tryd.underlying68 trueE (w.heap.size + 1) _ _ rfl hnm9 (by refine Nat.lt_of_le_of_lt (List.length_take_le _ _) ?_; unfold maxLen; omega) _ _ (klOf x) rfl rfl hkey.out (.lit (.bool true)) [] rfl ?_
                        intro w10 hown10 hg10
                        repeat' ((fail_if_success at_builtin); (first | go_skip | go_guarded | go_step))
                        go_roundw
                        case rel => exact ⟨k + 1 + 1, by omega, by go_num, hgok.out, hgr8.out.trans ((Below.grownB hb9 _).trans hg10), htk.out ▸ Names.snoc hown10⟩
                        case measure => simp [intOf]; omega
                      · have hp' : x.created < y.created := by omega
                        have hbad : errV z l = 1 := errV_bad (validS_bad hx.out (by rw [hgb, decide_eq_false hp]))
                        replace hbad := Lib.hid hbad
                        replace hgb := Lib.hid hgb
                        have hS : ∀ w', Below w8.heap.size w8 w' → Below w8.heap.size w8 w' ∧ w'.cell? ⟨wr.heap.size, 0, none⟩ = some (.string x.sc.prj) ∧ w'.cell? ⟨wr.heap.size, 1, none⟩ = some (.int .i64 x.sc.trust) ∧ w'.cell? ⟨wr.heap.size, 2, none⟩ = some (.string x.sc.ref) ∧ w'.cell? ⟨wr.heap.size, 3, none⟩ = some (.string x.key) ∧ w'.cell? ⟨wr.heap.size, 4, none⟩ = some (.int .u64 x.dig) ∧ w'.cell? ⟨wr.heap.size, 5, none⟩ = some (.int .i64 x.size) ∧ w'.cell? ⟨wr.heap.size, 6, none⟩ = some (.int .i64 x.created) ∧ w'.cell? ⟨wr.heap.size, 7, none⟩ = some (.int .i64 x.used) ∧ w'.cell? ⟨wr.heap.size + 1, 0, none⟩ = some (.string x.sc.prj) ∧ w'.cell? ⟨wr.heap.size + 1, 1, none⟩ = some (.int .i64 x.sc.trust) ∧ w'.cell? ⟨wr.heap.size + 1, 2, none⟩ = some (.string x.sc.ref) ∧ w'.cell? ⟨wr.heap.size + 1, 3, none⟩ = some (.string x.key) ∧ w'.cell? ⟨w.heap.size, 1, none⟩ = some (.slice (some ⟨b, o, none⟩) n c) ∧ (Instr.lookup 68 (.map (some (w.heap.size + 1))) (.agg #[.string x.sc.prj, .int .i64 x.sc.trust, .string x.sc.ref, .string x.key]) false).run Tryd.prog w' = .ok (.bool false) w' ∧ w'.cell? ⟨b, o + k * 8 + 6, none⟩ = some (.int .i64 y.created) := fun w' hb => ⟨hb, (hb.cell (p := ⟨wr.heap.size, 0, none⟩) le).trans e0, (hb.cell (p := ⟨wr.heap.size, 1, none⟩) le).trans e1, (hb.cell (p := ⟨wr.heap.size, 2, none⟩) le).trans e2, (hb.cell (p := ⟨wr.heap.size, 3, none⟩) le).trans e3, (hb.cell (p := ⟨wr.heap.size, 4, none⟩) le).trans e4, (hb.cell (p := ⟨wr.heap.size, 5, none⟩) le).trans e5, (hb.cell (p := ⟨wr.heap.size, 6, none⟩) le).trans e6, (hb.cell (p := ⟨wr.heap.size, 7, none⟩) le).trans e7, (hb.cell (p := ⟨wr.heap.size + 1, 0, none⟩) ln).trans n0, (hb.cell (p := ⟨wr.heap.size + 1, 1, none⟩) ln).trans n1, (hb.cell (p := ⟨wr.heap.size + 1, 2, none⟩) ln).trans n2, (hb.cell (p := ⟨wr.heap.size + 1, 3, none⟩) ln).trans n3, (hb.cell (p := ⟨w.heap.size, 1, none⟩) l1).trans q1, hlook w' hb, (hb.cell (p := ⟨b, o + k * 8 + 6, none⟩) lb).trans yp⟩
                        have keepS : ∀ w' w'', (Below w8.heap.size w8 w' ∧ w'.cell? ⟨wr.heap.size, 0, none⟩ = some (.string x.sc.prj) ∧ w'.cell? ⟨wr.heap.size, 1, none⟩ = some (.int .i64 x.sc.trust) ∧ w'.cell? ⟨wr.heap.size, 2, none⟩ = some (.string x.sc.ref) ∧ w'.cell? ⟨wr.heap.size, 3, none⟩ = some (.string x.key) ∧ w'.cell? ⟨wr.heap.size, 4, none⟩ = some (.int .u64 x.dig) ∧ w'.cell? ⟨wr.heap.size, 5, none⟩ = some (.int .i64 x.size) ∧ w'.cell? ⟨wr.heap.size, 6, none⟩ = some (.int .i64 x.created) ∧ w'.cell? ⟨wr.heap.size, 7, none⟩ = some (.int .i64 x.used) ∧ w'.cell? ⟨wr.heap.size + 1, 0, none⟩ = some (.string x.sc.prj) ∧ w'.cell? ⟨wr.heap.size + 1, 1, none⟩ = some (.int .i64 x.sc.trust) ∧ w'.cell? ⟨wr.heap.size + 1, 2, none⟩ = some (.string x.sc.ref) ∧ w'.cell? ⟨wr.heap.size + 1, 3, none⟩ = some (.string x.key) ∧ w'.cell? ⟨w.heap.size, 1, none⟩ = some (.slice (some ⟨b, o, none⟩) n c) ∧ (Instr.lookup 68 (.map (some (w.heap.size + 1))) (.agg #[.string x.sc.prj, .int .i64 x.sc.trust, .string x.sc.ref, .string x.key]) false).run Tryd.prog w' = .ok (.bool false) w' ∧ w'.cell? ⟨b, o + k * 8 + 6, none⟩ = some (.int .i64 y.created)) → Below w'.heap.size w' w'' → (Below w8.heap.size w8 w'' ∧ w''.cell? ⟨wr.heap.size, 0, none⟩ = some (.string x.sc.prj) ∧ w''.cell? ⟨wr.heap.size, 1, none⟩ = some (.int .i64 x.sc.trust) ∧ w''.cell? ⟨wr.heap.size, 2, none⟩ = some (.string x.sc.ref) ∧ w''.cell? ⟨wr.heap.size, 3, none⟩ = some (.string x.key) ∧ w''.cell? ⟨wr.heap.size, 4, none⟩ = some (.int .u64 x.dig) ∧ w''.cell? ⟨wr.heap.size, 5, none⟩ = some (.int .i64 x.size) ∧ w''.cell? ⟨wr.heap.size, 6, none⟩ = some (.int .i64 x.created) ∧ w''.cell? ⟨wr.heap.size, 7, none⟩ = some (.int .i64 x.used) ∧ w''.cell? ⟨wr.heap.size + 1, 0, none⟩ = some (.string x.sc.prj) ∧ w''.cell? ⟨wr.heap.size + 1, 1, none⟩ = some (.int .i64 x.sc.trust) ∧ w''.cell? ⟨wr.heap.size + 1, 2, none⟩ = some (.string x.sc.ref) ∧ w''.cell? ⟨wr.heap.size + 1, 3, none⟩ = some (.string x.key) ∧ w''.cell? ⟨w.heap.size, 1, none⟩ = some (.slice (some ⟨b, o, none⟩) n c) ∧ (Instr.lookup 68 (.map (some (w.heap.size + 1))) (.agg #[.string x.sc.prj, .int .i64 x.sc.trust, .string x.sc.ref, .string x.key]) false).run Tryd.prog w'' = .ok (.bool false) w'' ∧ w''.cell? ⟨b, o + k * 8 + 6, none⟩ = some (.int .i64 y.created)) := fun w' w'' h hc => hS w'' (h.1.trans (hc.mono h.1.size))
                        have CN2 := fun w' (h : Below w8.heap.size w8 w' ∧ w'.cell? ⟨wr.heap.size, 0, none⟩ = some (.string x.sc.prj) ∧ w'.cell? ⟨wr.heap.size, 1, none⟩ = some (.int .i64 x.sc.trust) ∧ w'.cell? ⟨wr.heap.size, 2, none⟩ = some (.string x.sc.ref) ∧ w'.cell? ⟨wr.heap.size, 3, none⟩ = some (.string x.key) ∧ w'.cell? ⟨wr.heap.size, 4, none⟩ = some (.int .u64 x.dig) ∧ w'.cell? ⟨wr.heap.size, 5, none⟩ = some (.int .i64 x.size) ∧ w'.cell? ⟨wr.heap.size, 6, none⟩ = some (.int .i64 x.created) ∧ w'.cell? ⟨wr.heap.size, 7, none⟩ = some (.int .i64 x.used) ∧ w'.cell? ⟨wr.heap.size + 1, 0, none⟩ = some (.string x.sc.prj) ∧ w'.cell? ⟨wr.heap.size + 1, 1, none⟩ = some (.int .i64 x.sc.trust) ∧ w'.cell? ⟨wr.heap.size + 1, 2, none⟩ = some (.string x.sc.ref) ∧ w'.cell? ⟨wr.heap.size + 1, 3, none⟩ = some (.string x.key) ∧ w'.cell? ⟨w.heap.size, 1, none⟩ = some (.slice (some ⟨b, o, none⟩) n c) ∧ (Instr.lookup 68 (.map (some (w.heap.size + 1))) (.agg #[.string x.sc.prj, .int .i64 x.sc.trust, .string x.sc.ref, .string x.key]) false).run Tryd.prog w' = .ok (.bool false) w' ∧ w'.cell? ⟨b, o + k * 8 + 6, none⟩ = some (.int .i64 y.created)) => CN w' h.1
                        have hS1 : Below w8.heap.size w8 w8.drew ∧ w8.drew.cell? ⟨wr.heap.size, 0, none⟩ = some (.string x.sc.prj) ∧ w8.drew.cell? ⟨wr.heap.size, 1, none⟩ = some (.int .i64 x.sc.trust) ∧ w8.drew.cell? ⟨wr.heap.size, 2, none⟩ = some (.string x.sc.ref) ∧ w8.drew.cell? ⟨wr.heap.size, 3, none⟩ = some (.string x.key) ∧ w8.drew.cell? ⟨wr.heap.size, 4, none⟩ = some (.int .u64 x.dig) ∧ w8.drew.cell? ⟨wr.heap.size, 5, none⟩ = some (.int .i64 x.size) ∧ w8.drew.cell? ⟨wr.heap.size, 6, none⟩ = some (.int .i64 x.created) ∧ w8.drew.cell? ⟨wr.heap.size, 7, none⟩ = some (.int .i64 x.used) ∧ w8.drew.cell? ⟨wr.heap.size + 1, 0, none⟩ = some (.string x.sc.prj) ∧ w8.drew.cell? ⟨wr.heap.size + 1, 1, none⟩ = some (.int .i64 x.sc.trust) ∧ w8.drew.cell? ⟨wr.heap.size + 1, 2, none⟩ = some (.string x.sc.ref) ∧ w8.drew.cell? ⟨wr.heap.size + 1, 3, none⟩ = some (.string x.key) ∧ w8.drew.cell? ⟨w.heap.size, 1, none⟩ = some (.slice (some ⟨b, o, none⟩) n c) ∧ (Instr.lookup 68 (.map (some (w.heap.size + 1))) (.agg #[.string x.sc.prj, .int .i64 x.sc.trust, .string x.sc.ref, .string x.key]) false).run Tryd.prog w8.drew = .ok (.bool false) w8.drew ∧ w8.drew.cell? ⟨b, o + k * 8 + 6, none⟩ = some (.int .i64 y.created) := hS w8.drew (Below.refl _ _).drew
                        have hS0 : Below w8.heap.size w8 w8 ∧ w8.cell? ⟨wr.heap.size, 0, none⟩ = some (.string x.sc.prj) ∧ w8.cell? ⟨wr.heap.size, 1, none⟩ = some (.int .i64 x.sc.trust) ∧ w8.cell? ⟨wr.heap.size, 2, none⟩ = some (.string x.sc.ref) ∧ w8.cell? ⟨wr.heap.size, 3, none⟩ = some (.string x.key) ∧ w8.cell? ⟨wr.heap.size, 4, none⟩ = some (.int .u64 x.dig) ∧ w8.cell? ⟨wr.heap.size, 5, none⟩ = some (.int .i64 x.size) ∧ w8.cell? ⟨wr.heap.size, 6, none⟩ = some (.int .i64 x.created) ∧ w8.cell? ⟨wr.heap.size, 7, none⟩ = some (.int .i64 x.used) ∧ w8.cell? ⟨wr.heap.size + 1, 0, none⟩ = some (.string x.sc.prj) ∧ w8.cell? ⟨wr.heap.size + 1, 1, none⟩ = some (.int .i64 x.sc.trust) ∧ w8.cell? ⟨wr.heap.size + 1, 2, none⟩ = some (.string x.sc.ref) ∧ w8.cell? ⟨wr.heap.size + 1, 3, none⟩ = some (.string x.key) ∧ w8.cell? ⟨w.heap.size, 1, none⟩ = some (.slice (some ⟨b, o, none⟩) n c) ∧ (Instr.lookup 68 (.map (some (w.heap.size + 1))) (.agg #[.string x.sc.prj, .int .i64 x.sc.trust, .string x.sc.ref, .string x.key]) false).run Tryd.prog w8 = .ok (.bool false) w8 ∧ w8.cell? ⟨b, o + k * 8 + 6, none⟩ = some (.int .i64 y.created) := hS w8 (Below.refl _ _)
                        replace keepS := Lib.hid keepS
                        replace CN2 := Lib.hid CN2
                        clear hS
                        refine wp_region_held_drew (S := fun w' => Below w8.heap.size w8 w' ∧ w'.cell? ⟨wr.heap.size, 0, none⟩ = some (.string x.sc.prj) ∧ w'.cell? ⟨wr.heap.size, 1, none⟩ = some (.int .i64 x.sc.trust) ∧ w'.cell? ⟨wr.heap.size, 2, none⟩ = some (.string x.sc.ref) ∧ w'.cell? ⟨wr.heap.size, 3, none⟩ = some (.string x.key) ∧ w'.cell? ⟨wr.heap.size, 4, none⟩ = some (.int .u64 x.dig) ∧ w'.cell? ⟨wr.heap.size, 5, none⟩ = some (.int .i64 x.size) ∧ w'.cell? ⟨wr.heap.size, 6, none⟩ = some (.int .i64 x.created) ∧ w'.cell? ⟨wr.heap.size, 7, none⟩ = some (.int .i64 x.used) ∧ w'.cell? ⟨wr.heap.size + 1, 0, none⟩ = some (.string x.sc.prj) ∧ w'.cell? ⟨wr.heap.size + 1, 1, none⟩ = some (.int .i64 x.sc.trust) ∧ w'.cell? ⟨wr.heap.size + 1, 2, none⟩ = some (.string x.sc.ref) ∧ w'.cell? ⟨wr.heap.size + 1, 3, none⟩ = some (.string x.key) ∧ w'.cell? ⟨w.heap.size, 1, none⟩ = some (.slice (some ⟨b, o, none⟩) n c) ∧ (Instr.lookup 68 (.map (some (w.heap.size + 1))) (.agg #[.string x.sc.prj, .int .i64 x.sc.trust, .string x.sc.ref, .string x.key]) false).run Tryd.prog w' = .ok (.bool false) w' ∧ w'.cell? ⟨b, o + k * 8 + 6, none⟩ = some (.int .i64 y.created)) (by kernel_rfl) ?_ (fun hHeld => ?_)
                        · (try dsimp only)
                          exact hS1
                        refine wpAnyH_take (i := 0) (v := ?v165) rfl (by kernel_rfl) (by kernel_rfl) (by kernel_rfl) (fun _ _ _ h => h) (Or.inl ⟨by rfl, ?hy165⟩) (by assumption) ?rest165
                        case hy165 => (intro w hSw; (try dsimp only at hSw); go_simp; try with_reducible rfl)
                        simp only [Act.put, List.getElem_toArray, List.getElem_cons_zero, List.setIfInBounds_toArray, List.set_cons_zero, List.set_cons_succ]
                        refine wpAnyH_ready (rs := [1]) (by kernel_rfl) (by simp) ?_
                        refine AllReadyH.cons rfl (fun K hK => ?_) AllReadyH.nil
                        go_simp
                        go_at_call 36
                        refine (CN2.out _ (by assumption)).mono ?_
                        rintro e w7 ⟨rfl, hbq⟩
                        dsimp only
                        simp only [hN]
                        refine hK.out _ _ ?_ (fun hHeld => ?_)
                        · (try dsimp only)
                          exact keepS.out _ _ (by assumption) hbq
                        clear hK K
                        try simp only [Act.put, List.getElem_toArray, List.getElem_cons_zero, List.getElem_cons_succ, List.setIfInBounds_toArray, List.set_cons_zero, List.set_cons_succ]
                        refine wpAnyH_take (i := 2) (v := ?v166) rfl (by kernel_rfl) (by kernel_rfl) (by kernel_rfl) (fun _ _ _ h => h) (Or.inl ⟨by rfl, ?hy166⟩) (by assumption) ?rest166
                        case hy166 => (intro w hSw; (try dsimp only at hSw); go_simp; try with_reducible rfl)
                        simp only [Act.put, List.getElem_toArray, List.getElem_cons_zero, List.getElem_cons_succ, List.setIfInBounds_toArray, List.set_cons_zero, List.set_cons_succ]
                        refine wpAnyH_take (i := 3) (v := ?v167) rfl (by kernel_rfl) (by kernel_rfl) (by kernel_rfl) (fun _ _ _ h => h) (Or.inl ⟨by rfl, ?hy167⟩) (by assumption) ?rest167
                        case hy167 => (intro w hSw; (try dsimp only at hSw); go_simp; try with_reducible rfl)
                        simp only [Act.put, List.getElem_toArray, List.getElem_cons_zero, List.getElem_cons_succ, List.setIfInBounds_toArray, List.set_cons_zero, List.set_cons_succ]
                        refine wpAnyH_take (i := 4) (v := ?v168) rfl (by kernel_rfl) (by kernel_rfl) (by kernel_rfl) (fun _ _ _ h => h) (Or.inl ⟨by rfl, ?hy168⟩) (by assumption) ?rest168
                        case hy168 => (intro w hSw; (try dsimp only at hSw); go_simp; try with_reducible rfl)
                        simp only [Act.put, List.getElem_toArray, List.getElem_cons_zero, List.getElem_cons_succ, List.setIfInBounds_toArray, List.set_cons_zero, List.set_cons_succ]
                        refine wpAnyH_take (i := 5) (v := ?v169) rfl (by kernel_rfl) (by kernel_rfl) (by kernel_rfl) (fun _ _ _ h => h) (Or.inl ⟨by rfl, ?hy169⟩) (by assumption) ?rest169
                        case hy169 => (intro w hSw; (try dsimp only at hSw); go_simp; try with_reducible rfl)
                        simp only [Act.put, List.getElem_toArray, List.getElem_cons_zero, List.getElem_cons_succ, List.setIfInBounds_toArray, List.set_cons_zero, List.set_cons_succ]
                        refine wpAnyH_ready (rs := [6]) (by kernel_rfl) (by simp) ?_
                        refine AllReadyH.cons rfl (fun K hK => ?_) AllReadyH.nil
                        go_simp
                        go_at_call 35
                        refine (CW.out _ _ _ _).mono ?_
                        rintro e w7 ⟨rfl, hbq⟩
                        dsimp only
                        simp only [hZ]
                        refine hK.out _ _ ?_ (fun hHeld => ?_)
                        · (try dsimp only)
                          exact keepS.out _ _ (by assumption) hbq
                        clear hK K
                        try simp only [Act.put, List.getElem_toArray, List.getElem_cons_zero, List.getElem_cons_succ, List.setIfInBounds_toArray, List.set_cons_zero, List.set_cons_succ]
                        refine wpAnyH_take (i := 7) (v := ?v170) rfl (by kernel_rfl) (by kernel_rfl) (by kernel_rfl) (fun _ _ _ h => h) (Or.inl ⟨by rfl, ?hy170⟩) (by assumption) ?rest170
                        case hy170 => (intro w hSw; (try dsimp only at hSw); go_simp; try with_reducible rfl)
                        simp only [Act.put, List.getElem_toArray, List.getElem_cons_zero, List.getElem_cons_succ, List.setIfInBounds_toArray, List.set_cons_zero, List.set_cons_succ]
                        refine wpAnyH_take (i := 8) (v := ?v171) rfl (by kernel_rfl) (by kernel_rfl) (by kernel_rfl) (fun _ _ _ h => h) (Or.inl ⟨by rfl, ?hy171⟩) (by assumption) ?rest171
                        case hy171 => (intro w hSw; (try dsimp only at hSw); go_simp; try with_reducible rfl)
                        simp only [Act.put, List.getElem_toArray, List.getElem_cons_zero, List.getElem_cons_succ, List.setIfInBounds_toArray, List.set_cons_zero, List.set_cons_succ]
                        refine wpAnyH_take (i := 9) (v := ?v172) rfl (by kernel_rfl) (by kernel_rfl) (by kernel_rfl) (fun _ _ _ h => h) (Or.inl ⟨by rfl, ?hy172⟩) (by assumption) ?rest172
                        case hy172 => (intro w hSw; (try dsimp only at hSw); go_simp; try with_reducible rfl)
                        simp only [Act.put, List.getElem_toArray, List.getElem_cons_zero, List.getElem_cons_succ, List.setIfInBounds_toArray, List.set_cons_zero, List.set_cons_succ]
                        refine wpAnyH_take (i := 10) (v := ?v173) rfl (by kernel_rfl) (by kernel_rfl) (by kernel_rfl) (fun _ _ _ h => h) (Or.inl ⟨by rfl, ?hy173⟩) (by assumption) ?rest173
                        case hy173 => (intro w hSw; (try dsimp only at hSw); go_simp; try with_reducible rfl)
                        simp only [Act.put, List.getElem_toArray, List.getElem_cons_zero, List.getElem_cons_succ, List.setIfInBounds_toArray, List.set_cons_zero, List.set_cons_succ]
                        refine wpAnyH_take (i := 11) (v := ?v174) rfl (by kernel_rfl) (by kernel_rfl) (by kernel_rfl) (fun _ _ _ h => h) (Or.inl ⟨by rfl, ?hy174⟩) (by assumption) ?rest174
                        case hy174 => (intro w hSw; (try dsimp only at hSw); go_simp; try with_reducible rfl)
                        simp only [Act.put, List.getElem_toArray, List.getElem_cons_zero, List.getElem_cons_succ, List.setIfInBounds_toArray, List.set_cons_zero, List.set_cons_succ]
                        refine wpAnyH_ready (rs := [12]) (by kernel_rfl) (by simp) ?_
                        refine AllReadyH.cons rfl (fun K hK => ?_) AllReadyH.nil
                        go_simp
                        go_at_call 35
                        refine (CW.out _ _ _ _).mono ?_
                        rintro e w7 ⟨rfl, hbq⟩
                        dsimp only
                        simp only [hC]
                        refine hK.out _ _ ?_ (fun hHeld => ?_)
                        · (try dsimp only)
                          exact keepS.out _ _ (by assumption) hbq
                        clear hK K
                        try simp only [Act.put, List.getElem_toArray, List.getElem_cons_zero, List.getElem_cons_succ, List.setIfInBounds_toArray, List.set_cons_zero, List.set_cons_succ]
                        refine wpAnyH_take (i := 13) (v := ?v175) rfl (by kernel_rfl) (by kernel_rfl) (by kernel_rfl) (fun _ _ _ h => h) (Or.inl ⟨by rfl, ?hy175⟩) (by assumption) ?rest175
                        case hy175 => (intro w hSw; (try dsimp only at hSw); go_simp; try with_reducible rfl)
                        simp only [Act.put, List.getElem_toArray, List.getElem_cons_zero, List.getElem_cons_succ, List.setIfInBounds_toArray, List.set_cons_zero, List.set_cons_succ]
                        refine wpAnyH_take (i := 14) (v := ?v176) rfl (by kernel_rfl) (by kernel_rfl) (by kernel_rfl) (fun _ _ _ h => h) (Or.inl ⟨by rfl, ?hy176⟩) (by assumption) ?rest176
                        case hy176 => (intro w hSw; (try dsimp only at hSw); go_simp; try with_reducible rfl)
                        simp only [Act.put, List.getElem_toArray, List.getElem_cons_zero, List.getElem_cons_succ, List.setIfInBounds_toArray, List.set_cons_zero, List.set_cons_succ]
                        refine wpAnyH_take (i := 15) (v := ?v177) rfl (by kernel_rfl) (by kernel_rfl) (by kernel_rfl) (fun _ _ _ h => h) (Or.inl ⟨by rfl, ?hy177⟩) (by assumption) ?rest177
                        case hy177 => (intro w hSw; (try dsimp only at hSw); go_simp; try with_reducible rfl)
                        simp only [Act.put, List.getElem_toArray, List.getElem_cons_zero, List.getElem_cons_succ, List.setIfInBounds_toArray, List.set_cons_zero, List.set_cons_succ]
                        refine wpAnyH_take (i := 16) (v := ?v178) rfl (by kernel_rfl) (by kernel_rfl) (by kernel_rfl) (fun _ _ _ h => h) (Or.inl ⟨by rfl, ?hy178⟩) (by assumption) ?rest178
                        case hy178 => (intro w hSw; (try dsimp only at hSw); go_simp; try with_reducible rfl)
                        simp only [Act.put, List.getElem_toArray, List.getElem_cons_zero, List.getElem_cons_succ, List.setIfInBounds_toArray, List.set_cons_zero, List.set_cons_succ]
                        refine wpAnyH_take (i := 17) (v := ?v179) rfl (by kernel_rfl) (by kernel_rfl) (by kernel_rfl) (fun _ _ _ h => h) (Or.inl ⟨by rfl, ?hy179⟩) (by assumption) ?rest179
                        case hy179 => (intro w hSw; (try dsimp only at hSw); go_simp; try with_reducible rfl)
                        simp only [Act.put, List.getElem_toArray, List.getElem_cons_zero, List.getElem_cons_succ, List.setIfInBounds_toArray, List.set_cons_zero, List.set_cons_succ]
                        refine wpAnyH_take (i := 18) (v := ?v180) rfl (by kernel_rfl) (by kernel_rfl) (by kernel_rfl) (fun _ _ _ h => h) (Or.inl ⟨by rfl, ?hy180⟩) (by assumption) ?rest180
                        case hy180 => (intro w hSw; (try dsimp only at hSw); go_simp; try with_reducible rfl)
                        simp only [Act.put, List.getElem_toArray, List.getElem_cons_zero, List.getElem_cons_succ, List.setIfInBounds_toArray, List.set_cons_zero, List.set_cons_succ]
                        refine wpAnyH_take (i := 19) (v := ?v181) rfl (by kernel_rfl) (by kernel_rfl) (by kernel_rfl) (fun _ _ _ h => h) (Or.inl ⟨by rfl, ?hy181⟩) (by assumption) ?rest181
                        case hy181 => (intro w hSw; (try dsimp only at hSw); go_simp; try with_reducible rfl)
                        simp only [Act.put, List.getElem_toArray, List.getElem_cons_zero, List.getElem_cons_succ, List.setIfInBounds_toArray, List.set_cons_zero, List.set_cons_succ]
                        refine wpAnyH_ready (rs := [20]) (by kernel_rfl) (by simp) ?_
                        refine AllReadyH.cons rfl (fun K hK => ?_) AllReadyH.nil
                        go_simp
                        go_at_call 35
                        refine (CW.out _ _ _ _).mono ?_
                        rintro e w7 ⟨rfl, hbq⟩
                        dsimp only
                        simp only [hU]
                        refine hK.out _ _ ?_ (fun hHeld => ?_)
                        · (try dsimp only)
                          exact keepS.out _ _ (by assumption) hbq
                        clear hK K
                        try simp only [Act.put, List.getElem_toArray, List.getElem_cons_zero, List.getElem_cons_succ, List.setIfInBounds_toArray, List.set_cons_zero, List.set_cons_succ]
                        refine wpAnyH_take (i := 21) (v := ?v182) rfl (by kernel_rfl) (by kernel_rfl) (by kernel_rfl) (fun _ _ _ h => h) (Or.inl ⟨by rfl, ?hy182⟩) (by assumption) ?rest182
                        case hy182 => (intro w hSw; (try dsimp only at hSw); go_simp; try with_reducible rfl)
                        simp only [Act.put, List.getElem_toArray, List.getElem_cons_zero, List.getElem_cons_succ, List.setIfInBounds_toArray, List.set_cons_zero, List.set_cons_succ]
                        refine wpAnyH_take (i := 22) (v := ?v183) rfl (by kernel_rfl) (by kernel_rfl) (by kernel_rfl) (fun _ _ _ h => h) (Or.inl ⟨by rfl, ?hy183⟩) (by assumption) ?rest183
                        case hy183 => (intro w hSw; (try dsimp only at hSw); go_simp; try with_reducible rfl)
                        simp only [Act.put, List.getElem_toArray, List.getElem_cons_zero, List.getElem_cons_succ, List.setIfInBounds_toArray, List.set_cons_zero, List.set_cons_succ]
                        refine wpAnyH_take (i := 23) (v := ?v184) rfl (by kernel_rfl) (by kernel_rfl) (by kernel_rfl) (fun _ _ _ h => h) (Or.inl ⟨by rfl, ?hy184⟩) (by assumption) ?rest184
                        case hy184 => (intro w hSw; (try dsimp only at hSw); go_simp; try with_reducible rfl)
                        simp only [Act.put, List.getElem_toArray, List.getElem_cons_zero, List.getElem_cons_succ, List.setIfInBounds_toArray, List.set_cons_zero, List.set_cons_succ]
                        refine wpAnyH_take (i := 24) (v := ?v185) rfl (by kernel_rfl) (by kernel_rfl) (by kernel_rfl) (fun _ _ _ h => h) (Or.inl ⟨by rfl, ?hy185⟩) (by assumption) ?rest185
                        case hy185 => (intro w hSw; (try dsimp only at hSw); go_simp; try with_reducible rfl)
                        simp only [Act.put, List.getElem_toArray, List.getElem_cons_zero, List.getElem_cons_succ, List.setIfInBounds_toArray, List.set_cons_zero, List.set_cons_succ]
                        refine wpAnyH_take (i := 25) (v := ?v186) rfl (by kernel_rfl) (by kernel_rfl) (by kernel_rfl) (fun _ _ _ h => h) (Or.inl ⟨by rfl, ?hy186⟩) (by assumption) ?rest186
                        case hy186 => (intro w hSw; (try dsimp only at hSw); go_simp; try with_reducible rfl)
                        simp only [Act.put, List.getElem_toArray, List.getElem_cons_zero, List.getElem_cons_succ, List.setIfInBounds_toArray, List.set_cons_zero, List.set_cons_succ]
                        refine wpAnyH_take (i := 26) (v := ?v187) rfl (by kernel_rfl) (by kernel_rfl) (by kernel_rfl) (fun _ _ _ h => h) (Or.inl ⟨by rfl, ?hy187⟩) (by assumption) ?rest187
                        case hy187 => (intro w hSw; (try dsimp only at hSw); go_simp; try with_reducible rfl)
                        simp only [Act.put, List.getElem_toArray, List.getElem_cons_zero, List.getElem_cons_succ, List.setIfInBounds_toArray, List.set_cons_zero, List.set_cons_succ]
                        refine wpAnyH_take (i := 27) (v := ?v188) rfl (by kernel_rfl) (by kernel_rfl) (by kernel_rfl) (fun _ _ _ h => h) (Or.inl ⟨by rfl, ?hy188⟩) (by assumption) ?rest188
                        case hy188 => (intro w hSw; (try dsimp only at hSw); go_simp; try with_reducible rfl)
                        simp only [Act.put, List.getElem_toArray, List.getElem_cons_zero, List.getElem_cons_succ, List.setIfInBounds_toArray, List.set_cons_zero, List.set_cons_succ]
                        refine wpAnyH_take (i := 28) (v := ?v189) rfl (by kernel_rfl) (by kernel_rfl) (by kernel_rfl) (fun _ _ _ h => h) (Or.inl ⟨by rfl, ?hy189⟩) (by assumption) ?rest189
                        case hy189 => (intro w hSw; (try dsimp only at hSw); go_simp; try with_reducible rfl)
                        simp only [Act.put, List.getElem_toArray, List.getElem_cons_zero, List.getElem_cons_succ, List.setIfInBounds_toArray, List.set_cons_zero, List.set_cons_succ]
                        refine wpAnyH_take (i := 29) (v := ?v190) rfl (by kernel_rfl) (by kernel_rfl) (by kernel_rfl) (fun _ _ _ h => h) (Or.inl ⟨by rfl, ?hy190⟩) (by assumption) ?rest190
                        case hy190 => (intro w hSw; (try dsimp only at hSw); go_simp; try with_reducible rfl)
                        simp only [Act.put, List.getElem_toArray, List.getElem_cons_zero, List.getElem_cons_succ, List.setIfInBounds_toArray, List.set_cons_zero, List.set_cons_succ]
                        refine wpAnyH_take (i := 30) (v := ?v191) rfl (by kernel_rfl) (by kernel_rfl) (by kernel_rfl) (fun _ _ _ h => h) (Or.inl ⟨by rfl, ?hy191⟩) (by assumption) ?rest191
                        case hy191 => (intro w hSw; (try dsimp only at hSw); go_simp; try with_reducible rfl)
                        simp only [Act.put, List.getElem_toArray, List.getElem_cons_zero, List.getElem_cons_succ, List.setIfInBounds_toArray, List.set_cons_zero, List.set_cons_succ]
                        refine wpAnyH_take (i := 31) (v := ?v192) rfl (by kernel_rfl) (by kernel_rfl) (by kernel_rfl) (fun _ _ _ h => h) (Or.inl ⟨by rfl, ?hy192⟩) (by assumption) ?rest192
                        case hy192 => (intro w hSw; (try dsimp only at hSw); go_simp; try with_reducible rfl)
                        simp only [Act.put, List.getElem_toArray, List.getElem_cons_zero, List.getElem_cons_succ, List.setIfInBounds_toArray, List.set_cons_zero, List.set_cons_succ]
                        refine wpAnyH_take (i := 32) (v := ?v193) rfl (by kernel_rfl) (by kernel_rfl) (by kernel_rfl) (fun _ _ _ h => h) (Or.inl ⟨by rfl, ?hy193⟩) (by assumption) ?rest193
                        case hy193 => (intro w hSw; (try dsimp only at hSw); go_simp; try with_reducible rfl)
                        simp only [Act.put, List.getElem_toArray, List.getElem_cons_zero, List.getElem_cons_succ, List.setIfInBounds_toArray, List.set_cons_zero, List.set_cons_succ]
                        refine wpAnyH_take (i := 33) (v := ?v194) rfl (by kernel_rfl) (by kernel_rfl) (by kernel_rfl) (fun _ _ _ h => h) (Or.inl ⟨by rfl, ?hy194⟩) (by assumption) ?rest194
                        case hy194 => (intro w hSw; (try dsimp only at hSw); go_simp; try with_reducible rfl)
                        simp only [Act.put, List.getElem_toArray, List.getElem_cons_zero, List.getElem_cons_succ, List.setIfInBounds_toArray, List.set_cons_zero, List.set_cons_succ]
                        refine wpAnyH_take (i := 34) (v := ?v195) rfl (by kernel_rfl) (by kernel_rfl) (by kernel_rfl) (fun _ _ _ h => h) (Or.inl ⟨by rfl, ?hy195⟩) (by assumption) ?rest195
                        case hy195 => (intro w hSw; (try dsimp only at hSw); go_simp; try with_reducible rfl)
                        simp only [Act.put, List.getElem_toArray, List.getElem_cons_zero, List.getElem_cons_succ, List.setIfInBounds_toArray, List.set_cons_zero, List.set_cons_succ]
                        refine wpAnyH_take (i := 35) (v := ?v196) rfl (by kernel_rfl) (by kernel_rfl) (by kernel_rfl) (fun _ _ _ h => h) (Or.inl ⟨by rfl, ?hy196⟩) (by assumption) ?rest196
                        case hy196 => (intro w hSw; (try dsimp only at hSw); go_simp; try with_reducible rfl)
                        simp only [Act.put, List.getElem_toArray, List.getElem_cons_zero, List.getElem_cons_succ, List.setIfInBounds_toArray, List.set_cons_zero, List.set_cons_succ]
                        refine wpAnyH_take (i := 36) (v := ?v197) rfl (by kernel_rfl) (by kernel_rfl) (by kernel_rfl) (fun _ _ _ h => h) (Or.inl ⟨by rfl, ?hy197⟩) (by assumption) ?rest197
                        case hy197 => (intro w hSw; (try dsimp only at hSw); go_simp; try with_reducible rfl)
                        simp only [Act.put, List.getElem_toArray, List.getElem_cons_zero, List.getElem_cons_succ, List.setIfInBounds_toArray, List.set_cons_zero, List.set_cons_succ]
                        refine wpAnyH_take (i := 37) (v := ?v198) rfl (by kernel_rfl) (by kernel_rfl) (by kernel_rfl) (fun _ _ _ h => h) (Or.inl ⟨by rfl, ?hy198⟩) (by assumption) ?rest198
                        case hy198 => (intro w hSw; (try dsimp only at hSw); go_simp; try with_reducible rfl)
                        simp only [Act.put, List.getElem_toArray, List.getElem_cons_zero, List.getElem_cons_succ, List.setIfInBounds_toArray, List.set_cons_zero, List.set_cons_succ]
                        refine wpAnyH_take (i := 38) (v := ?v199) rfl (by kernel_rfl) (by kernel_rfl) (by kernel_rfl) (fun _ _ _ h => h) (Or.inl ⟨by rfl, ?hy199⟩) (by assumption) ?rest199
                        case hy199 => (intro w hSw; (try dsimp only at hSw); go_simp; try with_reducible rfl)
                        simp only [Act.put, List.getElem_toArray, List.getElem_cons_zero, List.getElem_cons_succ, List.setIfInBounds_toArray, List.set_cons_zero, List.set_cons_succ]
                        refine wpAnyH_take (i := 39) (v := ?v200) rfl (by kernel_rfl) (by kernel_rfl) (by kernel_rfl) (fun _ _ _ h => h) (Or.inl ⟨by rfl, ?hy200⟩) (by assumption) ?rest200
                        case hy200 => (intro w hSw; (try dsimp only at hSw); go_simp; try with_reducible rfl)
                        simp only [Act.put, List.getElem_toArray, List.getElem_cons_zero, List.getElem_cons_succ, List.setIfInBounds_toArray, List.set_cons_zero, List.set_cons_succ]
                        refine wpAnyH_take (i := 40) (v := ?v201) rfl (by kernel_rfl) (by kernel_rfl) (by kernel_rfl) (fun _ _ _ h => h) (Or.inl ⟨by rfl, ?hy201⟩) (by assumption) ?rest201
                        case hy201 => (intro w hSw; (try dsimp only at hSw); go_simp; try with_reducible rfl)
                        simp only [Act.put, List.getElem_toArray, List.getElem_cons_zero, List.getElem_cons_succ, List.setIfInBounds_toArray, List.set_cons_zero, List.set_cons_succ]
                        refine wpAnyH_take (i := 41) (v := ?v202) rfl (by kernel_rfl) (by kernel_rfl) (by kernel_rfl) (fun _ _ _ h => h) (Or.inl ⟨by rfl, ?hy202⟩) (by assumption) ?rest202
                        case hy202 => (intro w hSw; (try dsimp only at hSw); go_simp; try with_reducible rfl)
                        simp only [Act.put, List.getElem_toArray, List.getElem_cons_zero, List.getElem_cons_succ, List.setIfInBounds_toArray, List.set_cons_zero, List.set_cons_succ]
                        refine wpAnyH_take (i := 42) (v := ?v203) rfl (by kernel_rfl) (by kernel_rfl) (by kernel_rfl) (fun _ _ _ h => h) (Or.inl ⟨by rfl, ?hy203⟩) (by assumption) ?rest203
                        case hy203 => (intro w hSw; (try dsimp only at hSw); go_simp; try with_reducible rfl)
                        simp only [Act.put, List.getElem_toArray, List.getElem_cons_zero, List.getElem_cons_succ, List.setIfInBounds_toArray, List.set_cons_zero, List.set_cons_succ]
                        refine wpAnyH_take (i := 43) (v := ?v204) rfl (by kernel_rfl) (by kernel_rfl) (by kernel_rfl) (fun _ _ _ h => h) (Or.inl ⟨by rfl, ?hy204⟩) (by assumption) ?rest204
                        case hy204 => (intro w hSw; (try dsimp only at hSw); go_simp; try with_reducible rfl)
                        simp only [Act.put, List.getElem_toArray, List.getElem_cons_zero, List.getElem_cons_succ, List.setIfInBounds_toArray, List.set_cons_zero, List.set_cons_succ]
                        refine wpAnyH_done (by kernel_rfl) ?_ _
                        have hb9 := hHeld.1
                        repeat' ((fail_if_success at_builtin); (first | go_skip | go_guarded | go_step))
                        go_ret
                        exact ⟨ret_i hbad.out.symm, hb8.trans (hb9.mono hb8.size)⟩

        · have i1 : ¬ ((i : Int) < (n : Int)) := by omega
          obtain rfl : i = n := by omega
          have hall := allGood_of (l := l) (by have := hn2.out; subst this; exact hgood)
          rw [hall, Bool.true_and] at hval
          have CU := fun (w' : World) (h : Below wr.heap.size wr w') => used_any z l A i c w' hn2.out ((hs.out.below (hbr.trans (h.mono hbr.size))).more (Nat.le_trans hbr.size h.size)) (by omega) (fun x hx => (hf.out x hx).z)
          have hev : errV z l = if usedS l ≤ z then 0 else 1 := by
            unfold errV
            rw [hval]
            by_cases h : usedS l ≤ z
            · rw [decide_eq_true h, if_pos h]; rfl
            · rw [decide_eq_false h, if_neg h]; rfl
          generalize usedS l = us at *
          have keepS : ∀ w' w'', (Below wr.heap.size wr w' ∧ w'.cell? ⟨w.heap.size, 0, none⟩ = some (.int .i64 z) ∧ w'.cell? ⟨w.heap.size, 1, none⟩ = some (.slice A i c)) → Below w'.heap.size w' w'' → (Below wr.heap.size wr w'' ∧ w''.cell? ⟨w.heap.size, 0, none⟩ = some (.int .i64 z) ∧ w''.cell? ⟨w.heap.size, 1, none⟩ = some (.slice A i c)) := fun w' w'' h hc => ⟨h.1.trans (hc.mono h.1.size), (hc.cell (p := ⟨w.heap.size, 0, none⟩) (Nat.lt_of_lt_of_le l0 h.1.size)).trans h.2.1, (hc.cell (p := ⟨w.heap.size, 1, none⟩) (Nat.lt_of_lt_of_le l0 h.1.size)).trans h.2.2⟩
          have CU2 := fun (w' : World) (h : Below wr.heap.size wr w' ∧ w'.cell? ⟨w.heap.size, 0, none⟩ = some (.int .i64 z) ∧ w'.cell? ⟨w.heap.size, 1, none⟩ = some (.slice A i c)) => CU w' h.1
          replace CU2 := Lib.hid CU2
          replace keepS := Lib.hid keepS
          clear CU hgood hall hnm hgr
          by_cases hu : us ≤ z
          · have hu' : ¬ (z < us) := by omega
            rw [if_pos hu] at hev
            replace hev := Lib.hid hev
            replace hval := Lib.hid hval
            repeat' ((fail_if_success at_builtin); (first | go_skip | go_guarded | go_step))
            first
              | (go_region_held3 (fun w' => Below wr.heap.size wr w' ∧ w'.cell? ⟨w.heap.size, 0, none⟩ = some (.int .i64 z) ∧ w'.cell? ⟨w.heap.size, 1, none⟩ = some (.slice A i c))
                  (first | exact ⟨(Below.refl _ _).drew, q0, q1⟩ | exact keepS.out _ _ (by assumption) hbq)
                  (first | (go_at_call 13; refine (CU2.out _ (by assumption)).mono ?_; rintro e w7 ⟨rfl, hbq⟩; dsimp only)))
            all_goals
              have hb9 : Below wr.heap.size wr _ := And.left (by assumption)
              repeat' ((fail_if_success at_builtin); (first | go_skip | go_guarded | go_step))
              go_ret
              exact ⟨ret_i hev.out.symm, hbr.trans (hb9.mono hbr.size)⟩
          · have hu' : z < us := by omega
            rw [if_neg hu] at hev
            replace hev := Lib.hid hev
            replace hval := Lib.hid hval
            repeat' ((fail_if_success at_builtin); (first | go_skip | go_guarded | go_step))
            first
              | (go_region_held3 (fun w' => Below wr.heap.size wr w' ∧ w'.cell? ⟨w.heap.size, 0, none⟩ = some (.int .i64 z) ∧ w'.cell? ⟨w.heap.size, 1, none⟩ = some (.slice A i c))
                  (first | exact ⟨(Below.refl _ _).drew, q0, q1⟩ | exact keepS.out _ _ (by assumption) hbq)
                  (first | (go_at_call 13; refine (CU2.out _ (by assumption)).mono ?_; rintro e w7 ⟨rfl, hbq⟩; dsimp only)))
            all_goals
              have hb9 : Below wr.heap.size wr _ := And.left (by assumption)
              repeat' ((fail_if_success at_builtin); (first | go_skip | go_guarded | go_step))
              go_ret
              exact ⟨ret_i hev.out.symm, hbr.trans (hb9.mono hbr.size)⟩
    · have hl3 : (1024 : Int) < (n : Int) := by omega
      have hbad : errV z l = 1 := errV_bad (by unfold validS; rw [decide_eq_false (by omega : ¬ l.length ≤ 1024)]; simp)
      replace hbad := Lib.hid hbad
      clear hn
      go_enter Tryd.func11, Tryd.ntmps11
      repeat' ((fail_if_success at_builtin); (first | go_skip | go_guarded | go_step))
      refine (within_any _ _ _ _).mono ?_
      rintro e w1 ⟨rfl, rfl⟩
      dsimp only
      rw [hz]
      repeat' ((fail_if_success at_builtin); (first | go_skip | go_guarded | go_step))
      go_ret
      exact ⟨ret_i hbad.out.symm, hb0⟩
  · have hz2 : inR z 0 1099511627776 = false := by simpa using hz
    have hbad : errV z l = 1 := errV_bad (by unfold validS; rw [hz2]; rfl)
    replace hbad := Lib.hid hbad
    clear hn hz
    go_enter Tryd.func11, Tryd.ntmps11
    repeat' ((fail_if_success at_builtin); (first | go_skip | go_guarded | go_step))
    refine (within_any _ _ _ _).mono ?_
    rintro e w1 ⟨rfl, rfl⟩
    dsimp only
    rw [hz2]
    repeat' ((fail_if_success at_builtin); (first | go_skip | go_guarded | go_step))
    go_ret
    exact ⟨ret_i hbad.out.symm, hb0⟩
end Go.Proofs.YtpdlapdnjmoaoaaDoor
