/- Cache: best. -/
import Derived.Test.YtpdlapdnjmoaoaaDoorCaB
namespace Go.Proofs.YtpdlapdnjmoaoaaDoor
open Go.RowKit
def zeroE : Ent := ⟨⟨⟨#[]⟩, 0, ⟨#[]⟩⟩, ⟨#[]⟩, 0, 0, 0, 0⟩
def bestF (f : Ent → Bool) (g : Ent → Ent → Int) : Option Ent → List Ent → Option Ent
  | o, [] => o
  | o, x :: l => if f x && (match o with
    | none => true
    | some y => decide (0 ≤ g x y)) then bestF f g (some x) l else bestF f g o l
theorem bestF_nil (f : Ent → Bool) (g : Ent → Ent → Int) (o : Option Ent) : bestF f g o [] = o := by cases o <;> rfl
theorem bestF_cons (f : Ent → Bool) (g : Ent → Ent → Int) (o : Option Ent) (x : Ent) (l : List Ent) : bestF f g o (x :: l) = if f x && (match o with
    | none => true
    | some y => decide (0 ≤ g x y)) then bestF f g (some x) l else bestF f g o l := by cases o <;> rfl
def put8 (w : World) (b : Nat) (x : Ent) : World := (((((((w.setCell ⟨b, 0, none⟩ (.string x.sc.prj)).setCell ⟨b, 1, none⟩ (.int .i64 x.sc.trust)).setCell ⟨b, 2, none⟩ (.string x.sc.ref)).setCell ⟨b, 3, none⟩ (.string x.key)).setCell ⟨b, 4, none⟩ (.int .u64 x.dig)).setCell ⟨b, 5, none⟩ (.int .i64 x.size)).setCell ⟨b, 6, none⟩ (.int .i64 x.created)).setCell ⟨b, 7, none⟩ (.int .i64 x.used)
theorem put8_far (w : World) (b : Nat) (x : Ent) {p : Addr} (h : p.block ≠ b) : (put8 w b x).cell? p = w.cell? p := by
  unfold put8
  rw [World.cell?_setCell_far _ _ _ _ (fun e => h e.symm), World.cell?_setCell_far _ _ _ _ (fun e => h e.symm), World.cell?_setCell_far _ _ _ _ (fun e => h e.symm), World.cell?_setCell_far _ _ _ _ (fun e => h e.symm), World.cell?_setCell_far _ _ _ _ (fun e => h e.symm), World.cell?_setCell_far _ _ _ _ (fun e => h e.symm), World.cell?_setCell_far _ _ _ _ (fun e => h e.symm), World.cell?_setCell_far _ _ _ _ (fun e => h e.symm)]
theorem put8_size (w : World) (b : Nat) (x : Ent) : (put8 w b x).heap.size = w.heap.size := by simp [put8, World.setCell]
theorem put8_frozen (w : World) (b : Nat) (x : Ent) (p : Addr) : (put8 w b x).frozen? p = w.frozen? p := by
  unfold put8
  simp only [World.frozen?_setCell]
theorem put8_below {B : Nat} {a w : World} (h : Below B a w) {b : Nat} (hb : B ≤ b) (x : Ent) : Below B a (put8 w b x) :=
  (((((((h.setCell (p := ⟨b, 0, none⟩) hb _).setCell (p := ⟨b, 1, none⟩) hb _).setCell (p := ⟨b, 2, none⟩) hb _).setCell (p := ⟨b, 3, none⟩) hb _).setCell (p := ⟨b, 4, none⟩) hb _).setCell (p := ⟨b, 5, none⟩) hb _).setCell (p := ⟨b, 6, none⟩) hb _).setCell (p := ⟨b, 7, none⟩) hb _
theorem cell_put {w : World} {b i j : Nat} {u v x : Value} (h : w.cell? ⟨b, i, none⟩ = some x) : (w.setCell ⟨b, j, none⟩ v).cell? ⟨b, i, none⟩ = some (if i = j then v else x) := by
  by_cases e : i = j
  · subst e
    rw [if_pos rfl]
    exact World.cell?_setCell_same w _ _ h
  · rw [if_neg e, World.cell?_setCell_other w _ _ _ (by intro h2; injection h2 with _ h3; exact e h3.symm)]
    exact h
theorem put8_cells {w : World} {b : Nat} {y : Ent} (x : Ent) (h : CellsE w b 0 y) : CellsE (put8 w b x) b 0 x := by
  have k : ∀ (i : Nat) (v0 : Value), w.cell? ⟨b, i, none⟩ = some v0 → (put8 w b x).cell? ⟨b, i, none⟩ = some (if i = 7 then .int .i64 x.used else if i = 6 then .int .i64 x.created else if i = 5 then .int .i64 x.size else if i = 4 then .int .u64 x.dig else if i = 3 then .string x.key else if i = 2 then .string x.sc.ref else if i = 1 then .int .i64 x.sc.trust else if i = 0 then .string x.sc.prj else v0) := fun i v0 h0 => by
    unfold put8
    exact cell_put (u := v0) (cell_put (u := v0) (cell_put (u := v0) (cell_put (u := v0) (cell_put (u := v0) (cell_put (u := v0) (cell_put (u := v0) (cell_put (u := v0) h0)))))))
  exact ⟨k 0 _ h.c0, k (0 + 1) _ h.c1, k (0 + 2) _ h.c2, k (0 + 3) _ h.c3, k (0 + 4) _ h.c4, k (0 + 5) _ h.c5, k (0 + 6) _ h.c6, k (0 + 7) _ h.c7⟩
set_option maxRecDepth 100000 in
set_option maxHeartbeats 8000000 in
theorem best34_any (l : List Ent) (A : Option Addr) (n c : Nat) (k : ByteArray) (p p8 p9 : Nat) (w : World) (hn : n = l.length) (hs : Seq w w.heap.size 8 A n (entsC l)) (hl : n ≤ 1000000000) (kp : w.cell? ⟨p, 0, none⟩ = some (.string k)) (k8 : w.cell? ⟨p8, 0, none⟩ = some (.func (.func 47) #[] #[])) (k9 : w.cell? ⟨p9, 0, none⟩ = some (.func (.func 49) #[] #[])) (lp : p < w.heap.size) (l8 : p8 < w.heap.size) (l9 : p9 < w.heap.size) :
    Calls Tryd.prog 50 #[.slice A n c, .func (.func 51) #[] #[.pointer (some ⟨p, 0, none⟩)], .func (.func 52) #[] #[.pointer (some ⟨p8, 0, none⟩), .pointer (some ⟨p9, 0, none⟩)]] w fun e w' => e = .returned (.tuple #[.agg (ent8 ((bestF (fun x : Ent => x.key.toList == k.toList) (fun a b : Ent => orI (lowerI a b) (laterI a b)) none l).getD zeroE)), .bool (bestF (fun x : Ent => x.key.toList == k.toList) (fun a b : Ent => orI (lowerI a b) (laterI a b)) none l).isSome]) ∧ Below w.heap.size w w' := by
  obtain ⟨w1, hw1⟩ : ∃ w1 : World, w1 = (w.alloc (.cells (ent8 zeroE) 42)).alloc (.cells (ent8 zeroE) 42) := ⟨_, rfl⟩
  have hb0 : Below w.heap.size w w1 := by rw [hw1]; exact ((Below.refl w.heap.size w).alloc (Nat.le_refl _) _).alloc (by simp) _
  have zz : w1.heap.size = w.heap.size + 2 := by rw [hw1]; simp
  have zR : CellsE w1 w.heap.size 0 zeroE := by rw [hw1]; exact ⟨by simp [go_sem], by simp [go_sem], by simp [go_sem], by simp [go_sem], by simp [go_sem], by simp [go_sem], by simp [go_sem], by simp [go_sem]⟩
  have zO : CellsE w1 (w.heap.size + 1) 0 zeroE := by rw [hw1]; exact ⟨by simp [go_sem], by simp [go_sem], by simp [go_sem], by simp [go_sem], by simp [go_sem], by simp [go_sem], by simp [go_sem], by simp [go_sem]⟩
  have zf : ∀ j, w1.frozen? ⟨w.heap.size, j, none⟩ = false := fun j => by rw [hw1]; simp [go_sem]
  have zg : ∀ j, w1.frozen? ⟨w.heap.size + 1, j, none⟩ = false := fun j => by rw [hw1]; simp [go_sem]
  have CI := fun (x : Ent) (w' : World) (hb : Below w.heap.size w w') => is3_any x k p w' ((hb.cell (p := ⟨p, 0, none⟩) lp).trans kp) (Nat.lt_of_lt_of_le lp hb.size)
  have CO := fun (x y : Ent) (w' : World) (hb : Below w.heap.size w w') => ord4_any x y p8 p9 w' ((hb.cell (p := ⟨p8, 0, none⟩) l8).trans k8) ((hb.cell (p := ⟨p9, 0, none⟩) l9).trans k9) (Nat.lt_of_lt_of_le l8 hb.size) (Nat.lt_of_lt_of_le l9 hb.size)
  replace CI := Lib.hid CI
  replace CO := Lib.hid CO
  replace hs := Lib.hid hs
  replace hn := Lib.hid hn
  replace hw1 := Lib.hid hw1
  have hst : bestF (fun x : Ent => x.key.toList == k.toList) (fun a b : Ent => orI (lowerI a b) (laterI a b)) none l = bestF (fun x : Ent => x.key.toList == k.toList) (fun a b : Ent => orI (lowerI a b) (laterI a b)) none (l.drop 0) := rfl
  generalize hfin : bestF (fun x : Ent => x.key.toList == k.toList) (fun a b : Ent => orI (lowerI a b) (laterI a b)) none l = fin at *
  replace hst := Lib.hid hst
  go_enter Tryd.func50, Tryd.ntmps50
  repeat' ((fail_if_success at_builtin); (first | go_skip | go_guarded | go_step))
  first
    | rw [← hw1.out]
    | (have hz := hw1.out; unfold zeroE at hz; dsimp only [ent8] at hz; rw [← hz])
  go_loopw [9, 14] (fun u9 u14 wr => ∃ (i : Nat) (o : Option Ent), i ≤ n ∧ u14 = .int .i64 (i : Int) ∧ u9 = .bool o.isSome ∧ Below w.heap.size w wr ∧ w.heap.size + 2 ≤ wr.heap.size ∧ CellsE wr w.heap.size 0 zeroE ∧ CellsE wr (w.heap.size + 1) 0 (o.getD zeroE) ∧ (∀ j, wr.frozen? ⟨w.heap.size, j, none⟩ = false) ∧ (∀ j, wr.frozen? ⟨w.heap.size + 1, j, none⟩ = false) ∧ fin = bestF (fun x : Ent => x.key.toList == k.toList) (fun a b : Ent => orI (lowerI a b) (laterI a b)) o (l.drop i)) (fun _ u14 _ => n - (intOf u14).toNat)
  case atStart => exact ⟨0, none, by omega, rfl, rfl, hb0, by omega, zR, zO, zf, zg, hst.out⟩
  case round =>
    clear hst zR zO zf zg
    obtain ⟨i, o, hi, rfl, rfl, hb, hsz, hR, hO, fR, fO, hu⟩ := hrel
    obtain ⟨o0, o1, o2, o3, o4, o5, o6, o7⟩ := id hO
    simp only [Nat.zero_add] at o1 o2 o3 o4 o5 o6 o7
    have lo : w.heap.size + 1 < wr.heap.size := by omega
    have lr : w.heap.size < wr.heap.size := by omega
    by_cases hlt : i < n
    · have hlt2 : i < l.length := by have := hn.out; omega
      have hx : l[i]? = some l[i] := List.getElem?_eq_getElem hlt2
      obtain ⟨b, off, rfl, hbB, hc⟩ := ent_at hs.out hn.out hx
      have hc := hc.map (fun j => hb.cell (p := ⟨b, off + i * 8 + j, none⟩) hbB)
      rw [List.drop_eq_getElem_cons hlt2, bestF_cons] at hu
      generalize l[i] = x at *
      obtain ⟨c0, c1, c2, c3, c4, c5, c6, c7⟩ := hc
      have i0 : (0 : Int) ≤ (i : Int) := by omega
      have i1 : (i : Int) < (n : Int) := by omega
      have i2 : IntKind.i64.wrap ((i : Int) + 1) = (i : Int) + 1 := IntWalk.i64_in _ (by omega)
      have hbl : b < wr.heap.size := Nat.lt_of_lt_of_le hbB hb.size
      replace hu := Lib.hid hu
      replace hO := Lib.hid hO
      repeat' ((fail_if_success at_builtin); (first | go_skip | go_guarded | go_step))
      generalize hw8 : World.alloc wr _ = w8
      have hbw : Below wr.heap.size wr w8 := by rw [← hw8]; exact (Below.refl _ _).alloc (Nat.le_refl _) _
      have hX : CellsE w8 wr.heap.size 0 x := by rw [← hw8]; exact ⟨by simp [go_sem], by simp [go_sem], by simp [go_sem], by simp [go_sem], by simp [go_sem], by simp [go_sem], by simp [go_sem], by simp [go_sem]⟩
      have hz8 : w8.heap.size = wr.heap.size + 1 := by rw [← hw8]; simp
      clear hw8 c0 c1 c2 c3 c4 c5 c6 c7 o0 o1 o2 o3 o4 o5 o6 o7
      have hb8 := hb.trans (hbw.mono hb.size)
      refine (CI.out x w8 hb8).mono ?_
      rintro e w9 ⟨rfl, hb9⟩
      dsimp only
      have hw9 := hbw.trans (hb9.mono hbw.size)
      have hb19 := hb8.trans (hb9.mono hb8.size)
      have hR9 := hR.map (fun j => hw9.cell (p := ⟨w.heap.size, 0 + j, none⟩) lr)
      have hO9 := hO.out.map (fun j => hw9.cell (p := ⟨w.heap.size + 1, 0 + j, none⟩) lo)
      have hX9 := hX.map (fun j => hb9.cell (p := ⟨wr.heap.size, 0 + j, none⟩) (by show wr.heap.size < _; omega))
      have fR9 := fun j => (hw9.frozen (p := ⟨w.heap.size, j, none⟩) lr).trans (fR j)
      have fO9 := fun j => (hw9.frozen (p := ⟨w.heap.size + 1, j, none⟩) lo).trans (fO j)
      have hs9 := hw9.size
      have hsz9 := hb9.size
      clear hbw hX hb8 hb9
      generalize hfx : (fun x : Ent => x.key.toList == k.toList) x = fx at *
      cases fx with
      | false =>
        repeat' ((fail_if_success at_builtin); (first | go_skip | go_guarded | go_step))
        go_roundw
        case rel => exact ⟨i + 1, o, by omega, by go_num, rfl, hb19, by omega, hR9, hO9, fR9, fO9, by have := hu.out; simp [hfx] at this; exact this⟩
        case measure => simp [intOf]; omega
      | true =>
        have key : ∀ (w10 : World), Below w9.heap.size w9 w10 → (CellsE w10 w.heap.size 0 zeroE ∧ CellsE w10 (w.heap.size + 1) 0 (o.getD zeroE) ∧ CellsE w10 wr.heap.size 0 x ∧ (∀ j, w10.frozen? ⟨w.heap.size, j, none⟩ = false) ∧ (∀ j, w10.frozen? ⟨w.heap.size + 1, j, none⟩ = false)) := fun w10 h =>
          ⟨hR9.map (fun j => h.cell (p := ⟨w.heap.size, 0 + j, none⟩) (by show w.heap.size < _; omega)), hO9.map (fun j => h.cell (p := ⟨w.heap.size + 1, 0 + j, none⟩) (by show w.heap.size + 1 < _; omega)), hX9.map (fun j => h.cell (p := ⟨wr.heap.size, 0 + j, none⟩) (by show wr.heap.size < _; omega)),
            fun j => (h.frozen (p := ⟨w.heap.size, j, none⟩) (by show w.heap.size < _; omega)).trans (fR9 j), fun j => (h.frozen (p := ⟨w.heap.size + 1, j, none⟩) (by show w.heap.size + 1 < _; omega)).trans (fO9 j)⟩
        cases o with
        | none =>
          obtain ⟨o0, o1, o2, o3, o4, o5, o6, o7⟩ := id hO9
          obtain ⟨x0, x1, x2, x3, x4, x5, x6, x7⟩ := id hX9
          simp only [Nat.zero_add] at o1 o2 o3 o4 o5 o6 o7 x1 x2 x3 x4 x5 x6 x7
          have lx9 : wr.heap.size < w9.heap.size := by omega
          have lo9 : w.heap.size + 1 < w9.heap.size := by omega
          have hp : put8 w9 (w.heap.size + 1) x = put8 w9 (w.heap.size + 1) x := rfl
          have P1 := put8_cells x hO9
          have P2 := hR9.map (fun j => put8_far w9 (w.heap.size + 1) x (p := ⟨w.heap.size, 0 + j, none⟩) (by show w.heap.size ≠ _; omega))
          have P3 := put8_below hb19 (show w.heap.size ≤ w.heap.size + 1 by omega) x
          have P4 := put8_size w9 (w.heap.size + 1) x
          have P5 := fun j => (put8_frozen w9 (w.heap.size + 1) x ⟨w.heap.size, j, none⟩).trans (fR9 j)
          have P6 := fun j => (put8_frozen w9 (w.heap.size + 1) x ⟨w.heap.size + 1, j, none⟩).trans (fO9 j)
          replace P1 := Lib.hid P1
          replace P2 := Lib.hid P2
          replace P3 := Lib.hid P3
          replace P4 := Lib.hid P4
          replace P5 := Lib.hid P5
          replace P6 := Lib.hid P6
          clear key hO9 hX9 hR9 fR9 hp
          repeat' ((fail_if_success at_builtin); (first | go_skip | go_guarded | go_step))
          go_roundw
          case rel => exact ⟨i + 1, some x, by omega, by go_num, rfl, P3.out, by show w.heap.size + 2 ≤ (put8 w9 (w.heap.size + 1) x).heap.size; rw [P4.out]; omega, P2.out, P1.out, P5.out, P6.out, by have := hu.out; simp [hfx] at this; exact this⟩
          case measure => simp [intOf]; omega
        | some y =>
          have CO2 := fun (w' : World) (h : Below w.heap.size w w') => CO.out x y w' h
          obtain ⟨o0, o1, o2, o3, o4, o5, o6, o7⟩ := id hO9
          obtain ⟨x0, x1, x2, x3, x4, x5, x6, x7⟩ := id hX9
          simp only [Nat.zero_add, Option.getD_some] at o0 o1 o2 o3 o4 o5 o6 o7 x1 x2 x3 x4 x5 x6 x7
          replace CO2 := Lib.hid CO2
          replace key := Lib.hid key
          repeat' ((fail_if_success at_builtin); (first | go_skip | go_guarded | go_step))
          refine (CO2.out _ hb19).mono ?_
          rintro e w10 ⟨rfl, hb10⟩
          dsimp only
          obtain ⟨hR10, hO10, hX10, fR10, fO10⟩ := key.out w10 hb10
          have hb110 := hb19.trans (hb10.mono hb19.size)
          have hs10 := hb10.size
          clear hO9 hX9 hR9 fR9 fO9 CO2 key o0 o1 o2 o3 o4 o5 o6 o7 x0 x1 x2 x3 x4 x5 x6 x7
          by_cases hg : 0 ≤ (fun a b : Ent => orI (lowerI a b) (laterI a b)) x y
          · obtain ⟨o0, o1, o2, o3, o4, o5, o6, o7⟩ := id hO10
            obtain ⟨x0, x1, x2, x3, x4, x5, x6, x7⟩ := id hX10
            simp only [Nat.zero_add, Option.getD_some] at o0 o1 o2 o3 o4 o5 o6 o7 x1 x2 x3 x4 x5 x6 x7
            have lx9 : wr.heap.size < w10.heap.size := by omega
            have lo9 : w.heap.size + 1 < w10.heap.size := by omega
            have P1 := put8_cells x hO10
            have P2 := hR10.map (fun j => put8_far w10 (w.heap.size + 1) x (p := ⟨w.heap.size, 0 + j, none⟩) (by show w.heap.size ≠ _; omega))
            have P3 := put8_below hb110 (show w.heap.size ≤ w.heap.size + 1 by omega) x
            have P4 := put8_size w10 (w.heap.size + 1) x
            have P5 := fun j => (put8_frozen w10 (w.heap.size + 1) x ⟨w.heap.size, j, none⟩).trans (fR10 j)
            have P6 := fun j => (put8_frozen w10 (w.heap.size + 1) x ⟨w.heap.size + 1, j, none⟩).trans (fO10 j)
            have hu2 : fin = bestF (fun x : Ent => x.key.toList == k.toList) (fun a b : Ent => orI (lowerI a b) (laterI a b)) (some x) (l.drop (i + 1)) := by have := hu.out; simp [hfx, hg] at this; exact this
            replace P1 := Lib.hid P1
            replace P2 := Lib.hid P2
            replace P3 := Lib.hid P3
            replace P4 := Lib.hid P4
            replace P5 := Lib.hid P5
            replace P6 := Lib.hid P6
            replace hu2 := Lib.hid hu2
            clear hO10 hX10 hR10 fR10
            repeat' ((fail_if_success at_builtin); (first | go_skip | go_guarded | go_step))
            go_roundw
            case rel => exact ⟨i + 1, some x, by omega, by go_num, rfl, P3.out, by show w.heap.size + 2 ≤ (put8 w10 (w.heap.size + 1) x).heap.size; rw [P4.out]; omega, P2.out, P1.out, P5.out, P6.out, hu2.out⟩
            case measure => simp [intOf]; omega
          · have hu2 : fin = bestF (fun x : Ent => x.key.toList == k.toList) (fun a b : Ent => orI (lowerI a b) (laterI a b)) (some y) (l.drop (i + 1)) := by have := hu.out; simp [hfx, hg] at this; exact this
            replace hu2 := Lib.hid hu2
            repeat' ((fail_if_success at_builtin); (first | go_skip | go_guarded | go_step))
            go_roundw
            case rel => exact ⟨i + 1, some y, by omega, by go_num, rfl, hb110, by omega, hR10, hO10, fR10, fO10, hu2.out⟩
            case measure => simp [intOf]; omega
    · have i1 : ¬ ((i : Int) < (n : Int)) := by omega
      rw [List.drop_of_length_le (by have := hn.out; omega), bestF_nil] at hu
      subst hu
      have P1 := put8_cells (fin.getD zeroE) hR
      have P3 := put8_below hb (Nat.le_refl w.heap.size) (fin.getD zeroE)
      obtain ⟨r0, r1, r2, r3, r4, r5, r6, r7⟩ := id hR
      simp only [Nat.zero_add] at r1 r2 r3 r4 r5 r6 r7
      generalize hqd : fin.getD zeroE = q at *
      replace hqd := Lib.hid hqd
      replace P1 := Lib.hid P1
      replace P3 := Lib.hid P3
      clear hR hO
      repeat' ((fail_if_success at_builtin); (first | go_skip | go_guarded | go_step))
      have Q : CellsE _ w.heap.size 0 q := P1.out
      obtain ⟨q0, q1, q2, q3, q4, q5, q6, q7⟩ := Q
      simp only [Nat.zero_add] at q1 q2 q3 q4 q5 q6 q7
      have hbF := P3.out
      unfold put8 at q0 q1 q2 q3 q4 q5 q6 q7 hbF
      generalize World.setCell (World.setCell (World.setCell (World.setCell (World.setCell (World.setCell (World.setCell (World.setCell wr _ _) _ _) _ _) _ _) _ _) _ _) _ _) _ _ = wf at *
      refine bodyPost_ret (v := .tuple #[.agg (ent8 q), .bool fin.isSome]) (by simp only [results, Tryd.results50]; go_simp; try exact ⟨rfl, rfl⟩) rfl ?_
      exact ⟨by rw [hqd.out], hbF⟩
set_option maxRecDepth 100000 in
set_option maxHeartbeats 8000000 in
theorem best56_any (l : List Ent) (A : Option Addr) (n c : Nat) (q : ByteArray) (p5 p12 bq oq nq cq iq p8 p9 : Nat) (w : World) (hn : n = l.length) (hs : Seq w w.heap.size 8 A n (entsC l)) (hl : n ≤ 1000000000) (kq : w.cell? ⟨p5, 0, none⟩ = some (.slice (some ⟨bq, oq, none⟩) nq cq)) (ki : w.cell? ⟨p12, 0, none⟩ = some (.int .i64 (iq : Int))) (ks : w.cell? ⟨bq, oq + iq, none⟩ = some (.string q)) (hiq : iq < nq) (k8 : w.cell? ⟨p8, 0, none⟩ = some (.func (.func 47) #[] #[])) (k9 : w.cell? ⟨p9, 0, none⟩ = some (.func (.func 49) #[] #[])) (l5 : p5 < w.heap.size) (l12 : p12 < w.heap.size) (lq : bq < w.heap.size) (l8 : p8 < w.heap.size) (l9 : p9 < w.heap.size) :
    Calls Tryd.prog 50 #[.slice A n c, .func (.func 54) #[] #[.pointer (some ⟨p5, 0, none⟩), .pointer (some ⟨p12, 0, none⟩)], .func (.func 56) #[] #[.pointer (some ⟨p9, 0, none⟩), .pointer (some ⟨p8, 0, none⟩)]] w fun e w' => e = .returned (.tuple #[.agg (ent8 ((bestF (fun x : Ent => Lib.hasPrefix x.key.data.toList q.data.toList) (fun a b : Ent => orI (laterI a b) (lowerI a b)) none l).getD zeroE)), .bool (bestF (fun x : Ent => Lib.hasPrefix x.key.data.toList q.data.toList) (fun a b : Ent => orI (laterI a b) (lowerI a b)) none l).isSome]) ∧ Below w.heap.size w w' := by
  obtain ⟨w1, hw1⟩ : ∃ w1 : World, w1 = (w.alloc (.cells (ent8 zeroE) 42)).alloc (.cells (ent8 zeroE) 42) := ⟨_, rfl⟩
  have hb0 : Below w.heap.size w w1 := by rw [hw1]; exact ((Below.refl w.heap.size w).alloc (Nat.le_refl _) _).alloc (by simp) _
  have zz : w1.heap.size = w.heap.size + 2 := by rw [hw1]; simp
  have zR : CellsE w1 w.heap.size 0 zeroE := by rw [hw1]; exact ⟨by simp [go_sem], by simp [go_sem], by simp [go_sem], by simp [go_sem], by simp [go_sem], by simp [go_sem], by simp [go_sem], by simp [go_sem]⟩
  have zO : CellsE w1 (w.heap.size + 1) 0 zeroE := by rw [hw1]; exact ⟨by simp [go_sem], by simp [go_sem], by simp [go_sem], by simp [go_sem], by simp [go_sem], by simp [go_sem], by simp [go_sem], by simp [go_sem]⟩
  have zf : ∀ j, w1.frozen? ⟨w.heap.size, j, none⟩ = false := fun j => by rw [hw1]; simp [go_sem]
  have zg : ∀ j, w1.frozen? ⟨w.heap.size + 1, j, none⟩ = false := fun j => by rw [hw1]; simp [go_sem]
  have CI := fun (x : Ent) (w' : World) (hb : Below w.heap.size w w') => is5_any x q p5 p12 bq oq nq cq iq w' ((hb.cell (p := ⟨p5, 0, none⟩) l5).trans kq) ((hb.cell (p := ⟨p12, 0, none⟩) l12).trans ki) ((hb.cell (p := ⟨bq, oq + iq, none⟩) lq).trans ks) hiq (Nat.lt_of_lt_of_le l5 hb.size) (Nat.lt_of_lt_of_le l12 hb.size) (Nat.lt_of_lt_of_le lq hb.size)
  have CO := fun (x y : Ent) (w' : World) (hb : Below w.heap.size w w') => ord6_any x y p9 p8 w' ((hb.cell (p := ⟨p9, 0, none⟩) l9).trans k9) ((hb.cell (p := ⟨p8, 0, none⟩) l8).trans k8) (Nat.lt_of_lt_of_le l9 hb.size) (Nat.lt_of_lt_of_le l8 hb.size)
  replace CI := Lib.hid CI
  replace CO := Lib.hid CO
  replace hs := Lib.hid hs
  replace hn := Lib.hid hn
  replace hw1 := Lib.hid hw1
  have hst : bestF (fun x : Ent => Lib.hasPrefix x.key.data.toList q.data.toList) (fun a b : Ent => orI (laterI a b) (lowerI a b)) none l = bestF (fun x : Ent => Lib.hasPrefix x.key.data.toList q.data.toList) (fun a b : Ent => orI (laterI a b) (lowerI a b)) none (l.drop 0) := rfl
  generalize hfin : bestF (fun x : Ent => Lib.hasPrefix x.key.data.toList q.data.toList) (fun a b : Ent => orI (laterI a b) (lowerI a b)) none l = fin at *
  replace hst := Lib.hid hst
  go_enter Tryd.func50, Tryd.ntmps50
  repeat' ((fail_if_success at_builtin); (first | go_skip | go_guarded | go_step))
  first
    | rw [← hw1.out]
    | (have hz := hw1.out; unfold zeroE at hz; dsimp only [ent8] at hz; rw [← hz])
  go_loopw [9, 14] (fun u9 u14 wr => ∃ (i : Nat) (o : Option Ent), i ≤ n ∧ u14 = .int .i64 (i : Int) ∧ u9 = .bool o.isSome ∧ Below w.heap.size w wr ∧ w.heap.size + 2 ≤ wr.heap.size ∧ CellsE wr w.heap.size 0 zeroE ∧ CellsE wr (w.heap.size + 1) 0 (o.getD zeroE) ∧ (∀ j, wr.frozen? ⟨w.heap.size, j, none⟩ = false) ∧ (∀ j, wr.frozen? ⟨w.heap.size + 1, j, none⟩ = false) ∧ fin = bestF (fun x : Ent => Lib.hasPrefix x.key.data.toList q.data.toList) (fun a b : Ent => orI (laterI a b) (lowerI a b)) o (l.drop i)) (fun _ u14 _ => n - (intOf u14).toNat)
  case atStart => exact ⟨0, none, by omega, rfl, rfl, hb0, by omega, zR, zO, zf, zg, hst.out⟩
  case round =>
    clear hst zR zO zf zg
    obtain ⟨i, o, hi, rfl, rfl, hb, hsz, hR, hO, fR, fO, hu⟩ := hrel
    obtain ⟨o0, o1, o2, o3, o4, o5, o6, o7⟩ := id hO
    simp only [Nat.zero_add] at o1 o2 o3 o4 o5 o6 o7
    have lo : w.heap.size + 1 < wr.heap.size := by omega
    have lr : w.heap.size < wr.heap.size := by omega
    by_cases hlt : i < n
    · have hlt2 : i < l.length := by have := hn.out; omega
      have hx : l[i]? = some l[i] := List.getElem?_eq_getElem hlt2
      obtain ⟨b, off, rfl, hbB, hc⟩ := ent_at hs.out hn.out hx
      have hc := hc.map (fun j => hb.cell (p := ⟨b, off + i * 8 + j, none⟩) hbB)
      rw [List.drop_eq_getElem_cons hlt2, bestF_cons] at hu
      generalize l[i] = x at *
      obtain ⟨c0, c1, c2, c3, c4, c5, c6, c7⟩ := hc
      have i0 : (0 : Int) ≤ (i : Int) := by omega
      have i1 : (i : Int) < (n : Int) := by omega
      have i2 : IntKind.i64.wrap ((i : Int) + 1) = (i : Int) + 1 := IntWalk.i64_in _ (by omega)
      have hbl : b < wr.heap.size := Nat.lt_of_lt_of_le hbB hb.size
      replace hu := Lib.hid hu
      replace hO := Lib.hid hO
      repeat' ((fail_if_success at_builtin); (first | go_skip | go_guarded | go_step))
      generalize hw8 : World.alloc wr _ = w8
      have hbw : Below wr.heap.size wr w8 := by rw [← hw8]; exact (Below.refl _ _).alloc (Nat.le_refl _) _
      have hX : CellsE w8 wr.heap.size 0 x := by rw [← hw8]; exact ⟨by simp [go_sem], by simp [go_sem], by simp [go_sem], by simp [go_sem], by simp [go_sem], by simp [go_sem], by simp [go_sem], by simp [go_sem]⟩
      have hz8 : w8.heap.size = wr.heap.size + 1 := by rw [← hw8]; simp
      clear hw8 c0 c1 c2 c3 c4 c5 c6 c7 o0 o1 o2 o3 o4 o5 o6 o7
      have hb8 := hb.trans (hbw.mono hb.size)
      refine (CI.out x w8 hb8).mono ?_
      rintro e w9 ⟨rfl, hb9⟩
      dsimp only
      have hw9 := hbw.trans (hb9.mono hbw.size)
      have hb19 := hb8.trans (hb9.mono hb8.size)
      have hR9 := hR.map (fun j => hw9.cell (p := ⟨w.heap.size, 0 + j, none⟩) lr)
      have hO9 := hO.out.map (fun j => hw9.cell (p := ⟨w.heap.size + 1, 0 + j, none⟩) lo)
      have hX9 := hX.map (fun j => hb9.cell (p := ⟨wr.heap.size, 0 + j, none⟩) (by show wr.heap.size < _; omega))
      have fR9 := fun j => (hw9.frozen (p := ⟨w.heap.size, j, none⟩) lr).trans (fR j)
      have fO9 := fun j => (hw9.frozen (p := ⟨w.heap.size + 1, j, none⟩) lo).trans (fO j)
      have hs9 := hw9.size
      have hsz9 := hb9.size
      clear hbw hX hb8 hb9
      generalize hfx : (fun x : Ent => Lib.hasPrefix x.key.data.toList q.data.toList) x = fx at *
      cases fx with
      | false =>
        repeat' ((fail_if_success at_builtin); (first | go_skip | go_guarded | go_step))
        go_roundw
        case rel => exact ⟨i + 1, o, by omega, by go_num, rfl, hb19, by omega, hR9, hO9, fR9, fO9, by have := hu.out; simp [hfx] at this; exact this⟩
        case measure => simp [intOf]; omega
      | true =>
        have key : ∀ (w10 : World), Below w9.heap.size w9 w10 → (CellsE w10 w.heap.size 0 zeroE ∧ CellsE w10 (w.heap.size + 1) 0 (o.getD zeroE) ∧ CellsE w10 wr.heap.size 0 x ∧ (∀ j, w10.frozen? ⟨w.heap.size, j, none⟩ = false) ∧ (∀ j, w10.frozen? ⟨w.heap.size + 1, j, none⟩ = false)) := fun w10 h =>
          ⟨hR9.map (fun j => h.cell (p := ⟨w.heap.size, 0 + j, none⟩) (by show w.heap.size < _; omega)), hO9.map (fun j => h.cell (p := ⟨w.heap.size + 1, 0 + j, none⟩) (by show w.heap.size + 1 < _; omega)), hX9.map (fun j => h.cell (p := ⟨wr.heap.size, 0 + j, none⟩) (by show wr.heap.size < _; omega)),
            fun j => (h.frozen (p := ⟨w.heap.size, j, none⟩) (by show w.heap.size < _; omega)).trans (fR9 j), fun j => (h.frozen (p := ⟨w.heap.size + 1, j, none⟩) (by show w.heap.size + 1 < _; omega)).trans (fO9 j)⟩
        cases o with
        | none =>
          obtain ⟨o0, o1, o2, o3, o4, o5, o6, o7⟩ := id hO9
          obtain ⟨x0, x1, x2, x3, x4, x5, x6, x7⟩ := id hX9
          simp only [Nat.zero_add] at o1 o2 o3 o4 o5 o6 o7 x1 x2 x3 x4 x5 x6 x7
          have lx9 : wr.heap.size < w9.heap.size := by omega
          have lo9 : w.heap.size + 1 < w9.heap.size := by omega
          have hp : put8 w9 (w.heap.size + 1) x = put8 w9 (w.heap.size + 1) x := rfl
          have P1 := put8_cells x hO9
          have P2 := hR9.map (fun j => put8_far w9 (w.heap.size + 1) x (p := ⟨w.heap.size, 0 + j, none⟩) (by show w.heap.size ≠ _; omega))
          have P3 := put8_below hb19 (show w.heap.size ≤ w.heap.size + 1 by omega) x
          have P4 := put8_size w9 (w.heap.size + 1) x
          have P5 := fun j => (put8_frozen w9 (w.heap.size + 1) x ⟨w.heap.size, j, none⟩).trans (fR9 j)
          have P6 := fun j => (put8_frozen w9 (w.heap.size + 1) x ⟨w.heap.size + 1, j, none⟩).trans (fO9 j)
          replace P1 := Lib.hid P1
          replace P2 := Lib.hid P2
          replace P3 := Lib.hid P3
          replace P4 := Lib.hid P4
          replace P5 := Lib.hid P5
          replace P6 := Lib.hid P6
          clear key hO9 hX9 hR9 fR9 hp
          repeat' ((fail_if_success at_builtin); (first | go_skip | go_guarded | go_step))
          go_roundw
          case rel => exact ⟨i + 1, some x, by omega, by go_num, rfl, P3.out, by show w.heap.size + 2 ≤ (put8 w9 (w.heap.size + 1) x).heap.size; rw [P4.out]; omega, P2.out, P1.out, P5.out, P6.out, by have := hu.out; simp [hfx] at this; exact this⟩
          case measure => simp [intOf]; omega
        | some y =>
          have CO2 := fun (w' : World) (h : Below w.heap.size w w') => CO.out x y w' h
          obtain ⟨o0, o1, o2, o3, o4, o5, o6, o7⟩ := id hO9
          obtain ⟨x0, x1, x2, x3, x4, x5, x6, x7⟩ := id hX9
          simp only [Nat.zero_add, Option.getD_some] at o0 o1 o2 o3 o4 o5 o6 o7 x1 x2 x3 x4 x5 x6 x7
          replace CO2 := Lib.hid CO2
          replace key := Lib.hid key
          repeat' ((fail_if_success at_builtin); (first | go_skip | go_guarded | go_step))
          refine (CO2.out _ hb19).mono ?_
          rintro e w10 ⟨rfl, hb10⟩
          dsimp only
          obtain ⟨hR10, hO10, hX10, fR10, fO10⟩ := key.out w10 hb10
          have hb110 := hb19.trans (hb10.mono hb19.size)
          have hs10 := hb10.size
          clear hO9 hX9 hR9 fR9 fO9 CO2 key o0 o1 o2 o3 o4 o5 o6 o7 x0 x1 x2 x3 x4 x5 x6 x7
          by_cases hg : 0 ≤ (fun a b : Ent => orI (laterI a b) (lowerI a b)) x y
          · obtain ⟨o0, o1, o2, o3, o4, o5, o6, o7⟩ := id hO10
            obtain ⟨x0, x1, x2, x3, x4, x5, x6, x7⟩ := id hX10
            simp only [Nat.zero_add, Option.getD_some] at o0 o1 o2 o3 o4 o5 o6 o7 x1 x2 x3 x4 x5 x6 x7
            have lx9 : wr.heap.size < w10.heap.size := by omega
            have lo9 : w.heap.size + 1 < w10.heap.size := by omega
            have P1 := put8_cells x hO10
            have P2 := hR10.map (fun j => put8_far w10 (w.heap.size + 1) x (p := ⟨w.heap.size, 0 + j, none⟩) (by show w.heap.size ≠ _; omega))
            have P3 := put8_below hb110 (show w.heap.size ≤ w.heap.size + 1 by omega) x
            have P4 := put8_size w10 (w.heap.size + 1) x
            have P5 := fun j => (put8_frozen w10 (w.heap.size + 1) x ⟨w.heap.size, j, none⟩).trans (fR10 j)
            have P6 := fun j => (put8_frozen w10 (w.heap.size + 1) x ⟨w.heap.size + 1, j, none⟩).trans (fO10 j)
            have hu2 : fin = bestF (fun x : Ent => Lib.hasPrefix x.key.data.toList q.data.toList) (fun a b : Ent => orI (laterI a b) (lowerI a b)) (some x) (l.drop (i + 1)) := by have := hu.out; simp [hfx, hg] at this; exact this
            replace P1 := Lib.hid P1
            replace P2 := Lib.hid P2
            replace P3 := Lib.hid P3
            replace P4 := Lib.hid P4
            replace P5 := Lib.hid P5
            replace P6 := Lib.hid P6
            replace hu2 := Lib.hid hu2
            clear hO10 hX10 hR10 fR10
            repeat' ((fail_if_success at_builtin); (first | go_skip | go_guarded | go_step))
            go_roundw
            case rel => exact ⟨i + 1, some x, by omega, by go_num, rfl, P3.out, by show w.heap.size + 2 ≤ (put8 w10 (w.heap.size + 1) x).heap.size; rw [P4.out]; omega, P2.out, P1.out, P5.out, P6.out, hu2.out⟩
            case measure => simp [intOf]; omega
          · have hu2 : fin = bestF (fun x : Ent => Lib.hasPrefix x.key.data.toList q.data.toList) (fun a b : Ent => orI (laterI a b) (lowerI a b)) (some y) (l.drop (i + 1)) := by have := hu.out; simp [hfx, hg] at this; exact this
            replace hu2 := Lib.hid hu2
            repeat' ((fail_if_success at_builtin); (first | go_skip | go_guarded | go_step))
            go_roundw
            case rel => exact ⟨i + 1, some y, by omega, by go_num, rfl, hb110, by omega, hR10, hO10, fR10, fO10, hu2.out⟩
            case measure => simp [intOf]; omega
    · have i1 : ¬ ((i : Int) < (n : Int)) := by omega
      rw [List.drop_of_length_le (by have := hn.out; omega), bestF_nil] at hu
      subst hu
      have P1 := put8_cells (fin.getD zeroE) hR
      have P3 := put8_below hb (Nat.le_refl w.heap.size) (fin.getD zeroE)
      obtain ⟨r0, r1, r2, r3, r4, r5, r6, r7⟩ := id hR
      simp only [Nat.zero_add] at r1 r2 r3 r4 r5 r6 r7
      generalize hqd : fin.getD zeroE = q at *
      replace hqd := Lib.hid hqd
      replace P1 := Lib.hid P1
      replace P3 := Lib.hid P3
      clear hR hO
      repeat' ((fail_if_success at_builtin); (first | go_skip | go_guarded | go_step))
      have Q : CellsE _ w.heap.size 0 q := P1.out
      obtain ⟨q0, q1, q2, q3, q4, q5, q6, q7⟩ := Q
      simp only [Nat.zero_add] at q1 q2 q3 q4 q5 q6 q7
      have hbF := P3.out
      unfold put8 at q0 q1 q2 q3 q4 q5 q6 q7 hbF
      generalize World.setCell (World.setCell (World.setCell (World.setCell (World.setCell (World.setCell (World.setCell (World.setCell wr _ _) _ _) _ _) _ _) _ _) _ _) _ _) _ _ = wf at *
      refine bodyPost_ret (v := .tuple #[.agg (ent8 q), .bool fin.isSome]) (by simp only [results, Tryd.results50]; go_simp; try exact ⟨rfl, rfl⟩) rfl ?_
      exact ⟨by rw [hqd.out], hbF⟩
end Go.Proofs.YtpdlapdnjmoaoaaDoor
