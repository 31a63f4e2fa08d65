/- Cache: lists of entries: Used, Find. -/
import Derived.Test.YtpdlapdnjmoaoaaDoorCaN
import Derived.Laws.StructEq
namespace Go.Proofs.YtpdlapdnjmoaoaaDoor
open Go.RowKit
theorem flatE_at {α : Type} {f : α → List Value} {sz : Nat} (hf : ∀ x, (f x).length = sz) : ∀ {l : List α} {i : Nat} {x : α} {j : Nat} {u : Value}, l[i]? = some x → (f x)[j]? = some u → (l.flatMap f)[i * sz + j]? = some u
  | [], _, _, _, _, h, _ => by simp at h
  | y :: l, 0, x, j, u, h, hu => by
    simp only [List.getElem?_cons_zero, Option.some.injEq] at h
    subst h
    have hj := (List.getElem?_eq_some_iff.1 hu).1
    rw [List.flatMap_cons, Nat.zero_mul, Nat.zero_add, List.getElem?_append_left hj]; exact hu
  | y :: l, i + 1, x, j, u, h, hu => by
    rw [List.flatMap_cons, Nat.add_mul, List.getElem?_append_right (by rw [hf]; omega), hf, ← flatE_at hf (l := l) (i := i) (by simpa using h) hu]
    congr 1
    omega
theorem flat8 {l : List Ent} {i : Nat} {x : Ent} {j : Nat} {u : Value} (h : l[i]? = some x) (hu : (ent8 x).toList[j]? = some u) : (entsC l)[i * 8 + j]? = some u := flatE_at (f := fun e => (ent8 e).toList) (sz := 8) (fun _ => rfl) h hu
theorem entsC_len (l : List Ent) : (entsC l).length = l.length * 8 := by
  induction l with
  | nil => rfl
  | cons x l ih =>
    simp only [entsC, List.flatMap_cons, List.length_append] at *
    rw [ih]
    simp
    omega
/-- the cells of an element -/
structure CellsE (w : World) (b o : Nat) (x : Ent) : Prop where
  c0 : w.cell? ⟨b, o, none⟩ = some (.string x.sc.prj)
  c1 : w.cell? ⟨b, o + 1, none⟩ = some (.int .i64 x.sc.trust)
  c2 : w.cell? ⟨b, o + 2, none⟩ = some (.string x.sc.ref)
  c3 : w.cell? ⟨b, o + 3, none⟩ = some (.string x.key)
  c4 : w.cell? ⟨b, o + 4, none⟩ = some (.int .u64 x.dig)
  c5 : w.cell? ⟨b, o + 5, none⟩ = some (.int .i64 x.size)
  c6 : w.cell? ⟨b, o + 6, none⟩ = some (.int .i64 x.created)
  c7 : w.cell? ⟨b, o + 7, none⟩ = some (.int .i64 x.used)
theorem CellsE.map {w w' : World} {b o : Nat} {x : Ent} (h : CellsE w b o x) (hk : ∀ j, w'.cell? ⟨b, o + j, none⟩ = w.cell? ⟨b, o + j, none⟩) : CellsE w' b o x :=
  ⟨(hk 0).trans h.c0, (hk 1).trans h.c1, (hk 2).trans h.c2, (hk 3).trans h.c3, (hk 4).trans h.c4, (hk 5).trans h.c5, (hk 6).trans h.c6, (hk 7).trans h.c7⟩
theorem ent_at {w : World} {B n i : Nat} {A : Option Addr} {l : List Ent} {x : Ent} (hs : Seq w B 8 A n (entsC l)) (hn : n = l.length) (hx : l[i]? = some x) : ∃ b o, A = some ⟨b, o, none⟩ ∧ b < B ∧ CellsE w b (o + i * 8) x := by
  have hi := (List.getElem?_eq_some_iff.1 hx).1
  obtain ⟨b, o, rfl, hb, hc⟩ := hs.2 (by omega)
  have g := fun j u (hu : (ent8 x).toList[j]? = some u) => hc _ _ (flat8 hx hu)
  simp only [← Nat.add_assoc] at g
  exact ⟨b, o, rfl, hb, g 0 _ rfl, g 1 _ rfl, g 2 _ rfl, g 3 _ rfl, g 4 _ rfl, g 5 _ rfl, g 6 _ rfl, g 7 _ rfl⟩
def usedF : List Ent → Int → Int
  | [], n => n
  | x :: l, n => usedF l (satI (n + x.size))
def usedS (l : List Ent) : Int := usedF l 0
theorem sat_I64 (x : Int) : I64 (satI x) := by
  unfold satI I64
  split
  · omega
  · split <;> omega
abbrev cval (z : Int) (A : Option Addr) (n c : Nat) : Value := .agg #[.int .i64 z, .slice A n c]
set_option maxRecDepth 100000 in
set_option maxHeartbeats 1000000 in
theorem used_any (z : Int) (l : List Ent) (A : Option Addr) (n c : Nat) (w : World) (hn : n = l.length) (hs : Seq w w.heap.size 8 A n (entsC l)) (hl : n ≤ 1000000000) (hz : ∀ x ∈ l, I64 x.size) :
    Calls Tryd.prog 13 #[cval z A n c] w fun e w' => e = .returned (.int .i64 (usedS l)) ∧ Below w.heap.size w w' := by
  have hb0 := (Below.refl w.heap.size w).alloc (Nat.le_refl _) (.cells #[.int .i64 z, .slice A n c] 24)
  have z1 : (w.alloc (.cells #[.int .i64 z, .slice A n c] 24)).cell? ⟨w.heap.size, 1, none⟩ = some (.slice A n c) := by simp [go_sem]
  have zz : w.heap.size < (w.alloc (.cells #[.int .i64 z, .slice A n c] 24)).heap.size := by simp
  replace hz := Lib.hid hz
  replace hn := Lib.hid hn
  replace hs := Lib.hid hs
  go_enter Tryd.func13, Tryd.ntmps13
  repeat' ((fail_if_success at_builtin); (first | go_skip | go_guarded | go_step))
  generalize w.alloc (.cells #[.int .i64 z, .slice A n c] 24) = w1 at *
  go_loopw [3, 9] (fun u3 u9 wr => ∃ (i : Nat) (m : Int), i ≤ n ∧ u9 = .int .i64 (i : Int) ∧ u3 = .int .i64 m ∧ I64 m ∧ Below w.heap.size w wr ∧ Below w1.heap.size w1 wr ∧ usedS l = usedF (l.drop i) m) (fun _ u9 _ => n - (intOf u9).toNat)
  case atStart => exact ⟨0, 0, by omega, rfl, rfl, by unfold I64; omega, hb0, Below.refl _ _, rfl⟩
  case round =>
    obtain ⟨i, m, hi, rfl, rfl, hm, hb, hb1, hu⟩ := hrel
    have y1 := (hb1.cell (p := ⟨w.heap.size, 1, none⟩) zz).trans z1
    have zr := Nat.lt_of_lt_of_le zz hb1.size
    by_cases hlt : i < n
    · have hlt2 : i < l.length := by have := hn.out; omega
      have hx : l[i]? = some l[i] := List.getElem?_eq_getElem hlt2
      obtain ⟨b, o, rfl, hbB, hc⟩ := ent_at hs.out hn.out hx
      have hc := hc.map (fun j => hb.cell (p := ⟨b, o + i * 8 + j, none⟩) hbB)
      have hsz := hz.out _ (List.getElem_mem hlt2)
      rw [List.drop_eq_getElem_cons hlt2, usedF] at hu
      clear hx
      generalize l[i] = x at *
      obtain ⟨c0, c1, c2, c3, c4, c5, c6, c7⟩ := hc
      have i0 : (0 : Int) ≤ (i : Int) := by omega
      have i1 : (i : Int) < (n : Int) := by omega
      have i2 : IntKind.i64.wrap ((i : Int) + 1) = (i : Int) + 1 := IntWalk.i64_in _ (by omega)
      have C := fun w' => add_any m x.size w' hm hsz
      have hsat := sat_I64 (m + x.size)
      replace C := Lib.hid C
      replace hu := Lib.hid hu
      have hbl : b < wr.heap.size := Nat.lt_of_lt_of_le hbB hb.size
      repeat' ((fail_if_success at_builtin); (first | go_skip | go_guarded | go_step))
      have hb3 := (Below.refl wr.heap.size wr).alloc (Nat.le_refl _) (.cells (ent8 x) 42)
      refine (C.out _).mono ?_
      rintro e w3 ⟨rfl, hw3⟩
      dsimp only
      repeat' ((fail_if_success at_builtin); (first | go_skip | go_guarded | go_step))
      go_roundw
      case rel => exact ⟨i + 1, _, by omega, by go_num, rfl, hsat, hb.trans (hb3.mono hb.size), hb1.trans (hb3.mono hb1.size), hu.out⟩
      case measure => simp [intOf]; omega
    · have i1 : ¬ ((i : Int) < (n : Int)) := by omega
      rw [List.drop_of_length_le (by have := hn.out; omega), usedF] at hu
      replace hu := Lib.hid hu
      repeat' ((fail_if_success at_builtin); (first | go_skip | go_guarded | go_step))
      go_ret
      exact ⟨ret_i hu.out.symm, hb⟩
set_option maxRecDepth 100000 in
set_option maxHeartbeats 1000000 in
theorem refUsed_any (z : Int) (l : List Ent) (A : Option Addr) (n c : Nat) (w : World) (hn : n = l.length) (hs : Seq w w.heap.size 8 A n (entsC l)) (hl : n ≤ 1000000000) (hz : ∀ x ∈ l, I64 x.size) :
    Calls Tryd.prog 14 #[cval z A n c] w fun e w' => e = .returned (.int .i64 (usedS l)) ∧ Below w.heap.size w w' := by
  have hb0 := (Below.refl w.heap.size w).alloc (Nat.le_refl _) (.cells #[.int .i64 z, .slice A n c] 24)
  have z1 : (w.alloc (.cells #[.int .i64 z, .slice A n c] 24)).cell? ⟨w.heap.size, 1, none⟩ = some (.slice A n c) := by simp [go_sem]
  have zz : w.heap.size < (w.alloc (.cells #[.int .i64 z, .slice A n c] 24)).heap.size := by simp
  replace hz := Lib.hid hz
  replace hn := Lib.hid hn
  replace hs := Lib.hid hs
  go_enter Tryd.func14, Tryd.ntmps14
  repeat' ((fail_if_success at_builtin); (first | go_skip | go_guarded | go_step))
  generalize w.alloc (.cells #[.int .i64 z, .slice A n c] 24) = w1 at *
  go_loopw [3, 4] (fun u3 u9 wr => ∃ (i : Nat) (m : Int), i ≤ n ∧ u9 = .int .i64 (i : Int) ∧ u3 = .int .i64 m ∧ I64 m ∧ Below w.heap.size w wr ∧ Below w1.heap.size w1 wr ∧ usedS l = usedF (l.drop i) m) (fun _ u9 _ => n - (intOf u9).toNat)
  case atStart => exact ⟨0, 0, by omega, rfl, rfl, by unfold I64; omega, hb0, Below.refl _ _, rfl⟩
  case round =>
    obtain ⟨i, m, hi, rfl, rfl, hm, hb, hb1, hu⟩ := hrel
    have y1 := (hb1.cell (p := ⟨w.heap.size, 1, none⟩) zz).trans z1
    have zr := Nat.lt_of_lt_of_le zz hb1.size
    by_cases hlt : i < n
    · have hlt2 : i < l.length := by have := hn.out; omega
      have hx : l[i]? = some l[i] := List.getElem?_eq_getElem hlt2
      obtain ⟨b, o, rfl, hbB, hc⟩ := ent_at hs.out hn.out hx
      have hc := hc.map (fun j => hb.cell (p := ⟨b, o + i * 8 + j, none⟩) hbB)
      have hsz := hz.out _ (List.getElem_mem hlt2)
      rw [List.drop_eq_getElem_cons hlt2, usedF] at hu
      clear hx
      generalize l[i] = x at *
      obtain ⟨c0, c1, c2, c3, c4, c5, c6, c7⟩ := hc
      have i0 : (0 : Int) ≤ (i : Int) := by omega
      have i1 : (i : Int) < (n : Int) := by omega
      have i2 : IntKind.i64.wrap ((i : Int) + 1) = (i : Int) + 1 := IntWalk.i64_in _ (by omega)
      have C := fun w' => refAdd_any m x.size w' hm hsz
      have hsat := sat_I64 (m + x.size)
      replace C := Lib.hid C
      replace hu := Lib.hid hu
      have hbl : b < wr.heap.size := Nat.lt_of_lt_of_le hbB hb.size
      repeat' ((fail_if_success at_builtin); (first | go_skip | go_guarded | go_step))
      refine (C.out _).mono ?_
      rintro e w3 ⟨rfl, rfl⟩
      dsimp only
      repeat' ((fail_if_success at_builtin); (first | go_skip | go_guarded | go_step))
      go_roundw
      case rel => exact ⟨i + 1, _, by omega, by go_num, rfl, hsat, hb, hb1, hu.out⟩
      case measure => simp [intOf]; omega
    · have i1 : ¬ ((i : Int) < (n : Int)) := by omega
      rw [List.drop_of_length_le (by have := hn.out; omega), usedF] at hu
      replace hu := Lib.hid hu
      repeat' ((fail_if_success at_builtin); (first | go_skip | go_guarded | go_step))
      go_ret
      exact ⟨ret_i hu.out.symm, hb⟩
end Go.Proofs.YtpdlapdnjmoaoaaDoor
