/- Label: the program's reading. -/
import Derived.Test.YtppbblgdcckbdaaDoorLbD
import Derived.Test.YtppbblgdcckbdaaDoorShelf
import Derived.Lib.IndexMore
namespace Go.Proofs.YtppbblgdcckbdaaDoor
open Go.RowKit
def Ready (w : World) : Prop := (∃ m, w.cell? ⟨0, 0, none⟩ = some (.int .i64 m)) ∧ 0 < w.heap.size
theorem Ready.below {w w' : World} (h : Ready w) (hb : Below w.heap.size w w') : Ready w' := by
  obtain ⟨⟨m, hm⟩, hl⟩ := h
  exact ⟨⟨m, (hb.cell (p := ⟨0, 0, none⟩) hl).trans hm⟩, Nat.lt_of_lt_of_le hl hb.size⟩
theorem cutL_index {p : List UInt8} (hp : p ≠ []) : ∀ l : List UInt8, cutL p l = if 0 ≤ Lib.index l p then some (l.take (Lib.index l p).toNat, l.drop ((Lib.index l p).toNat + p.length)) else none
  | [] => by
    unfold cutL Lib.index
    rw [if_neg hp]
    cases p with
    | nil => exact absurd rfl hp
    | cons a b => rfl
  | c :: r => by
    have ih := cutL_index hp r
    have hge := Lib.index_ge r p
    unfold cutL Lib.index
    by_cases h : p.isPrefixOf (c :: r) = true
    · rw [if_pos h, if_pos h]
      simp
    · rw [if_neg h, if_neg h, ih]
      by_cases h1 : Lib.index r p = -1
      · rw [h1]
        rfl
      · have h2 : (Lib.index r p == -1) = false := by simpa using h1
        simp only [h2, Bool.false_eq_true, if_false]
        rw [if_pos (by omega), if_pos (by omega)]
        have h3 : (Lib.index r p + 1).toNat = (Lib.index r p).toNat + 1 := by omega
        rw [h3, Nat.add_right_comm]
        rfl
theorem cut_cutL {p : List UInt8} (hp : p ≠ []) (l : List UInt8) : Lib.cut l p = match cutL p l with
    | some (a, b) => (a, b, true)
    | none => (l, [], false) := by
  unfold Lib.cut
  rw [cutL_index hp l]
  by_cases h : 0 ≤ Lib.index l p
  · rw [if_pos h, if_pos h]
  · rw [if_neg h, if_neg h]
/-- what Cut returns -/
def CutR (w : World) (l p : List UInt8) (e : Ending) (w' : World) : Prop := Below w.heap.size w w' ∧ match cutL p l with
  | some (a, b) => e = .returned (.tuple #[.string (strS a), .string (strS b), .bool true])
  | none => e = .returned (.tuple #[.string (strS l), .string (strS []), .bool false])
theorem cut_any (s p : ByteArray) (hp : p.data.toList ≠ []) (w : World) (hR : Ready w) (hm : s.size ≤ 1000000) : Calls Tryd.prog 63 #[.string s, .string p] w (CutR w s.data.toList p.data.toList) := by
  obtain ⟨⟨m, hm0⟩, _⟩ := hR
  refine (Tryd.strings_Cut s p m w (by omega) hm0).mono ?_
  rintro e w' ⟨rfl, n, rfl⟩
  refine ⟨Below.drewN w n, ?_⟩
  rw [cut_cutL hp]
  cases h : cutL p.data.toList s.data.toList with
  | none => rfl
  | some x => rfl
def sgL : List (List UInt8 × Nat) := [([62, 61], 3), ([60, 61], 4), ([61], 5)]
theorem retC {p q : Prt} {b : Bool} (h : p = q) : Ending.returned (.tuple #[.agg (pval p), .bool b]) = Ending.returned (.tuple #[.agg (pval q), .bool b]) := by rw [h]
theorem cutL_len {p l a b : List UInt8} (h : cutL p l = some (a, b)) : a.length ≤ l.length ∧ b.length ≤ l.length := by
  rw [cutL_app h]
  simp
  omega
set_option maxRecDepth 100000 in
set_option maxHeartbeats 2000000 in
theorem signs_any (w : World) : Calls Tryd.prog 62 #[] w fun e w' => e = .returned (.agg #[.string ⟨#[62, 61]⟩, .int .i64 3, .string ⟨#[60, 61]⟩, .int .i64 4, .string ⟨#[61]⟩, .int .i64 5]) ∧ Below w.heap.size w w' := by
  go_enter Tryd.func62, Tryd.ntmps62
  repeat' ((fail_if_success at_builtin); (first | go_skip | go_guarded | go_step))
  generalize hwf : World.alloc w _ = wf
  have hb : Below w.heap.size w wf := by rw [← hwf]; exact (Below.refl _ _).alloc (Nat.le_refl _) _
  have q0 : wf.cell? ⟨w.heap.size, 0, none⟩ = some (.string ⟨#[62, 61]⟩) := by rw [← hwf]; simp [go_sem]
  have q1 : wf.cell? ⟨w.heap.size, 1, none⟩ = some (.int .i64 3) := by rw [← hwf]; simp [go_sem]
  have q2 : wf.cell? ⟨w.heap.size, 2, none⟩ = some (.string ⟨#[60, 61]⟩) := by rw [← hwf]; simp [go_sem]
  have q3 : wf.cell? ⟨w.heap.size, 3, none⟩ = some (.int .i64 4) := by rw [← hwf]; simp [go_sem]
  have q4 : wf.cell? ⟨w.heap.size, 4, none⟩ = some (.string ⟨#[61]⟩) := by rw [← hwf]; simp [go_sem]
  have q5 : wf.cell? ⟨w.heap.size, 5, none⟩ = some (.int .i64 5) := by rw [← hwf]; simp [go_sem]
  clear hwf
  refine bodyPost_ret (v := .agg #[.string ⟨#[62, 61]⟩, .int .i64 3, .string ⟨#[60, 61]⟩, .int .i64 4, .string ⟨#[61]⟩, .int .i64 5]) (by simp only [results, Tryd.results62]; go_simp; first | done | exact ⟨rfl, rfl, rfl, rfl, rfl, rfl⟩ | rfl) rfl ?_
  exact ⟨rfl, hb⟩
set_option maxRecDepth 100000 in
set_option maxHeartbeats 2000000 in
theorem compared_any (s : ByteArray) (w : World) (hR : Ready w) (hm : s.size ≤ 1000000) : Calls Tryd.prog 45 #[.string s] w fun e w' => ∃ b, e = .returned (.tuple #[.agg (pval (comL s.data.toList sgL)), .bool b]) ∧ Below w.heap.size w w' := by
  have hZ := Z3.new (w := w) (Below.refl _ _) 33 bad
  have k0 : ∀ w', (Instr.index 81 (.agg #[.string ⟨#[62, 61]⟩, .int .i64 3, .string ⟨#[60, 61]⟩, .int .i64 4, .string ⟨#[61]⟩, .int .i64 5]) (.int .i64 0)).run Tryd.prog w' = .ok (.agg #[.string ⟨#[62, 61]⟩, .int .i64 3]) w' := fun _ => by kernel_rfl
  have k1 : ∀ w', (Instr.index 81 (.agg #[.string ⟨#[62, 61]⟩, .int .i64 3, .string ⟨#[60, 61]⟩, .int .i64 4, .string ⟨#[61]⟩, .int .i64 5]) (.int .i64 1)).run Tryd.prog w' = .ok (.agg #[.string ⟨#[60, 61]⟩, .int .i64 4]) w' := fun _ => by kernel_rfl
  have k2 : ∀ w', (Instr.index 81 (.agg #[.string ⟨#[62, 61]⟩, .int .i64 3, .string ⟨#[60, 61]⟩, .int .i64 4, .string ⟨#[61]⟩, .int .i64 5]) (.int .i64 2)).run Tryd.prog w' = .ok (.agg #[.string ⟨#[61]⟩, .int .i64 5]) w' := fun _ => by kernel_rfl
  go_enter Tryd.func45, Tryd.ntmps45
  repeat' ((fail_if_success at_builtin); (first | go_skip | go_guarded | go_step))
  generalize hw1 : World.alloc w _ = w1
  replace hZ : Z3 w w1 w.heap.size bad := by rw [← hw1]; exact hZ
  clear hw1
  refine (signs_any _).mono ?_
  rintro e w2 ⟨rfl, hb2⟩
  dsimp only
  replace hZ := hZ.at hb2
  clear hb2
  repeat' ((fail_if_success at_builtin); (first | go_skip | go_guarded | go_step))
  go_loopw [12] (fun u12 wr => ∃ i : Nat, i ≤ 3 ∧ u12 = .int .i64 (i : Int) ∧ Z3 w wr w.heap.size bad ∧ comL s.data.toList sgL = comL s.data.toList (sgL.drop i)) (fun u12 _ => 3 - (intOf u12).toNat)
  case atStart => exact ⟨0, by omega, rfl, hZ, rfl⟩
  case round =>
    clear hZ
    obtain ⟨i, hi, rfl, hZ, hu⟩ := hrel
    have hcase : i = 0 ∨ i = 1 ∨ i = 2 ∨ i = 3 := by omega
    rcases hcase with rfl | rfl | rfl | rfl
    · have hu2 : comL s.data.toList sgL = match cutL [62, 61] s.data.toList with
          | none => comL s.data.toList (sgL.drop 1)
          | some (a, b) => partL 3 a b := hu
      have hba : Below wr.heap.size wr (wr.alloc (.cells #[.string ⟨#[62, 61]⟩, .int .i64 3] 80)) := (Below.refl _ _).alloc (Nat.le_refl _) _
      have x0 : (wr.alloc (.cells #[.string ⟨#[62, 61]⟩, .int .i64 3] 80)).cell? ⟨wr.heap.size, 1, none⟩ = some (.int .i64 3) := by simp [go_sem]
      have xz : wr.heap.size < (wr.alloc (.cells #[.string ⟨#[62, 61]⟩, .int .i64 3] 80)).heap.size := by simp
      replace hu2 := Lib.hid hu2
      clear hu
      repeat' ((fail_if_success at_builtin); (first | go_skip | go_guarded | go_step))
      generalize hw5 : World.alloc wr _ = w5
      replace hba : Below wr.heap.size wr w5 := by rw [← hw5]; exact hba
      replace x0 : w5.cell? ⟨wr.heap.size, 1, none⟩ = some (.int .i64 3) := by rw [← hw5]; exact x0
      replace xz : wr.heap.size < w5.heap.size := by rw [← hw5]; exact xz
      clear hw5
      replace hZ := hZ.at hba
      clear hba
      generalize wr.heap.size = b5 at *
      refine (cut_any s ⟨#[62, 61]⟩ (by decide) w5 (hR.below hZ.below) hm).mono ?_
      rintro e w6 ⟨hb6, hr⟩
      replace hZ := hZ.at hb6
      replace x0 := (hb6.cell (p := ⟨b5, 1, none⟩) xz).trans x0
      replace xz := Nat.lt_of_lt_of_le xz hb6.size
      clear hb6
      have hr2 : (match cutL [62, 61] s.data.toList with
        | some (a, b) => e = .returned (.tuple #[.string (strS a), .string (strS b), .bool true])
        | none => e = .returned (.tuple #[.string s, .string (strS []), .bool false])) := by rw [← strS_data s]; exact hr
      clear hr
      cases hc : cutL [62, 61] s.data.toList with
      | none =>
        rw [hc] at hr2
        obtain rfl := hr2
        dsimp only
        have hnx : comL s.data.toList sgL = comL s.data.toList (sgL.drop 1) := by rw [hu2.out, hc]
        replace hnx := Lib.hid hnx
        clear hc
        repeat' ((fail_if_success at_builtin); (first | go_skip | go_guarded | go_step))
        go_roundw
        case rel => exact ⟨1, by omega, by go_num, hZ, hnx.out⟩
        case measure => simp [intOf]
      | some x =>
        obtain ⟨a, b⟩ := x
        rw [hc] at hr2
        obtain rfl := hr2
        dsimp only
        obtain ⟨g1, g2⟩ := cutL_len hc
        rw [list_size] at g1 g2
        have hnx : comL s.data.toList sgL = partL 3 a b := by rw [hu2.out, hc]
        have hpl : comL s.data.toList sgL = match numL b with
          | none => bad
          | some n => if nameS a then ⟨3, a, n⟩ else bad := hnx
        replace hpl := Lib.hid hpl
        have C1 := fun w' => number_any (strS b) w' (by rw [strS_size]; omega)
        have C2 := fun w' => idName_any (strS a) w' (by rw [strS_size]; omega)
        simp only [strS_list] at C1 C2
        replace C1 := Lib.hid C1
        replace C2 := Lib.hid C2
        clear hc hnx
        repeat' ((fail_if_success at_builtin); (first | go_skip | go_guarded | go_step))
        refine (C1.out _).mono ?_
        rintro e w7 ⟨hr, hb7⟩
        replace hZ := hZ.at hb7
        replace x0 := (hb7.cell (p := ⟨b5, 1, none⟩) xz).trans x0
        replace xz := Nat.lt_of_lt_of_le xz hb7.size
        unfold NumR at hr
        cases hn : numL b with
        | none =>
          rw [hn] at hr
          obtain ⟨v, rfl⟩ := hr
          dsimp only
          have hq : comL s.data.toList sgL = bad := by rw [hpl.out, hn]
          replace hq := Lib.hid hq
          clear hn
          have c0 := hZ.c0
          have c1 := hZ.c1
          have c2 := hZ.c2
          have cf := hZ.fr
          repeat' ((fail_if_success at_builtin); (first | go_skip | go_guarded | go_step))
          generalize hwf : World.setCell (World.setCell (World.setCell _ _ _) _ _) _ _ = wf
          have hP : Z3 w wf w.heap.size bad := by rw [← hwf]; exact hZ.put bad
          clear hwf
          have q0 := hP.c0
          have q1 := hP.c1
          have q2 := hP.c2
          have hPb := hP.below
          clear hP
          refine bodyPost_ret (v := .tuple #[.agg (pval bad), .bool false]) (by simp only [results, Tryd.results45]; go_simp; first | done | exact ⟨rfl, rfl, rfl⟩ | rfl) rfl ?_
          exact ⟨_, retC (hq.out.symm), hPb⟩
        | some n =>
          rw [hn] at hr
          obtain rfl := hr
          dsimp only
          repeat' ((fail_if_success at_builtin); (first | go_skip | go_guarded | go_step))
          refine (C2.out _).mono ?_
          rintro e w8 ⟨rfl, hb8⟩
          dsimp only
          replace hZ := hZ.at hb8
          replace x0 := (hb8.cell (p := ⟨b5, 1, none⟩) xz).trans x0
          cases hnm : nameS a with
          | false =>
            have hq : comL s.data.toList sgL = bad := by rw [hpl.out, hn]; dsimp only; rw [hnm]; rfl
            replace hq := Lib.hid hq
            clear hn hnm
            have c0 := hZ.c0
            have c1 := hZ.c1
            have c2 := hZ.c2
            have cf := hZ.fr
            repeat' ((fail_if_success at_builtin); (first | go_skip | go_guarded | go_step))
            generalize hwf : World.setCell (World.setCell (World.setCell _ _ _) _ _) _ _ = wf
            have hP : Z3 w wf w.heap.size bad := by rw [← hwf]; exact hZ.put bad
            clear hwf
            have q0 := hP.c0
            have q1 := hP.c1
            have q2 := hP.c2
            have hPb := hP.below
            clear hP
            refine bodyPost_ret (v := .tuple #[.agg (pval bad), .bool false]) (by simp only [results, Tryd.results45]; go_simp; first | done | exact ⟨rfl, rfl, rfl⟩ | rfl) rfl ?_
            exact ⟨_, retC (hq.out.symm), hPb⟩
          | true =>
            have hq : comL s.data.toList sgL = ⟨3, a, n⟩ := by rw [hpl.out, hn]; dsimp only; rw [hnm]; rfl
            replace hq := Lib.hid hq
            clear hn hnm
            have c0 := hZ.c0
            have c1 := hZ.c1
            have c2 := hZ.c2
            have cf := hZ.fr
            repeat' ((fail_if_success at_builtin); (first | go_skip | go_guarded | go_step))
            generalize hwf : World.setCell (World.setCell (World.setCell _ _ _) _ _) _ _ = wf
            have hP : Z3 w wf w.heap.size ⟨3, a, n⟩ := by rw [← hwf]; exact hZ.put ⟨3, a, n⟩
            clear hwf
            have q0 := hP.c0
            have q1 := hP.c1
            have q2 := hP.c2
            have hPb := hP.below
            clear hP
            refine bodyPost_ret (v := .tuple #[.agg (pval ⟨3, a, n⟩), .bool true]) (by simp only [results, Tryd.results45]; go_simp; first | done | exact ⟨rfl, rfl, rfl⟩ | rfl) rfl ?_
            exact ⟨_, retC (hq.out.symm), hPb⟩
    · have hu2 : comL s.data.toList sgL = match cutL [60, 61] s.data.toList with
          | none => comL s.data.toList (sgL.drop 2)
          | some (a, b) => partL 4 a b := hu
      have hba : Below wr.heap.size wr (wr.alloc (.cells #[.string ⟨#[60, 61]⟩, .int .i64 4] 80)) := (Below.refl _ _).alloc (Nat.le_refl _) _
      have x0 : (wr.alloc (.cells #[.string ⟨#[60, 61]⟩, .int .i64 4] 80)).cell? ⟨wr.heap.size, 1, none⟩ = some (.int .i64 4) := by simp [go_sem]
      have xz : wr.heap.size < (wr.alloc (.cells #[.string ⟨#[60, 61]⟩, .int .i64 4] 80)).heap.size := by simp
      replace hu2 := Lib.hid hu2
      clear hu
      repeat' ((fail_if_success at_builtin); (first | go_skip | go_guarded | go_step))
      generalize hw5 : World.alloc wr _ = w5
      replace hba : Below wr.heap.size wr w5 := by rw [← hw5]; exact hba
      replace x0 : w5.cell? ⟨wr.heap.size, 1, none⟩ = some (.int .i64 4) := by rw [← hw5]; exact x0
      replace xz : wr.heap.size < w5.heap.size := by rw [← hw5]; exact xz
      clear hw5
      replace hZ := hZ.at hba
      clear hba
      generalize wr.heap.size = b5 at *
      refine (cut_any s ⟨#[60, 61]⟩ (by decide) w5 (hR.below hZ.below) hm).mono ?_
      rintro e w6 ⟨hb6, hr⟩
      replace hZ := hZ.at hb6
      replace x0 := (hb6.cell (p := ⟨b5, 1, none⟩) xz).trans x0
      replace xz := Nat.lt_of_lt_of_le xz hb6.size
      clear hb6
      have hr2 : (match cutL [60, 61] s.data.toList with
        | some (a, b) => e = .returned (.tuple #[.string (strS a), .string (strS b), .bool true])
        | none => e = .returned (.tuple #[.string s, .string (strS []), .bool false])) := by rw [← strS_data s]; exact hr
      clear hr
      cases hc : cutL [60, 61] s.data.toList with
      | none =>
        rw [hc] at hr2
        obtain rfl := hr2
        dsimp only
        have hnx : comL s.data.toList sgL = comL s.data.toList (sgL.drop 2) := by rw [hu2.out, hc]
        replace hnx := Lib.hid hnx
        clear hc
        repeat' ((fail_if_success at_builtin); (first | go_skip | go_guarded | go_step))
        go_roundw
        case rel => exact ⟨2, by omega, by go_num, hZ, hnx.out⟩
        case measure => simp [intOf]
      | some x =>
        obtain ⟨a, b⟩ := x
        rw [hc] at hr2
        obtain rfl := hr2
        dsimp only
        obtain ⟨g1, g2⟩ := cutL_len hc
        rw [list_size] at g1 g2
        have hnx : comL s.data.toList sgL = partL 4 a b := by rw [hu2.out, hc]
        have hpl : comL s.data.toList sgL = match numL b with
          | none => bad
          | some n => if nameS a then ⟨4, a, n⟩ else bad := hnx
        replace hpl := Lib.hid hpl
        have C1 := fun w' => number_any (strS b) w' (by rw [strS_size]; omega)
        have C2 := fun w' => idName_any (strS a) w' (by rw [strS_size]; omega)
        simp only [strS_list] at C1 C2
        replace C1 := Lib.hid C1
        replace C2 := Lib.hid C2
        clear hc hnx
        repeat' ((fail_if_success at_builtin); (first | go_skip | go_guarded | go_step))
        refine (C1.out _).mono ?_
        rintro e w7 ⟨hr, hb7⟩
        replace hZ := hZ.at hb7
        replace x0 := (hb7.cell (p := ⟨b5, 1, none⟩) xz).trans x0
        replace xz := Nat.lt_of_lt_of_le xz hb7.size
        unfold NumR at hr
        cases hn : numL b with
        | none =>
          rw [hn] at hr
          obtain ⟨v, rfl⟩ := hr
          dsimp only
          have hq : comL s.data.toList sgL = bad := by rw [hpl.out, hn]
          replace hq := Lib.hid hq
          clear hn
          have c0 := hZ.c0
          have c1 := hZ.c1
          have c2 := hZ.c2
          have cf := hZ.fr
          repeat' ((fail_if_success at_builtin); (first | go_skip | go_guarded | go_step))
          generalize hwf : World.setCell (World.setCell (World.setCell _ _ _) _ _) _ _ = wf
          have hP : Z3 w wf w.heap.size bad := by rw [← hwf]; exact hZ.put bad
          clear hwf
          have q0 := hP.c0
          have q1 := hP.c1
          have q2 := hP.c2
          have hPb := hP.below
          clear hP
          refine bodyPost_ret (v := .tuple #[.agg (pval bad), .bool false]) (by simp only [results, Tryd.results45]; go_simp; first | done | exact ⟨rfl, rfl, rfl⟩ | rfl) rfl ?_
          exact ⟨_, retC (hq.out.symm), hPb⟩
        | some n =>
          rw [hn] at hr
          obtain rfl := hr
          dsimp only
          repeat' ((fail_if_success at_builtin); (first | go_skip | go_guarded | go_step))
          refine (C2.out _).mono ?_
          rintro e w8 ⟨rfl, hb8⟩
          dsimp only
          replace hZ := hZ.at hb8
          replace x0 := (hb8.cell (p := ⟨b5, 1, none⟩) xz).trans x0
          cases hnm : nameS a with
          | false =>
            have hq : comL s.data.toList sgL = bad := by rw [hpl.out, hn]; dsimp only; rw [hnm]; rfl
            replace hq := Lib.hid hq
            clear hn hnm
            have c0 := hZ.c0
            have c1 := hZ.c1
            have c2 := hZ.c2
            have cf := hZ.fr
            repeat' ((fail_if_success at_builtin); (first | go_skip | go_guarded | go_step))
            generalize hwf : World.setCell (World.setCell (World.setCell _ _ _) _ _) _ _ = wf
            have hP : Z3 w wf w.heap.size bad := by rw [← hwf]; exact hZ.put bad
            clear hwf
            have q0 := hP.c0
            have q1 := hP.c1
            have q2 := hP.c2
            have hPb := hP.below
            clear hP
            refine bodyPost_ret (v := .tuple #[.agg (pval bad), .bool false]) (by simp only [results, Tryd.results45]; go_simp; first | done | exact ⟨rfl, rfl, rfl⟩ | rfl) rfl ?_
            exact ⟨_, retC (hq.out.symm), hPb⟩
          | true =>
            have hq : comL s.data.toList sgL = ⟨4, a, n⟩ := by rw [hpl.out, hn]; dsimp only; rw [hnm]; rfl
            replace hq := Lib.hid hq
            clear hn hnm
            have c0 := hZ.c0
            have c1 := hZ.c1
            have c2 := hZ.c2
            have cf := hZ.fr
            repeat' ((fail_if_success at_builtin); (first | go_skip | go_guarded | go_step))
            generalize hwf : World.setCell (World.setCell (World.setCell _ _ _) _ _) _ _ = wf
            have hP : Z3 w wf w.heap.size ⟨4, a, n⟩ := by rw [← hwf]; exact hZ.put ⟨4, a, n⟩
            clear hwf
            have q0 := hP.c0
            have q1 := hP.c1
            have q2 := hP.c2
            have hPb := hP.below
            clear hP
            refine bodyPost_ret (v := .tuple #[.agg (pval ⟨4, a, n⟩), .bool true]) (by simp only [results, Tryd.results45]; go_simp; first | done | exact ⟨rfl, rfl, rfl⟩ | rfl) rfl ?_
            exact ⟨_, retC (hq.out.symm), hPb⟩
    · have hu2 : comL s.data.toList sgL = match cutL [61] s.data.toList with
          | none => comL s.data.toList (sgL.drop 3)
          | some (a, b) => partL 5 a b := hu
      have hba : Below wr.heap.size wr (wr.alloc (.cells #[.string ⟨#[61]⟩, .int .i64 5] 80)) := (Below.refl _ _).alloc (Nat.le_refl _) _
      have x0 : (wr.alloc (.cells #[.string ⟨#[61]⟩, .int .i64 5] 80)).cell? ⟨wr.heap.size, 1, none⟩ = some (.int .i64 5) := by simp [go_sem]
      have xz : wr.heap.size < (wr.alloc (.cells #[.string ⟨#[61]⟩, .int .i64 5] 80)).heap.size := by simp
      replace hu2 := Lib.hid hu2
      clear hu
      repeat' ((fail_if_success at_builtin); (first | go_skip | go_guarded | go_step))
      generalize hw5 : World.alloc wr _ = w5
      replace hba : Below wr.heap.size wr w5 := by rw [← hw5]; exact hba
      replace x0 : w5.cell? ⟨wr.heap.size, 1, none⟩ = some (.int .i64 5) := by rw [← hw5]; exact x0
      replace xz : wr.heap.size < w5.heap.size := by rw [← hw5]; exact xz
      clear hw5
      replace hZ := hZ.at hba
      clear hba
      generalize wr.heap.size = b5 at *
      refine (cut_any s ⟨#[61]⟩ (by decide) w5 (hR.below hZ.below) hm).mono ?_
      rintro e w6 ⟨hb6, hr⟩
      replace hZ := hZ.at hb6
      replace x0 := (hb6.cell (p := ⟨b5, 1, none⟩) xz).trans x0
      replace xz := Nat.lt_of_lt_of_le xz hb6.size
      clear hb6
      have hr2 : (match cutL [61] s.data.toList with
        | some (a, b) => e = .returned (.tuple #[.string (strS a), .string (strS b), .bool true])
        | none => e = .returned (.tuple #[.string s, .string (strS []), .bool false])) := by rw [← strS_data s]; exact hr
      clear hr
      cases hc : cutL [61] s.data.toList with
      | none =>
        rw [hc] at hr2
        obtain rfl := hr2
        dsimp only
        have hnx : comL s.data.toList sgL = comL s.data.toList (sgL.drop 3) := by rw [hu2.out, hc]
        replace hnx := Lib.hid hnx
        clear hc
        repeat' ((fail_if_success at_builtin); (first | go_skip | go_guarded | go_step))
        go_roundw
        case rel => exact ⟨3, by omega, by go_num, hZ, hnx.out⟩
        case measure => simp [intOf]
      | some x =>
        obtain ⟨a, b⟩ := x
        rw [hc] at hr2
        obtain rfl := hr2
        dsimp only
        obtain ⟨g1, g2⟩ := cutL_len hc
        rw [list_size] at g1 g2
        have hnx : comL s.data.toList sgL = partL 5 a b := by rw [hu2.out, hc]
        have hpl : comL s.data.toList sgL = match numL b with
          | none => bad
          | some n => if nameS a then ⟨5, a, n⟩ else bad := hnx
        replace hpl := Lib.hid hpl
        have C1 := fun w' => number_any (strS b) w' (by rw [strS_size]; omega)
        have C2 := fun w' => idName_any (strS a) w' (by rw [strS_size]; omega)
        simp only [strS_list] at C1 C2
        replace C1 := Lib.hid C1
        replace C2 := Lib.hid C2
        clear hc hnx
        repeat' ((fail_if_success at_builtin); (first | go_skip | go_guarded | go_step))
        refine (C1.out _).mono ?_
        rintro e w7 ⟨hr, hb7⟩
        replace hZ := hZ.at hb7
        replace x0 := (hb7.cell (p := ⟨b5, 1, none⟩) xz).trans x0
        replace xz := Nat.lt_of_lt_of_le xz hb7.size
        unfold NumR at hr
        cases hn : numL b with
        | none =>
          rw [hn] at hr
          obtain ⟨v, rfl⟩ := hr
          dsimp only
          have hq : comL s.data.toList sgL = bad := by rw [hpl.out, hn]
          replace hq := Lib.hid hq
          clear hn
          have c0 := hZ.c0
          have c1 := hZ.c1
          have c2 := hZ.c2
          have cf := hZ.fr
          repeat' ((fail_if_success at_builtin); (first | go_skip | go_guarded | go_step))
          generalize hwf : World.setCell (World.setCell (World.setCell _ _ _) _ _) _ _ = wf
          have hP : Z3 w wf w.heap.size bad := by rw [← hwf]; exact hZ.put bad
          clear hwf
          have q0 := hP.c0
          have q1 := hP.c1
          have q2 := hP.c2
          have hPb := hP.below
          clear hP
          refine bodyPost_ret (v := .tuple #[.agg (pval bad), .bool false]) (by simp only [results, Tryd.results45]; go_simp; first | done | exact ⟨rfl, rfl, rfl⟩ | rfl) rfl ?_
          exact ⟨_, retC (hq.out.symm), hPb⟩
        | some n =>
          rw [hn] at hr
          obtain rfl := hr
          dsimp only
          repeat' ((fail_if_success at_builtin); (first | go_skip | go_guarded | go_step))
          refine (C2.out _).mono ?_
          rintro e w8 ⟨rfl, hb8⟩
          dsimp only
          replace hZ := hZ.at hb8
          replace x0 := (hb8.cell (p := ⟨b5, 1, none⟩) xz).trans x0
          cases hnm : nameS a with
          | false =>
            have hq : comL s.data.toList sgL = bad := by rw [hpl.out, hn]; dsimp only; rw [hnm]; rfl
            replace hq := Lib.hid hq
            clear hn hnm
            have c0 := hZ.c0
            have c1 := hZ.c1
            have c2 := hZ.c2
            have cf := hZ.fr
            repeat' ((fail_if_success at_builtin); (first | go_skip | go_guarded | go_step))
            generalize hwf : World.setCell (World.setCell (World.setCell _ _ _) _ _) _ _ = wf
            have hP : Z3 w wf w.heap.size bad := by rw [← hwf]; exact hZ.put bad
            clear hwf
            have q0 := hP.c0
            have q1 := hP.c1
            have q2 := hP.c2
            have hPb := hP.below
            clear hP
            refine bodyPost_ret (v := .tuple #[.agg (pval bad), .bool false]) (by simp only [results, Tryd.results45]; go_simp; first | done | exact ⟨rfl, rfl, rfl⟩ | rfl) rfl ?_
            exact ⟨_, retC (hq.out.symm), hPb⟩
          | true =>
            have hq : comL s.data.toList sgL = ⟨5, a, n⟩ := by rw [hpl.out, hn]; dsimp only; rw [hnm]; rfl
            replace hq := Lib.hid hq
            clear hn hnm
            have c0 := hZ.c0
            have c1 := hZ.c1
            have c2 := hZ.c2
            have cf := hZ.fr
            repeat' ((fail_if_success at_builtin); (first | go_skip | go_guarded | go_step))
            generalize hwf : World.setCell (World.setCell (World.setCell _ _ _) _ _) _ _ = wf
            have hP : Z3 w wf w.heap.size ⟨5, a, n⟩ := by rw [← hwf]; exact hZ.put ⟨5, a, n⟩
            clear hwf
            have q0 := hP.c0
            have q1 := hP.c1
            have q2 := hP.c2
            have hPb := hP.below
            clear hP
            refine bodyPost_ret (v := .tuple #[.agg (pval ⟨5, a, n⟩), .bool true]) (by simp only [results, Tryd.results45]; go_simp; first | done | exact ⟨rfl, rfl, rfl⟩ | rfl) rfl ?_
            exact ⟨_, retC (hq.out.symm), hPb⟩
    · have hq : comL s.data.toList sgL = bad := hu
      replace hq := Lib.hid hq
      clear hu
      have c0 := hZ.c0
      have c1 := hZ.c1
      have c2 := hZ.c2
      have cf := hZ.fr
      repeat' ((fail_if_success at_builtin); (first | go_skip | go_guarded | go_step))
      generalize hwf : World.setCell (World.setCell (World.setCell _ _ _) _ _) _ _ = wf
      have hP : Z3 w wf w.heap.size bad := by rw [← hwf]; exact hZ.put bad
      clear hwf
      have q0 := hP.c0
      have q1 := hP.c1
      have q2 := hP.c2
      have hPb := hP.below
      clear hP
      refine bodyPost_ret (v := .tuple #[.agg (pval bad), .bool false]) (by simp only [results, Tryd.results45]; go_simp; first | done | exact ⟨rfl, rfl, rfl⟩ | rfl) rfl ?_
      exact ⟨_, retC (hq.out.symm), hPb⟩
end Go.Proofs.YtppbblgdcckbdaaDoor
