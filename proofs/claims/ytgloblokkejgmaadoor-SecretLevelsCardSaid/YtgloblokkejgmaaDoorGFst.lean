/- The element with which a pattern begins: the walk. -/
import Derived.Test.YtgloblokkejgmaaDoorGCls
namespace Go.Proofs.YtgloblokkejgmaaDoor
open Go.RowKit
def fstS (l : List UInt8) : Option (El × Nat) := match l[0]? with
  | none => none
  | some c => if c.toNat = 42 then (if l[1]?.map UInt8.toNat = some 42 then some (⟨mostS true, true, false, 0⟩, 2) else some (⟨mostS false, true, false, 0⟩, 1))
    else if c.toNat = 63 then some (⟨mostS false, false, false, 0⟩, 1)
    else if c.toNat = 91 then (match clsS l with
      | none => none
      | some (s, n) => some (⟨s, false, false, 0⟩, n))
    else if c.toNat = 92 then (match l[1]? with
      | none => none
      | some d => some (litE d.toNat, 2))
    else some (litE c.toNat, 1)
def RetE (w : World) (r : Option (El × Nat)) (e : Ending) (w' : World) : Prop := ∃ (E : El) (n : Nat), e = .returned (.tuple #[.agg (ecells E), .int .i64 (n : Int)]) ∧ (r = none → n = 0) ∧ (∀ E' n', r = some (E', n') → E = E' ∧ n = n') ∧ Below w.heap.size w w'
def zeroE : El := ⟨zeroS, false, false, 0⟩
set_option maxRecDepth 100000 in
set_option maxHeartbeats 6000000 in
theorem first_any (s : ByteArray) (w : World) (hm : s.size ≤ 1000000) (h0 : 0 < s.size) : Calls Tryd.prog 86 #[.string s] w (RetE w (fstS s.data.toList)) := by
  have hsz : s.data.toList.length = s.size := by simp
  have hat := str_at h0
  have hb0 := (Below.refl w.heap.size w).alloc (Nat.le_refl _) (.cells (ecells zeroE) 110)
  have i0 : (0 : Int) < (s.size : Int) := by omega
  have z0 : (w.alloc (.cells (ecells zeroE) 110)).cell? ⟨w.heap.size, 0, none⟩ = some (.int .u64 0) := by simp [go_sem, zeroE, zeroS]
  have z1 : (w.alloc (.cells (ecells zeroE) 110)).cell? ⟨w.heap.size, 1, none⟩ = some (.int .u64 0) := by simp [go_sem, zeroE, zeroS]
  have z2 : (w.alloc (.cells (ecells zeroE) 110)).cell? ⟨w.heap.size, 2, none⟩ = some (.int .u64 0) := by simp [go_sem, zeroE, zeroS]
  have z3 : (w.alloc (.cells (ecells zeroE) 110)).cell? ⟨w.heap.size, 3, none⟩ = some (.int .u64 0) := by simp [go_sem, zeroE, zeroS]
  have z4 : (w.alloc (.cells (ecells zeroE) 110)).cell? ⟨w.heap.size, 4, none⟩ = some (.bool false) := by simp [go_sem, zeroE, zeroS]
  have z5 : (w.alloc (.cells (ecells zeroE) 110)).cell? ⟨w.heap.size, 5, none⟩ = some (.bool false) := by simp [go_sem, zeroE, zeroS]
  have z6 : (w.alloc (.cells (ecells zeroE) 110)).cell? ⟨w.heap.size, 6, none⟩ = some (.int .u8 0) := by simp [go_sem, zeroE, zeroS]
  have zf : ∀ j, (w.alloc (.cells (ecells zeroE) 110)).frozen? ⟨w.heap.size, j, none⟩ = false := fun j => by simp [go_sem]
  have hz : w.heap.size < (w.alloc (.cells (ecells zeroE) 110)).heap.size := by simp
  have CM := fun (b : Bool) => most_any b (w.alloc (.cells (ecells zeroE) 110))
  have CC := class_any s (w.alloc (.cells (ecells zeroE) 110)) hm h0
  have CL := fun (c : Nat) (hc : c < 256) => lit_any c (w.alloc (.cells (ecells zeroE) 110)) hc
  replace CM := Lib.hid CM
  replace CC := Lib.hid CC
  replace CL := Lib.hid CL
  replace zf := Lib.hid zf
  have hlt256 := s[0].toNat_lt
  generalize hl : s.data.toList = l at *
  by_cases c42 : s[0].toNat = 42
  · have q42 : (s[0].toNat : Int) = 42 := by omega
    by_cases d42 : l[1]?.map UInt8.toNat = some 42
    · have h1 : 1 < s.size := by
        cases hq : l[1]? with
        | none => rw [hq] at d42; cases d42
        | some z => have := (List.getElem?_eq_some_iff.1 hq).1; omega
      have hat1 := str_at h1
      rw [hl] at hat1
      have hx : s[1].toNat = 42 := by rw [hat1] at d42; simpa using d42
      have hres : fstS l = some (⟨mostS true, true, false, 0⟩, 2) := by unfold fstS; rw [hat]; dsimp only; rw [if_pos c42, if_pos d42]
      have q1 : (1 : Int) < (s.size : Int) := by omega
      have q2 : (s[1].toNat : Int) = 42 := by omega
      have q3 : ((s[1].toNat : Int) == 42) = true := by simp; omega
      go_enter Tryd.func86, Tryd.ntmps86
      repeat' ((fail_if_success at_builtin); (first | go_skip | go_guarded | go_step))
      refine (CM.out true).mono ?_
      rintro e w2 ⟨rfl, hb2⟩
      dsimp only
      have hb3 := hb0.trans (hb2.mono (Nat.le_of_lt hz))
      have y0 := (hb2.cell (p := ⟨w.heap.size, 0, none⟩) hz).trans z0
      have y1 := (hb2.cell (p := ⟨w.heap.size, 1, none⟩) hz).trans z1
      have y2 := (hb2.cell (p := ⟨w.heap.size, 2, none⟩) hz).trans z2
      have y3 := (hb2.cell (p := ⟨w.heap.size, 3, none⟩) hz).trans z3
      have y4 := (hb2.cell (p := ⟨w.heap.size, 4, none⟩) hz).trans z4
      have y5 := (hb2.cell (p := ⟨w.heap.size, 5, none⟩) hz).trans z5
      have y6 := (hb2.cell (p := ⟨w.heap.size, 6, none⟩) hz).trans z6
      have f0 := (hb2.frozen (p := ⟨w.heap.size, 0, none⟩) hz).trans (zf 0)
      have f1 := (hb2.frozen (p := ⟨w.heap.size, 1, none⟩) hz).trans (zf 1)
      have f2 := (hb2.frozen (p := ⟨w.heap.size, 2, none⟩) hz).trans (zf 2)
      have f3 := (hb2.frozen (p := ⟨w.heap.size, 3, none⟩) hz).trans (zf 3)
      have f4 := (hb2.frozen (p := ⟨w.heap.size, 4, none⟩) hz).trans (zf 4)
      have f5 := (hb2.frozen (p := ⟨w.heap.size, 5, none⟩) hz).trans (zf 5)
      have f6 := (hb2.frozen (p := ⟨w.heap.size, 6, none⟩) hz).trans (zf 6)
      clear CM CC CL z0 z1 z2 z3 z4 z5 z6 zf
      repeat' ((fail_if_success at_builtin); (first | go_skip | go_guarded | go_step))
      refine bodyPost_ret (v := .tuple #[.agg (ecells ⟨mostS true, true, false, 0⟩), .int .i64 (2 : Nat)]) ?_ rfl ?_
      · simp only [results, Tryd.results86]
        go_simp
        try exact ⟨rfl, rfl, rfl, rfl, rfl, rfl, rfl⟩
      · refine ⟨⟨mostS true, true, false, 0⟩, _, rfl, ?_, ?_, (((((((hb3.setCell (p := ⟨w.heap.size, 0, none⟩) (Nat.le_refl _) _).setCell (p := ⟨w.heap.size, 1, none⟩) (Nat.le_refl _) _).setCell (p := ⟨w.heap.size, 2, none⟩) (Nat.le_refl _) _).setCell (p := ⟨w.heap.size, 3, none⟩) (Nat.le_refl _) _).setCell (p := ⟨w.heap.size, 4, none⟩) (Nat.le_refl _) _).setCell (p := ⟨w.heap.size, 5, none⟩) (Nat.le_refl _) _).setCell (p := ⟨w.heap.size, 6, none⟩) (Nat.le_refl _) _)⟩
        · intro h; rw [hres] at h; cases h
        · intro E' n' h; rw [hres] at h; cases h; exact ⟨rfl, rfl⟩
    · have hres : fstS l = some (⟨mostS false, true, false, 0⟩, 1) := by unfold fstS; rw [hat]; dsimp only; rw [if_pos c42, if_neg d42]
      by_cases h1 : 1 < s.size
      · have hat1 := str_at h1
        rw [hl] at hat1
        have q1 : (1 : Int) < (s.size : Int) := by omega
        have hx : ¬ s[1].toNat = 42 := by intro h; apply d42; rw [hat1]; simp [h]
        have q3 : ((s[1].toNat : Int) == 42) = false := by simp; omega
        go_enter Tryd.func86, Tryd.ntmps86
        repeat' ((fail_if_success at_builtin); (first | go_skip | go_guarded | go_step))
        refine (CM.out false).mono ?_
        rintro e w2 ⟨rfl, hb2⟩
        dsimp only
        have hb3 := hb0.trans (hb2.mono (Nat.le_of_lt hz))
        have y0 := (hb2.cell (p := ⟨w.heap.size, 0, none⟩) hz).trans z0
        have y1 := (hb2.cell (p := ⟨w.heap.size, 1, none⟩) hz).trans z1
        have y2 := (hb2.cell (p := ⟨w.heap.size, 2, none⟩) hz).trans z2
        have y3 := (hb2.cell (p := ⟨w.heap.size, 3, none⟩) hz).trans z3
        have y4 := (hb2.cell (p := ⟨w.heap.size, 4, none⟩) hz).trans z4
        have y5 := (hb2.cell (p := ⟨w.heap.size, 5, none⟩) hz).trans z5
        have y6 := (hb2.cell (p := ⟨w.heap.size, 6, none⟩) hz).trans z6
        have f0 := (hb2.frozen (p := ⟨w.heap.size, 0, none⟩) hz).trans (zf 0)
        have f1 := (hb2.frozen (p := ⟨w.heap.size, 1, none⟩) hz).trans (zf 1)
        have f2 := (hb2.frozen (p := ⟨w.heap.size, 2, none⟩) hz).trans (zf 2)
        have f3 := (hb2.frozen (p := ⟨w.heap.size, 3, none⟩) hz).trans (zf 3)
        have f4 := (hb2.frozen (p := ⟨w.heap.size, 4, none⟩) hz).trans (zf 4)
        have f5 := (hb2.frozen (p := ⟨w.heap.size, 5, none⟩) hz).trans (zf 5)
        have f6 := (hb2.frozen (p := ⟨w.heap.size, 6, none⟩) hz).trans (zf 6)
        clear CM CC CL z0 z1 z2 z3 z4 z5 z6 zf
        repeat' ((fail_if_success at_builtin); (first | go_skip | go_guarded | go_step))
        refine bodyPost_ret (v := .tuple #[.agg (ecells ⟨mostS false, true, false, 0⟩), .int .i64 (1 : Nat)]) ?_ rfl ?_
        · simp only [results, Tryd.results86]
          go_simp
          try exact ⟨rfl, rfl, rfl, rfl, rfl, rfl, rfl⟩
        · refine ⟨⟨mostS false, true, false, 0⟩, _, rfl, ?_, ?_, (((((((hb3.setCell (p := ⟨w.heap.size, 0, none⟩) (Nat.le_refl _) _).setCell (p := ⟨w.heap.size, 1, none⟩) (Nat.le_refl _) _).setCell (p := ⟨w.heap.size, 2, none⟩) (Nat.le_refl _) _).setCell (p := ⟨w.heap.size, 3, none⟩) (Nat.le_refl _) _).setCell (p := ⟨w.heap.size, 4, none⟩) (Nat.le_refl _) _).setCell (p := ⟨w.heap.size, 5, none⟩) (Nat.le_refl _) _).setCell (p := ⟨w.heap.size, 6, none⟩) (Nat.le_refl _) _)⟩
          · intro h; rw [hres] at h; cases h
          · intro E' n' h; rw [hres] at h; cases h; exact ⟨rfl, rfl⟩
      · have q1 : ¬ ((1 : Int) < (s.size : Int)) := by omega
        go_enter Tryd.func86, Tryd.ntmps86
        repeat' ((fail_if_success at_builtin); (first | go_skip | go_guarded | go_step))
        refine (CM.out false).mono ?_
        rintro e w2 ⟨rfl, hb2⟩
        dsimp only
        have hb3 := hb0.trans (hb2.mono (Nat.le_of_lt hz))
        have y0 := (hb2.cell (p := ⟨w.heap.size, 0, none⟩) hz).trans z0
        have y1 := (hb2.cell (p := ⟨w.heap.size, 1, none⟩) hz).trans z1
        have y2 := (hb2.cell (p := ⟨w.heap.size, 2, none⟩) hz).trans z2
        have y3 := (hb2.cell (p := ⟨w.heap.size, 3, none⟩) hz).trans z3
        have y4 := (hb2.cell (p := ⟨w.heap.size, 4, none⟩) hz).trans z4
        have y5 := (hb2.cell (p := ⟨w.heap.size, 5, none⟩) hz).trans z5
        have y6 := (hb2.cell (p := ⟨w.heap.size, 6, none⟩) hz).trans z6
        have f0 := (hb2.frozen (p := ⟨w.heap.size, 0, none⟩) hz).trans (zf 0)
        have f1 := (hb2.frozen (p := ⟨w.heap.size, 1, none⟩) hz).trans (zf 1)
        have f2 := (hb2.frozen (p := ⟨w.heap.size, 2, none⟩) hz).trans (zf 2)
        have f3 := (hb2.frozen (p := ⟨w.heap.size, 3, none⟩) hz).trans (zf 3)
        have f4 := (hb2.frozen (p := ⟨w.heap.size, 4, none⟩) hz).trans (zf 4)
        have f5 := (hb2.frozen (p := ⟨w.heap.size, 5, none⟩) hz).trans (zf 5)
        have f6 := (hb2.frozen (p := ⟨w.heap.size, 6, none⟩) hz).trans (zf 6)
        clear CM CC CL z0 z1 z2 z3 z4 z5 z6 zf
        repeat' ((fail_if_success at_builtin); (first | go_skip | go_guarded | go_step))
        refine bodyPost_ret (v := .tuple #[.agg (ecells ⟨mostS false, true, false, 0⟩), .int .i64 (1 : Nat)]) ?_ rfl ?_
        · simp only [results, Tryd.results86]
          go_simp
          try exact ⟨rfl, rfl, rfl, rfl, rfl, rfl, rfl⟩
        · refine ⟨⟨mostS false, true, false, 0⟩, _, rfl, ?_, ?_, (((((((hb3.setCell (p := ⟨w.heap.size, 0, none⟩) (Nat.le_refl _) _).setCell (p := ⟨w.heap.size, 1, none⟩) (Nat.le_refl _) _).setCell (p := ⟨w.heap.size, 2, none⟩) (Nat.le_refl _) _).setCell (p := ⟨w.heap.size, 3, none⟩) (Nat.le_refl _) _).setCell (p := ⟨w.heap.size, 4, none⟩) (Nat.le_refl _) _).setCell (p := ⟨w.heap.size, 5, none⟩) (Nat.le_refl _) _).setCell (p := ⟨w.heap.size, 6, none⟩) (Nat.le_refl _) _)⟩
          · intro h; rw [hres] at h; cases h
          · intro E' n' h; rw [hres] at h; cases h; exact ⟨rfl, rfl⟩
  · have q42 : ((s[0].toNat : Int) == 42) = false := by simp; omega
    by_cases c63 : s[0].toNat = 63
    · have q63 : (s[0].toNat : Int) = 63 := by omega
      have hres : fstS l = some (⟨mostS false, false, false, 0⟩, 1) := by unfold fstS; rw [hat]; dsimp only; rw [if_neg c42, if_pos c63]
      go_enter Tryd.func86, Tryd.ntmps86
      repeat' ((fail_if_success at_builtin); (first | go_skip | go_guarded | go_step))
      refine (CM.out false).mono ?_
      rintro e w2 ⟨rfl, hb2⟩
      dsimp only
      have hb3 := hb0.trans (hb2.mono (Nat.le_of_lt hz))
      have y0 := (hb2.cell (p := ⟨w.heap.size, 0, none⟩) hz).trans z0
      have y1 := (hb2.cell (p := ⟨w.heap.size, 1, none⟩) hz).trans z1
      have y2 := (hb2.cell (p := ⟨w.heap.size, 2, none⟩) hz).trans z2
      have y3 := (hb2.cell (p := ⟨w.heap.size, 3, none⟩) hz).trans z3
      have y4 := (hb2.cell (p := ⟨w.heap.size, 4, none⟩) hz).trans z4
      have y5 := (hb2.cell (p := ⟨w.heap.size, 5, none⟩) hz).trans z5
      have y6 := (hb2.cell (p := ⟨w.heap.size, 6, none⟩) hz).trans z6
      have f0 := (hb2.frozen (p := ⟨w.heap.size, 0, none⟩) hz).trans (zf 0)
      have f1 := (hb2.frozen (p := ⟨w.heap.size, 1, none⟩) hz).trans (zf 1)
      have f2 := (hb2.frozen (p := ⟨w.heap.size, 2, none⟩) hz).trans (zf 2)
      have f3 := (hb2.frozen (p := ⟨w.heap.size, 3, none⟩) hz).trans (zf 3)
      have f4 := (hb2.frozen (p := ⟨w.heap.size, 4, none⟩) hz).trans (zf 4)
      have f5 := (hb2.frozen (p := ⟨w.heap.size, 5, none⟩) hz).trans (zf 5)
      have f6 := (hb2.frozen (p := ⟨w.heap.size, 6, none⟩) hz).trans (zf 6)
      clear CM CC CL z0 z1 z2 z3 z4 z5 z6 zf
      repeat' ((fail_if_success at_builtin); (first | go_skip | go_guarded | go_step))
      refine bodyPost_ret (v := .tuple #[.agg (ecells ⟨mostS false, false, false, 0⟩), .int .i64 (1 : Nat)]) ?_ rfl ?_
      · simp only [results, Tryd.results86]
        go_simp
        try exact ⟨rfl, rfl, rfl, rfl, rfl, rfl, rfl⟩
      · refine ⟨⟨mostS false, false, false, 0⟩, _, rfl, ?_, ?_, (((((((hb3.setCell (p := ⟨w.heap.size, 0, none⟩) (Nat.le_refl _) _).setCell (p := ⟨w.heap.size, 1, none⟩) (Nat.le_refl _) _).setCell (p := ⟨w.heap.size, 2, none⟩) (Nat.le_refl _) _).setCell (p := ⟨w.heap.size, 3, none⟩) (Nat.le_refl _) _).setCell (p := ⟨w.heap.size, 4, none⟩) (Nat.le_refl _) _).setCell (p := ⟨w.heap.size, 5, none⟩) (Nat.le_refl _) _).setCell (p := ⟨w.heap.size, 6, none⟩) (Nat.le_refl _) _)⟩
        · intro h; rw [hres] at h; cases h
        · intro E' n' h; rw [hres] at h; cases h; exact ⟨rfl, rfl⟩
    · have q63 : ((s[0].toNat : Int) == 63) = false := by simp; omega
      by_cases c91 : s[0].toNat = 91
      · have q91 : (s[0].toNat : Int) = 91 := by omega
        have hres : fstS l = (match clsS l with | none => none | some (s, n) => some (⟨s, false, false, 0⟩, n)) := by unfold fstS; rw [hat]; dsimp only; rw [if_neg c42, if_neg c63, if_pos c91]
        go_enter Tryd.func86, Tryd.ntmps86
        repeat' ((fail_if_success at_builtin); (first | go_skip | go_guarded | go_step))
        refine (CC.out).mono ?_
        rintro e w2 ⟨s2, n2, rfl, hn, hs, hb2⟩
        dsimp only
        have hb3 := (hb0.trans (hb2.mono (Nat.le_of_lt hz)))
        have y0 := (hb2.cell (p := ⟨w.heap.size, 0, none⟩) hz).trans z0
        have y1 := (hb2.cell (p := ⟨w.heap.size, 1, none⟩) hz).trans z1
        have y2 := (hb2.cell (p := ⟨w.heap.size, 2, none⟩) hz).trans z2
        have y3 := (hb2.cell (p := ⟨w.heap.size, 3, none⟩) hz).trans z3
        have y4 := (hb2.cell (p := ⟨w.heap.size, 4, none⟩) hz).trans z4
        have y5 := (hb2.cell (p := ⟨w.heap.size, 5, none⟩) hz).trans z5
        have y6 := (hb2.cell (p := ⟨w.heap.size, 6, none⟩) hz).trans z6
        have f0 := (hb2.frozen (p := ⟨w.heap.size, 0, none⟩) hz).trans (zf 0)
        have f1 := (hb2.frozen (p := ⟨w.heap.size, 1, none⟩) hz).trans (zf 1)
        have f2 := (hb2.frozen (p := ⟨w.heap.size, 2, none⟩) hz).trans (zf 2)
        have f3 := (hb2.frozen (p := ⟨w.heap.size, 3, none⟩) hz).trans (zf 3)
        have f4 := (hb2.frozen (p := ⟨w.heap.size, 4, none⟩) hz).trans (zf 4)
        have f5 := (hb2.frozen (p := ⟨w.heap.size, 5, none⟩) hz).trans (zf 5)
        have f6 := (hb2.frozen (p := ⟨w.heap.size, 6, none⟩) hz).trans (zf 6)
        clear CM CC CL z0 z1 z2 z3 z4 z5 z6 zf
        have hzw : w.heap.size < w2.heap.size := Nat.lt_of_lt_of_le hz hb2.size
        have hzne : ¬ (w.heap.size = w2.heap.size) := by omega
        unfold wd at *
        repeat' ((fail_if_success at_builtin); (first | go_skip | go_guarded | go_step))
        refine bodyPost_ret (v := .tuple #[.agg (ecells ⟨s2, false, false, 0⟩), .int .i64 (n2 : Nat)]) ?_ rfl ?_
        · simp only [results, Tryd.results86]
          go_simp
          try exact ⟨rfl, rfl, rfl, rfl, rfl, rfl, rfl⟩
        · refine ⟨⟨s2, false, false, 0⟩, _, rfl, ?_, ?_, (((((((hb3.setCell (p := ⟨w.heap.size, 0, none⟩) (Nat.le_refl _) _).setCell (p := ⟨w.heap.size, 1, none⟩) (Nat.le_refl _) _).setCell (p := ⟨w.heap.size, 2, none⟩) (Nat.le_refl _) _).setCell (p := ⟨w.heap.size, 3, none⟩) (Nat.le_refl _) _).setCell (p := ⟨w.heap.size, 4, none⟩) (Nat.le_refl _) _).setCell (p := ⟨w.heap.size, 5, none⟩) (Nat.le_refl _) _).setCell (p := ⟨w.heap.size, 6, none⟩) (Nat.le_refl _) _).alloc (Nat.le_trans hb3.size (by simp)) _⟩
          · intro h; rw [hres] at h; apply hn; revert h; cases clsS l with
            | none => intro _; rfl
            | some q => intro h; cases h
          · intro E' n' h; rw [hres] at h; revert h; cases hq : clsS l with
            | none => intro h; cases h
            | some q => intro h; obtain ⟨q1, q2⟩ := q; obtain ⟨g1, g2⟩ := hs q1 q2 hq; cases h; subst g1 g2; exact ⟨rfl, rfl⟩
      · have q91 : ((s[0].toNat : Int) == 91) = false := by simp; omega
        by_cases c92 : s[0].toNat = 92
        · have q92 : (s[0].toNat : Int) = 92 := by omega
          by_cases h1 : 1 < s.size
          · have hat1 := str_at h1
            rw [hl] at hat1
            have hres : fstS l = some (litE s[1].toNat, 2) := by unfold fstS; rw [hat]; dsimp only; rw [if_neg c42, if_neg c63, if_neg c91, if_pos c92, hat1]
            have q1 : (1 : Int) < (s.size : Int) := by omega
            have q1' : ¬ ((s.size : Int) < 2) := by omega
            have hlt2 := s[1].toNat_lt
            go_enter Tryd.func86, Tryd.ntmps86
            repeat' ((fail_if_success at_builtin); (first | go_skip | go_guarded | go_step))
            refine (CL.out s[1].toNat hlt2).mono ?_
            rintro e w2 ⟨rfl, hb2⟩
            dsimp only
            have hb3 := hb0.trans (hb2.mono (Nat.le_of_lt hz))
            generalize hle : litE s[1].toNat = LE at *
            have y0 := (hb2.cell (p := ⟨w.heap.size, 0, none⟩) hz).trans z0
            have y1 := (hb2.cell (p := ⟨w.heap.size, 1, none⟩) hz).trans z1
            have y2 := (hb2.cell (p := ⟨w.heap.size, 2, none⟩) hz).trans z2
            have y3 := (hb2.cell (p := ⟨w.heap.size, 3, none⟩) hz).trans z3
            have y4 := (hb2.cell (p := ⟨w.heap.size, 4, none⟩) hz).trans z4
            have y5 := (hb2.cell (p := ⟨w.heap.size, 5, none⟩) hz).trans z5
            have y6 := (hb2.cell (p := ⟨w.heap.size, 6, none⟩) hz).trans z6
            have f0 := (hb2.frozen (p := ⟨w.heap.size, 0, none⟩) hz).trans (zf 0)
            have f1 := (hb2.frozen (p := ⟨w.heap.size, 1, none⟩) hz).trans (zf 1)
            have f2 := (hb2.frozen (p := ⟨w.heap.size, 2, none⟩) hz).trans (zf 2)
            have f3 := (hb2.frozen (p := ⟨w.heap.size, 3, none⟩) hz).trans (zf 3)
            have f4 := (hb2.frozen (p := ⟨w.heap.size, 4, none⟩) hz).trans (zf 4)
            have f5 := (hb2.frozen (p := ⟨w.heap.size, 5, none⟩) hz).trans (zf 5)
            have f6 := (hb2.frozen (p := ⟨w.heap.size, 6, none⟩) hz).trans (zf 6)
            clear CM CC CL z0 z1 z2 z3 z4 z5 z6 zf
            repeat' ((fail_if_success at_builtin); (first | go_skip | go_guarded | go_step))
            refine bodyPost_ret (v := .tuple #[.agg (ecells LE), .int .i64 (2 : Nat)]) ?_ rfl ?_
            · simp only [results, Tryd.results86]
              go_simp
              try exact ⟨rfl, rfl, rfl, rfl, rfl, rfl, rfl⟩
            · refine ⟨LE, _, rfl, ?_, ?_, (((((((hb3.setCell (p := ⟨w.heap.size, 0, none⟩) (Nat.le_refl _) _).setCell (p := ⟨w.heap.size, 1, none⟩) (Nat.le_refl _) _).setCell (p := ⟨w.heap.size, 2, none⟩) (Nat.le_refl _) _).setCell (p := ⟨w.heap.size, 3, none⟩) (Nat.le_refl _) _).setCell (p := ⟨w.heap.size, 4, none⟩) (Nat.le_refl _) _).setCell (p := ⟨w.heap.size, 5, none⟩) (Nat.le_refl _) _).setCell (p := ⟨w.heap.size, 6, none⟩) (Nat.le_refl _) _)⟩
              · intro h; rw [hres] at h; cases h
              · intro E' n' h; rw [hres] at h; cases h; exact ⟨rfl, rfl⟩
          · have hres : fstS l = none := by
              have e : l[1]? = none := List.getElem?_eq_none (by omega)
              unfold fstS; rw [hat]; dsimp only; rw [if_neg c42, if_neg c63, if_neg c91, if_pos c92, e]
            have q1' : (s.size : Int) < 2 := by omega
            clear CM CC CL zf z0 z1 z2 z3 z4 z5 z6
            go_enter Tryd.func86, Tryd.ntmps86
            repeat' ((fail_if_success at_builtin); (first | go_skip | go_guarded | go_step))
            refine bodyPost_ret (v := .tuple #[.agg (ecells zeroE), .int .i64 (0 : Nat)]) ?_ rfl ?_
            · simp only [results, Tryd.results86]
              go_simp
              try exact ⟨rfl, rfl, rfl, rfl, rfl, rfl, rfl⟩
            · refine ⟨zeroE, _, rfl, ?_, ?_, (Below.refl _ _).alloc (Nat.le_refl _) _⟩
              · intro _; rfl
              · intro E' n' h; rw [hres] at h; cases h
        · have q92 : ((s[0].toNat : Int) == 92) = false := by simp; omega
          have hres : fstS l = some (litE s[0].toNat, 1) := by unfold fstS; rw [hat]; dsimp only; rw [if_neg c42, if_neg c63, if_neg c91, if_neg c92]
          have hlt2 := s[0].toNat_lt
          go_enter Tryd.func86, Tryd.ntmps86
          repeat' ((fail_if_success at_builtin); (first | go_skip | go_guarded | go_step))
          refine (CL.out s[0].toNat hlt2).mono ?_
          rintro e w2 ⟨rfl, hb2⟩
          dsimp only
          have hb3 := hb0.trans (hb2.mono (Nat.le_of_lt hz))
          generalize hle : litE s[0].toNat = LE at *
          have y0 := (hb2.cell (p := ⟨w.heap.size, 0, none⟩) hz).trans z0
          have y1 := (hb2.cell (p := ⟨w.heap.size, 1, none⟩) hz).trans z1
          have y2 := (hb2.cell (p := ⟨w.heap.size, 2, none⟩) hz).trans z2
          have y3 := (hb2.cell (p := ⟨w.heap.size, 3, none⟩) hz).trans z3
          have y4 := (hb2.cell (p := ⟨w.heap.size, 4, none⟩) hz).trans z4
          have y5 := (hb2.cell (p := ⟨w.heap.size, 5, none⟩) hz).trans z5
          have y6 := (hb2.cell (p := ⟨w.heap.size, 6, none⟩) hz).trans z6
          have f0 := (hb2.frozen (p := ⟨w.heap.size, 0, none⟩) hz).trans (zf 0)
          have f1 := (hb2.frozen (p := ⟨w.heap.size, 1, none⟩) hz).trans (zf 1)
          have f2 := (hb2.frozen (p := ⟨w.heap.size, 2, none⟩) hz).trans (zf 2)
          have f3 := (hb2.frozen (p := ⟨w.heap.size, 3, none⟩) hz).trans (zf 3)
          have f4 := (hb2.frozen (p := ⟨w.heap.size, 4, none⟩) hz).trans (zf 4)
          have f5 := (hb2.frozen (p := ⟨w.heap.size, 5, none⟩) hz).trans (zf 5)
          have f6 := (hb2.frozen (p := ⟨w.heap.size, 6, none⟩) hz).trans (zf 6)
          clear CM CC CL z0 z1 z2 z3 z4 z5 z6 zf
          repeat' ((fail_if_success at_builtin); (first | go_skip | go_guarded | go_step))
          refine bodyPost_ret (v := .tuple #[.agg (ecells LE), .int .i64 (1 : Nat)]) ?_ rfl ?_
          · simp only [results, Tryd.results86]
            go_simp
            try exact ⟨rfl, rfl, rfl, rfl, rfl, rfl, rfl⟩
          · refine ⟨LE, _, rfl, ?_, ?_, (((((((hb3.setCell (p := ⟨w.heap.size, 0, none⟩) (Nat.le_refl _) _).setCell (p := ⟨w.heap.size, 1, none⟩) (Nat.le_refl _) _).setCell (p := ⟨w.heap.size, 2, none⟩) (Nat.le_refl _) _).setCell (p := ⟨w.heap.size, 3, none⟩) (Nat.le_refl _) _).setCell (p := ⟨w.heap.size, 4, none⟩) (Nat.le_refl _) _).setCell (p := ⟨w.heap.size, 5, none⟩) (Nat.le_refl _) _).setCell (p := ⟨w.heap.size, 6, none⟩) (Nat.le_refl _) _)⟩
            · intro h; rw [hres] at h; cases h
            · intro E' n' h; rw [hres] at h; cases h; exact ⟨rfl, rfl⟩
end Go.Proofs.YtgloblokkejgmaaDoor
