/- Comparisons of gates; the law's own functions. -/
import Derived.Test.YtionchkblgpklaaDoorGtB
namespace Go.Proofs.YtionchkblgpklaaDoor
open Go.RowKit
theorem sameself_any (l : List ByteArray) (A A' : Option Addr) (c c' B B' : Nat) (w : World) (hs : Seq w B 1 A l.length (cellsS l)) (hs' : Seq w B' 1 A' l.length (cellsS l)) (hl : l.length ≤ 9223372036854775807) :
    Calls Tryd.prog 26 #[.slice A l.length c, .slice A' l.length c'] w fun e w' => e = .returned (.bool true) ∧ Below w.heap.size w w' := by
  have := refSame_any l l A A' c c' B B' w hs hs' hl
  rwa [sameL_refl] at this
set_option maxRecDepth 100000 in
set_option maxHeartbeats 4000000 in
theorem spec_any (s : Gs) (A : Option Addr) (c : Nat) (A2 : Option Addr) (c2 : Nat) (w : World) (hs : Seq w w.heap.size 1 A s.who.length (cellsS s.who)) (hs2 : Seq w w.heap.size 1 A2 s.who.length (cellsS s.who)) (hl : s.who.length ≤ 100000) : Calls Tryd.prog 33 #[.agg (sarr s A c), .agg (sarr s A2 c2)] w fun e w' => e = .returned (.bool true) ∧ Below w.heap.size w w' := by
  have hb1 := ((Below.refl w.heap.size w).alloc (Nat.le_refl _) (.cells (sarr s A c) 24)).alloc (by simp) (.cells (sarr s A2 c2) 24)
  have d0 : (((w.alloc (.cells (sarr s A c) 24)).alloc (.cells (sarr s A2 c2) 24))).cell? ⟨w.heap.size, 0, none⟩ = some (.int .i64 s.app) := by simp [go_sem]
  have d1 : (((w.alloc (.cells (sarr s A c) 24)).alloc (.cells (sarr s A2 c2) 24))).cell? ⟨w.heap.size, 1, none⟩ = some (.slice A s.who.length c) := by simp [go_sem]
  have d2 : (((w.alloc (.cells (sarr s A c) 24)).alloc (.cells (sarr s A2 c2) 24))).cell? ⟨w.heap.size, 2, none⟩ = some (.int .i64 s.exp) := by simp [go_sem]
  have dF : ∀ j, (((w.alloc (.cells (sarr s A c) 24)).alloc (.cells (sarr s A2 c2) 24))).frozen? ⟨w.heap.size, j, none⟩ = false := fun j => by simp [go_sem]
  have y0 : (((w.alloc (.cells (sarr s A c) 24)).alloc (.cells (sarr s A2 c2) 24))).cell? ⟨w.heap.size + 1, 0, none⟩ = some (.int .i64 s.app) := by simp [go_sem]
  have y1 : (((w.alloc (.cells (sarr s A c) 24)).alloc (.cells (sarr s A2 c2) 24))).cell? ⟨w.heap.size + 1, 1, none⟩ = some (.slice A2 s.who.length c2) := by simp [go_sem]
  have y2 : (((w.alloc (.cells (sarr s A c) 24)).alloc (.cells (sarr s A2 c2) 24))).cell? ⟨w.heap.size + 1, 2, none⟩ = some (.int .i64 s.exp) := by simp [go_sem]
  have yF : ∀ j, (((w.alloc (.cells (sarr s A c) 24)).alloc (.cells (sarr s A2 c2) 24))).frozen? ⟨w.heap.size + 1, j, none⟩ = false := fun j => by simp [go_sem]
  go_enter Tryd.func33, Tryd.ntmps33
  repeat' ((fail_if_success at_builtin); (first | go_skip | go_guarded | go_step))
  generalize ((w.alloc (.cells (sarr s A c) 24)).alloc (.cells (sarr s A2 c2) 24)) = w1 at *
  refine (sameself_any s.who A A2 c c2 w1.heap.size w1.heap.size w1 ((hs.below hb1).more hb1.size) ((hs2.below hb1).more hb1.size) (by omega)).mono ?_
  rintro e w2 ⟨rfl, hb2⟩
  dsimp only
  repeat' ((fail_if_success at_builtin); (first | go_skip | go_guarded | go_step))
  go_ret
  exact ⟨rfl, hb1.trans (hb2.mono hb1.size)⟩
set_option maxRecDepth 100000 in
set_option maxHeartbeats 4000000 in
theorem same_any (g : Gt) (A : Option Addr) (c : Nat) (A' : Option Addr) (c' : Nat) (A2 : Option Addr) (c2 : Nat) (A2' : Option Addr) (c2' : Nat) (w : World) (hs : Seq w w.heap.size 1 A g.s.who.length (cellsS g.s.who)) (hs' : Seq w w.heap.size 1 A' g.yes.length (cellsS g.yes)) (hs2 : Seq w w.heap.size 1 A2 g.s.who.length (cellsS g.s.who)) (hs2' : Seq w w.heap.size 1 A2' g.yes.length (cellsS g.yes)) (hl : g.s.who.length ≤ 100000) (hl' : g.yes.length ≤ 100000) : Calls Tryd.prog 14 #[.agg (garr g A c A' c'), .agg (garr g A2 c2 A2' c2')] w fun e w' => e = .returned (.bool true) ∧ Below w.heap.size w w' := by
  have hb1 := ((Below.refl w.heap.size w).alloc (Nat.le_refl _) (.cells (garr g A c A' c') 28)).alloc (by simp) (.cells (garr g A2 c2 A2' c2') 28)
  have hz : ((w.alloc (.cells (garr g A c A' c') 28)).alloc (.cells (garr g A2 c2 A2' c2') 28)).heap.size = w.heap.size + 1 + 1 := by simp
  have d0 : (((w.alloc (.cells (garr g A c A' c') 28)).alloc (.cells (garr g A2 c2 A2' c2') 28))).cell? ⟨w.heap.size, 0, none⟩ = some (.int .i64 g.s.app) := by simp [go_sem]
  have d1 : (((w.alloc (.cells (garr g A c A' c') 28)).alloc (.cells (garr g A2 c2 A2' c2') 28))).cell? ⟨w.heap.size, 1, none⟩ = some (.slice A g.s.who.length c) := by simp [go_sem]
  have d2 : (((w.alloc (.cells (garr g A c A' c') 28)).alloc (.cells (garr g A2 c2 A2' c2') 28))).cell? ⟨w.heap.size, 2, none⟩ = some (.int .i64 g.s.exp) := by simp [go_sem]
  have d3 : (((w.alloc (.cells (garr g A c A' c') 28)).alloc (.cells (garr g A2 c2 A2' c2') 28))).cell? ⟨w.heap.size, 3, none⟩ = some (.int .i64 g.opened) := by simp [go_sem]
  have d4 : (((w.alloc (.cells (garr g A c A' c') 28)).alloc (.cells (garr g A2 c2 A2' c2') 28))).cell? ⟨w.heap.size, 4, none⟩ = some (.slice A' g.yes.length c') := by simp [go_sem]
  have d5 : (((w.alloc (.cells (garr g A c A' c') 28)).alloc (.cells (garr g A2 c2 A2' c2') 28))).cell? ⟨w.heap.size, 5, none⟩ = some (.int .i64 g.state) := by simp [go_sem]
  have dF : ∀ j, (((w.alloc (.cells (garr g A c A' c') 28)).alloc (.cells (garr g A2 c2 A2' c2') 28))).frozen? ⟨w.heap.size, j, none⟩ = false := fun j => by simp [go_sem]
  have y0 : (((w.alloc (.cells (garr g A c A' c') 28)).alloc (.cells (garr g A2 c2 A2' c2') 28))).cell? ⟨w.heap.size + 1, 0, none⟩ = some (.int .i64 g.s.app) := by simp [go_sem]
  have y1 : (((w.alloc (.cells (garr g A c A' c') 28)).alloc (.cells (garr g A2 c2 A2' c2') 28))).cell? ⟨w.heap.size + 1, 1, none⟩ = some (.slice A2 g.s.who.length c2) := by simp [go_sem]
  have y2 : (((w.alloc (.cells (garr g A c A' c') 28)).alloc (.cells (garr g A2 c2 A2' c2') 28))).cell? ⟨w.heap.size + 1, 2, none⟩ = some (.int .i64 g.s.exp) := by simp [go_sem]
  have y3 : (((w.alloc (.cells (garr g A c A' c') 28)).alloc (.cells (garr g A2 c2 A2' c2') 28))).cell? ⟨w.heap.size + 1, 3, none⟩ = some (.int .i64 g.opened) := by simp [go_sem]
  have y4 : (((w.alloc (.cells (garr g A c A' c') 28)).alloc (.cells (garr g A2 c2 A2' c2') 28))).cell? ⟨w.heap.size + 1, 4, none⟩ = some (.slice A2' g.yes.length c2') := by simp [go_sem]
  have y5 : (((w.alloc (.cells (garr g A c A' c') 28)).alloc (.cells (garr g A2 c2 A2' c2') 28))).cell? ⟨w.heap.size + 1, 5, none⟩ = some (.int .i64 g.state) := by simp [go_sem]
  have yF : ∀ j, (((w.alloc (.cells (garr g A c A' c') 28)).alloc (.cells (garr g A2 c2 A2' c2') 28))).frozen? ⟨w.heap.size + 1, j, none⟩ = false := fun j => by simp [go_sem]
  go_enter Tryd.func14, Tryd.ntmps14
  repeat' ((fail_if_success at_builtin); (first | go_skip | go_guarded | go_step))
  generalize ((w.alloc (.cells (garr g A c A' c') 28)).alloc (.cells (garr g A2 c2 A2' c2') 28)) = w1 at *
  refine (spec_any g.s A c A2 c2 w1 ((hs.below hb1).more hb1.size) ((hs2.below hb1).more hb1.size) hl).mono ?_
  rintro e w2 ⟨rfl, hb2⟩
  dsimp only
  replace d0 := (hb2.cell (p := ⟨w.heap.size, 0, none⟩) (by dsimp only; omega)).trans d0
  replace d1 := (hb2.cell (p := ⟨w.heap.size, 1, none⟩) (by dsimp only; omega)).trans d1
  replace d2 := (hb2.cell (p := ⟨w.heap.size, 2, none⟩) (by dsimp only; omega)).trans d2
  replace d3 := (hb2.cell (p := ⟨w.heap.size, 3, none⟩) (by dsimp only; omega)).trans d3
  replace d4 := (hb2.cell (p := ⟨w.heap.size, 4, none⟩) (by dsimp only; omega)).trans d4
  replace d5 := (hb2.cell (p := ⟨w.heap.size, 5, none⟩) (by dsimp only; omega)).trans d5
  replace dF := frz_below hb2 (by omega) dF
  replace y0 := (hb2.cell (p := ⟨w.heap.size + 1, 0, none⟩) (by dsimp only; omega)).trans y0
  replace y1 := (hb2.cell (p := ⟨w.heap.size + 1, 1, none⟩) (by dsimp only; omega)).trans y1
  replace y2 := (hb2.cell (p := ⟨w.heap.size + 1, 2, none⟩) (by dsimp only; omega)).trans y2
  replace y3 := (hb2.cell (p := ⟨w.heap.size + 1, 3, none⟩) (by dsimp only; omega)).trans y3
  replace y4 := (hb2.cell (p := ⟨w.heap.size + 1, 4, none⟩) (by dsimp only; omega)).trans y4
  replace y5 := (hb2.cell (p := ⟨w.heap.size + 1, 5, none⟩) (by dsimp only; omega)).trans y5
  replace yF := frz_below hb2 (by omega) yF
  have hbw2 := hb1.trans (hb2.mono hb1.size)
  repeat' ((fail_if_success at_builtin); (first | go_skip | go_guarded | go_step))
  refine (sameself_any g.yes A' A2' c' c2' w2.heap.size w2.heap.size w2 ((hs'.below hbw2).more hbw2.size) ((hs2'.below hbw2).more hbw2.size) (by omega)).mono ?_
  rintro e w3 ⟨rfl, hb3⟩
  dsimp only
  repeat' ((fail_if_success at_builtin); (first | go_skip | go_guarded | go_step))
  go_ret
  exact ⟨rfl, hbw2.trans (hb3.mono hbw2.size)⟩
def fewL (l : List ByteArray) : Bool := (l.all fun s => decide (s.size ≤ 200)) && decide (l.length ≤ 20)
theorem fewL_out {l : List ByteArray} (h : fewL l = true) : l.length ≤ 20 ∧ ∀ s ∈ l, s.size ≤ 200 := by
  unfold fewL at h
  rw [Bool.and_eq_true_iff, List.all_eq_true] at h
  exact ⟨of_decide_eq_true h.2, fun s hs => of_decide_eq_true (h.1 s hs)⟩
set_option maxRecDepth 100000 in
set_option maxHeartbeats 4000000 in
theorem few_any (l : List ByteArray) (A : Option Addr) (c B : Nat) (w : World) (hs : Seq w B 1 A l.length (cellsS l)) (hl : l.length ≤ 9223372036854775807) (hm : ∀ s ∈ l, s.size ≤ 9223372036854775807) :
    Calls Tryd.prog 8 #[.slice A l.length c] w fun e w' => e = .returned (.bool (fewL l)) ∧ w' = w := by
  have hN : fewL l = ((l.all fun s => decide (s.size ≤ 200)) && decide (l.length ≤ 20)) := rfl
  generalize fewL l = r at *
  go_enter Tryd.func8, Tryd.ntmps8
  repeat' ((fail_if_success at_builtin); (first | go_skip | go_guarded | go_step))
  go_loopw [3] (fun u3 wr => ∃ i : Nat, i ≤ l.length ∧ u3 = .int .i64 (i : Int) ∧ wr = w ∧ (l.all fun s => decide (s.size ≤ 200)) = ((l.drop i).all fun s => decide (s.size ≤ 200))) (fun u3 _ => l.length - (intOf u3).toNat)
  case atStart => exact ⟨0, by omega, rfl, rfl, rfl⟩
  case round =>
    obtain ⟨i, hi, rfl, rfl, hall⟩ := hrel
    by_cases hlt : i < l.length
    · obtain ⟨b, o, rfl, hbB, hcell⟩ := hs.2 (by omega)
      have hci : l[i]? = some l[i] := List.getElem?_eq_getElem hlt
      have e1 := hcell i (.string l[i]) (by rw [List.getElem?_map, hci]; rfl)
      have m1 := hm l[i] (List.getElem_mem hlt)
      rw [list_cons hlt, List.all_cons] at hall
      have i0 : (0 : Int) ≤ (i : Int) := by omega
      have i1 : (i : Int) < (l.length : Int) := by omega
      generalize l[i] = x at e1 hall m1
      clear hci hcell
      by_cases hx : 200 < x.size
      · rw [decide_eq_false (by omega), Bool.false_and] at hall
        rw [hall, Bool.false_and] at hN
        have hx2 : (200 : Int) < (x.size : Int) := by omega
        replace hN := Lib.hid hN
        clear hall hx
        repeat' ((fail_if_success at_builtin); (first | go_skip | go_guarded | go_step))
        go_ret
        exact ⟨by rw [hN.out]; rfl, rfl⟩
      · rw [decide_eq_true (by omega), Bool.true_and] at hall
        have hx2 : ¬ (200 : Int) < (x.size : Int) := by omega
        replace hall := Lib.hid hall
        replace hN := Lib.hid hN
        clear hx
        repeat' ((fail_if_success at_builtin); (first | go_skip | go_guarded | go_step))
        go_roundw
        case rel => exact ⟨i + 1, by omega, by go_num, trivial, hall.out⟩
        case measure => simp [intOf]; omega
    · rw [List.drop_of_length_le (by omega)] at hall
      rw [hall] at hN
      have i1 : ¬ ((i : Int) < (l.length : Int)) := by omega
      by_cases hx : l.length ≤ 20
      · have hx2 : (l.length : Int) ≤ 20 := by omega
        rw [decide_eq_true hx] at hN
        replace hN := Lib.hid hN
        clear hall hx
        repeat' ((fail_if_success at_builtin); (first | go_skip | go_guarded | go_step))
        go_ret
        exact ⟨by rw [hN.out]; rfl, rfl⟩
      · have hx2 : ¬ (l.length : Int) ≤ 20 := by omega
        rw [decide_eq_false hx] at hN
        replace hN := Lib.hid hN
        clear hall hx
        repeat' ((fail_if_success at_builtin); (first | go_skip | go_guarded | go_step))
        go_ret
        exact ⟨by rw [hN.out]; rfl, rfl⟩
set_option maxRecDepth 100000 in
set_option maxHeartbeats 4000000 in
theorem small_any (g : Gt) (A : Option Addr) (c : Nat) (A' : Option Addr) (c' : Nat) (w : World) (hs : Seq w w.heap.size 1 A g.s.who.length (cellsS g.s.who)) (hs' : Seq w w.heap.size 1 A' g.yes.length (cellsS g.yes)) (hl : g.s.who.length ≤ 9223372036854775807) (hm : ∀ s ∈ g.s.who, s.size ≤ 9223372036854775807) (hl' : g.yes.length ≤ 9223372036854775807) (hm' : ∀ s ∈ g.yes, s.size ≤ 9223372036854775807) : Calls Tryd.prog 15 #[.agg (garr g A c A' c')] w fun e w' => e = .returned (.bool (fewL g.s.who && fewL g.yes)) ∧ Below w.heap.size w w' := by
  have hb1 := (Below.refl w.heap.size w).alloc (Nat.le_refl _) (.cells (garr g A c A' c') 28)
  have d0 : ((w.alloc (.cells (garr g A c A' c') 28))).cell? ⟨w.heap.size, 0, none⟩ = some (.int .i64 g.s.app) := by simp [go_sem]
  have d1 : ((w.alloc (.cells (garr g A c A' c') 28))).cell? ⟨w.heap.size, 1, none⟩ = some (.slice A g.s.who.length c) := by simp [go_sem]
  have d2 : ((w.alloc (.cells (garr g A c A' c') 28))).cell? ⟨w.heap.size, 2, none⟩ = some (.int .i64 g.s.exp) := by simp [go_sem]
  have d3 : ((w.alloc (.cells (garr g A c A' c') 28))).cell? ⟨w.heap.size, 3, none⟩ = some (.int .i64 g.opened) := by simp [go_sem]
  have d4 : ((w.alloc (.cells (garr g A c A' c') 28))).cell? ⟨w.heap.size, 4, none⟩ = some (.slice A' g.yes.length c') := by simp [go_sem]
  have d5 : ((w.alloc (.cells (garr g A c A' c') 28))).cell? ⟨w.heap.size, 5, none⟩ = some (.int .i64 g.state) := by simp [go_sem]
  have dF : ∀ j, ((w.alloc (.cells (garr g A c A' c') 28))).frozen? ⟨w.heap.size, j, none⟩ = false := fun j => by simp [go_sem]
  go_enter Tryd.func15, Tryd.ntmps15
  repeat' ((fail_if_success at_builtin); (first | go_skip | go_guarded | go_step))
  generalize (w.alloc (.cells (garr g A c A' c') 28)) = w1 at *
  refine (few_any g.s.who A c _ w1 (hs.below hb1) hl hm).mono ?_
  rintro e w2 ⟨rfl, rfl⟩
  dsimp only
  cases hf : fewL g.s.who with
  | false =>
    repeat' ((fail_if_success at_builtin); (first | go_skip | go_guarded | go_step))
    go_ret
    exact ⟨by rw [hf]; rfl, hb1⟩
  | true =>
    repeat' ((fail_if_success at_builtin); (first | go_skip | go_guarded | go_step))
    refine (few_any g.yes A' c' _ w2 (hs'.below hb1) hl' hm').mono ?_
    rintro e w3 ⟨rfl, rfl⟩
    dsimp only
    repeat' ((fail_if_success at_builtin); (first | go_skip | go_guarded | go_step))
    go_ret
    exact ⟨by rw [hf]; rfl, hb1⟩
end Go.Proofs.YtionchkblgpklaaDoor
