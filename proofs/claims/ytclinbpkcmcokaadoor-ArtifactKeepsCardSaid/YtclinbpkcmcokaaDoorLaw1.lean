/- The law on Put: its walk. -/
import Derived.Test.YtclinbpkcmcokaaDoorArtAw
namespace Go.Proofs.YtclinbpkcmcokaaDoor
open Go.RowKit
def Holds (w : World) (e : Ending) (w' : World) : Prop := e = .returned (.bool true) ∧ Below w.heap.size w w'
theorem few_len {l : List Art} (h : fewA l = true) : l.length ≤ 25 := by
  unfold fewA at h
  simp only [Bool.and_eq_true, decide_eq_true_eq] at h
  exact h.1
theorem few_shrt {l : List Art} (h : fewA l = true) : ∀ a ∈ l, Shrt a := by
  unfold fewA at h
  simp only [Bool.and_eq_true, List.all_eq_true] at h
  intro a ha
  have := h.2 a ha
  unfold isShort at this
  simp only [decide_eq_true_eq] at this
  exact ⟨by omega, by omega, by omega⟩
theorem short_shrt {a : Art} (h : isShort a = true) : Shrt a := by
  unfold isShort at h
  simp only [decide_eq_true_eq] at h
  exact ⟨by omega, by omega, by omega⟩
theorem putA_len (l : List Art) (a : Art) : (putA l a).length ≤ l.length + 1 := by
  unfold putA; split <;> simp
set_option maxRecDepth 100000 in
set_option maxHeartbeats 800000 in
theorem puts_law (l : List Art) (a : Art) (A : Option Addr) (c : Nat) (w : World) (hR : Ready w) (hnil : A = none → c = 0) (hs : SeqA w w.heap.size A l) (hl : l.length ≤ 9223372036854775807) (ht : ∀ a ∈ l, Text a) (hta : Text a) :
    Calls Tryd.prog 3 #[.slice A l.length c, .agg (acells a)] w (Holds w) := by
  have C1 := fun (w' : World) (hb : Below w.heap.size w w') => few_any l A c w' w.heap.size hb.size (hs.below hb) hl ht
  have C2 := fun w' => short_any a w' hta.1 hta.2.1 hta.2.2
  have hsx : decide (a.run.size ≤ 600 ∧ a.job.size ≤ 600 ∧ a.nm.size ≤ 600) = isShort a := rfl
  rw [hsx] at C2
  have C3 := fun (w' : World) (hf : fewA l = true) (ha : isShort a = true) (hb : Below w.heap.size w w') => put_any l a A c w' w.heap.size (hR.below hb) hb.size hnil (hs.below hb) (by have := few_len hf; omega) (few_shrt hf) (short_shrt ha)
  have C4 := fun (w' : World) (hf : fewA l = true) (ha : isShort a = true) (hb : Below w.heap.size w w') => rput_any l a A c w' w.heap.size hb.size hnil (hs.below hb) (by have := few_len hf; omega) (few_shrt hf) (short_shrt ha)
  have C5 := fun (w' : World) (hb : Below w.heap.size w w') => awake_any w' (hR.below hb)
  have hpl := putA_len l a
  have hfl := @few_len l
  replace C1 := Lib.hid C1
  replace C2 := Lib.hid C2
  replace C3 := Lib.hid C3
  replace C4 := Lib.hid C4
  replace C5 := Lib.hid C5
  clear hs hR ht hta hsx
  go_enter Tryd.func3, Tryd.ntmps3
  repeat' ((fail_if_success at_builtin); (first | go_skip | go_guarded | go_step))
  obtain ⟨hb, hz, c0, c1, c2, c3, c4, c5, c6, c7⟩ := abox w a 30
  generalize w.alloc (.cells (acells a) 30) = w1 at *
  have k1 : w.heap.size < w1.heap.size := by omega
  clear hz
  refine (C1.out w1 hb).mono ?_
  rintro e w2 ⟨rfl, hb2⟩
  have d0 := (hb2.cell (p := ⟨w.heap.size, 0, none⟩) k1).trans c0
  have d1 := (hb2.cell (p := ⟨w.heap.size, 1, none⟩) k1).trans c1
  have d2 := (hb2.cell (p := ⟨w.heap.size, 2, none⟩) k1).trans c2
  have d3 := (hb2.cell (p := ⟨w.heap.size, 3, none⟩) k1).trans c3
  have d4 := (hb2.cell (p := ⟨w.heap.size, 4, none⟩) k1).trans c4
  have d5 := (hb2.cell (p := ⟨w.heap.size, 5, none⟩) k1).trans c5
  have d6 := (hb2.cell (p := ⟨w.heap.size, 6, none⟩) k1).trans c6
  have d7 := (hb2.cell (p := ⟨w.heap.size, 7, none⟩) k1).trans c7
  clear c0 c1 c2 c3 c4 c5 c6 c7
  have hb := hb.trans (hb2.mono hb.size)
  have k2 : w.heap.size < w2.heap.size := Nat.lt_of_lt_of_le k1 hb2.size
  clear hb2 k1
  dsimp only
  cases hf : fewA l with
  | false =>
    clear C2 C3 C4
    repeat' ((fail_if_success at_builtin); (first | go_skip | go_guarded | go_step))
    refine (C5.out _ hb).mono ?_
    rintro e w2 ⟨rfl, hb2⟩
    dsimp only
    repeat' ((fail_if_success at_builtin); (first | go_skip | go_guarded | go_step))
    go_ret
    exact ⟨rfl, hb.trans (hb2.mono hb.size)⟩
  | true =>
    repeat' ((fail_if_success at_builtin); (first | go_skip | go_guarded | go_step))
    refine (C2.out w2).mono ?_
    rintro e w3 ⟨rfl, hb3⟩
    have c0 := (hb3.cell (p := ⟨w.heap.size, 0, none⟩) k2).trans d0
    have c1 := (hb3.cell (p := ⟨w.heap.size, 1, none⟩) k2).trans d1
    have c2 := (hb3.cell (p := ⟨w.heap.size, 2, none⟩) k2).trans d2
    have c3 := (hb3.cell (p := ⟨w.heap.size, 3, none⟩) k2).trans d3
    have c4 := (hb3.cell (p := ⟨w.heap.size, 4, none⟩) k2).trans d4
    have c5 := (hb3.cell (p := ⟨w.heap.size, 5, none⟩) k2).trans d5
    have c6 := (hb3.cell (p := ⟨w.heap.size, 6, none⟩) k2).trans d6
    have c7 := (hb3.cell (p := ⟨w.heap.size, 7, none⟩) k2).trans d7
    clear d0 d1 d2 d3 d4 d5 d6 d7
    have hb := hb.trans (hb3.mono hb.size)
    have k1 : w.heap.size < w3.heap.size := Nat.lt_of_lt_of_le k2 hb3.size
    clear hb3 k2
    dsimp only
    cases ha : isShort a with
    | false =>
      clear C2 C3 C4
      repeat' ((fail_if_success at_builtin); (first | go_skip | go_guarded | go_step))
      refine (C5.out _ hb).mono ?_
      rintro e w2 ⟨rfl, hb2⟩
      dsimp only
      repeat' ((fail_if_success at_builtin); (first | go_skip | go_guarded | go_step))
      go_ret
      exact ⟨rfl, hb.trans (hb2.mono hb.size)⟩
    | true =>
      repeat' ((fail_if_success at_builtin); (first | go_skip | go_guarded | go_step))
      refine (C3.out w3 hf ha hb).mono ?_
      rintro e w4 ⟨A4, cc4, rfl, hs4, _, hb4⟩
      have d0 := (hb4.cell (p := ⟨w.heap.size, 0, none⟩) k1).trans c0
      have d1 := (hb4.cell (p := ⟨w.heap.size, 1, none⟩) k1).trans c1
      have d2 := (hb4.cell (p := ⟨w.heap.size, 2, none⟩) k1).trans c2
      have d3 := (hb4.cell (p := ⟨w.heap.size, 3, none⟩) k1).trans c3
      have d4 := (hb4.cell (p := ⟨w.heap.size, 4, none⟩) k1).trans c4
      have d5 := (hb4.cell (p := ⟨w.heap.size, 5, none⟩) k1).trans c5
      have d6 := (hb4.cell (p := ⟨w.heap.size, 6, none⟩) k1).trans c6
      have d7 := (hb4.cell (p := ⟨w.heap.size, 7, none⟩) k1).trans c7
      clear c0 c1 c2 c3 c4 c5 c6 c7
      have hb := hb.trans (hb4.mono hb.size)
      clear hb4 k1
      dsimp only
      repeat' ((fail_if_success at_builtin); (first | go_skip | go_guarded | go_step))
      refine (C4.out w4 hf ha hb).mono ?_
      rintro e w5 ⟨A5, cc5, rfl, hs5, _, hb5⟩
      have hb := hb.trans (hb5.mono hb.size)
      have hs4 := hs4.below hb5
      have C6 := same_any (putA l a) A4 A5 cc4 cc5 w5 w4.heap.size w5.heap.size hb5.size (Nat.le_refl _) hs4 hs5 (by have := hfl hf; omega)
      clear hb5 d0 d1 d2 d3 d4 d5 d6 d7 hs4 hs5
      replace C6 := Lib.hid C6
      dsimp only
      repeat' ((fail_if_success at_builtin); (first | go_skip | go_guarded | go_step))
      refine C6.out.mono ?_
      rintro e w6 ⟨rfl, hb6⟩
      have hb := hb.trans (hb6.mono hb.size)
      dsimp only
      repeat' ((fail_if_success at_builtin); (first | go_skip | go_guarded | go_step))
      refine (C5.out _ hb).mono ?_
      rintro e w7 ⟨rfl, hb7⟩
      dsimp only
      repeat' ((fail_if_success at_builtin); (first | go_skip | go_guarded | go_step))
      go_ret
      exact ⟨rfl, hb.trans (hb7.mono hb.size)⟩
end Go.Proofs.YtclinbpkcmcokaaDoor
