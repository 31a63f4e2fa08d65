/- Label: few, awake. -/
import Derived.Test.YtppbblgdcckbdaaDoorOpnS
import Derived.Test.YtppbblgdcckbdaaDoorLbIm
namespace Go.Proofs.YtppbblgdcckbdaaDoor
open Go.RowKit
theorem ready_shaped {W : World} (h : W.ShapedOpen Tryd.prog) : Ready W := by
  obtain ⟨m, hm⟩ := Tryd.laysM145.s1_3 W h
  exact ⟨⟨m, hm⟩, World.block_lt_of_cell? W _ hm⟩
def Few (l : List ByteArray) : Prop := l.length ≤ 40 ∧ ∀ q ∈ l, q.size ≤ 100
theorem Few.m {l : List ByteArray} (h : Few l) : ∀ q ∈ l, q.size ≤ 1000000 := fun q hq => by have := h.2 q hq; omega
set_option maxRecDepth 100000 in
set_option maxHeartbeats 2000000 in
theorem few_any (l : List ByteArray) (A : Option Addr) (n c : Nat) (w : World) (hn : n = l.length) (hs : Seq w w.heap.size 1 A n (cellsS l)) (hl : n ≤ 9223372036854775807) (hm : ∀ q ∈ l, q.size ≤ 9223372036854775807) :
    Calls Tryd.prog 10 #[.slice A n c] w fun e w' => ∃ b, e = .returned (.bool b) ∧ (b = true → Few l) ∧ Below w.heap.size w w' := by
  replace hs := Lib.hid hs
  replace hn := Lib.hid hn
  replace hm := Lib.hid hm
  go_enter Tryd.func10, Tryd.ntmps10
  repeat' ((fail_if_success at_builtin); (first | go_skip | go_guarded | go_step))
  go_loopw [3] (fun u3 wr => ∃ i : Nat, i ≤ n ∧ i ≤ 40 ∧ u3 = .int .i64 (i : Int) ∧ Below w.heap.size w wr ∧ ∀ k q, k < i → l[k]? = some q → q.size ≤ 100) (fun u3 _ => n - (intOf u3).toNat)
  case atStart => exact ⟨0, by omega, by omega, rfl, Below.refl _ _, fun k q h => by omega⟩
  case round =>
    obtain ⟨i, hi, h40, rfl, hb, hu⟩ := hrel
    replace hu := Lib.hid hu
    have hend : ¬ (i < n ∧ i < 40) → ∀ b, b = decide ((n : Int) ≤ 40) → (b = true → Few l) := by
      rintro hne b rfl h
      have h2 : n ≤ 40 := by have := of_decide_eq_true h; omega
      refine ⟨by rw [← hn.out]; exact h2, fun q hq => ?_⟩
      obtain ⟨k, hk⟩ := List.mem_iff_getElem?.1 hq
      have hkl := (List.getElem?_eq_some_iff.1 hk).1
      exact hu.out k q (by have := hn.out; omega) hk
    by_cases hlt : i < n
    · have i1 : (i : Int) < (n : Int) := by omega
      by_cases hl4 : i < 40
      · have i4 : (i : Int) < 40 := by omega
        have i0 : (0 : Int) ≤ (i : Int) := by omega
        have i2 : IntKind.i64.wrap ((i : Int) + 1) = (i : Int) + 1 := IntWalk.i64_in _ (by omega)
        obtain ⟨q, hq⟩ : ∃ q, l[i]? = some q := ⟨_, List.getElem?_eq_getElem (by have := hn.out; omega)⟩
        obtain ⟨bl, off, rfl, hbl, hcq⟩ := strs_at hs.out hlt hq
        have hq6 := hm.out q (List.mem_of_getElem? hq)
        have cq := (hb.cell (p := ⟨bl, off + i, none⟩) hbl).trans hcq
        clear hend
        by_cases hbig : 100 < q.size
        · have hbi : (100 : Int) < (q.size : Int) := by omega
          repeat' ((fail_if_success at_builtin); (first | go_skip | go_guarded | go_step))
          go_ret
          exact ⟨false, rfl, fun h => (by cases h), hb⟩
        · have hbi : ¬ (100 : Int) < (q.size : Int) := by omega
          repeat' ((fail_if_success at_builtin); (first | go_skip | go_guarded | go_step))
          go_roundw
          case rel =>
            refine ⟨i + 1, by omega, by omega, by go_num, hb, fun k p hk hp => ?_⟩
            by_cases hki : k = i
            · subst hki
              rw [hq] at hp
              cases hp
              omega
            · exact hu.out k p (by omega) hp
          case measure => simp [intOf]; omega
      · have i4 : ¬ (i : Int) < 40 := by omega
        have he := Lib.hid (hend (fun h => hl4 h.2))
        clear hend
        repeat' ((fail_if_success at_builtin); (first | go_skip | go_guarded | go_step))
        go_ret
        exact ⟨_, rfl, he.out _ rfl, hb⟩
    · have i1 : ¬ (i : Int) < (n : Int) := by omega
      have he := Lib.hid (hend (fun h => hlt h.1))
      clear hend
      repeat' ((fail_if_success at_builtin); (first | go_skip | go_guarded | go_step))
      go_ret
      exact ⟨_, rfl, he.out _ rfl, hb⟩
theorem aw0 : satsL (toLs ([⟨#[99, 112, 117, 61, 56]⟩, ⟨#[108, 105, 110, 117, 120]⟩] : List ByteArray)) (toLs ([⟨#[33, 103, 112, 117]⟩, ⟨#[99, 112, 117, 62, 61, 52]⟩, ⟨#[108, 105, 110, 117, 120]⟩] : List ByteArray)) = true := by decide
theorem aw1 : satsL (toLs ([⟨#[99, 112, 117, 61, 56]⟩, ⟨#[108, 105, 110, 117, 120]⟩] : List ByteArray)) (toLs ([⟨#[99, 112, 117, 61, 52]⟩] : List ByteArray)) = false := by decide
theorem aw2 : impA (PA ([⟨#[99, 112, 117, 60, 61, 52]⟩, ⟨#[99, 112, 117, 62, 61, 52]⟩] : List ByteArray)) (PA ([⟨#[99, 112, 117, 61, 52]⟩] : List ByteArray)) = true := by decide
theorem aw3 : impA (PA ([⟨#[99, 112, 117]⟩] : List ByteArray)) (PA ([⟨#[99, 112, 117, 62, 61, 48]⟩] : List ByteArray)) = false := by decide
theorem aw4 : valL (toLs ([⟨#[99, 112, 117, 61, 56]⟩, ⟨#[108, 105, 110, 117, 120]⟩] : List ByteArray)) = 0 := by decide
theorem seq_cells {w : World} {g n : Nat} {l : List ByteArray} (h : CellsAt w g (cellsS l)) (hn : n = l.length) : Seq w w.heap.size 1 (some ⟨g, 0, none⟩) n (cellsS l) :=
  ⟨by simp [hn], fun _ => ⟨g, 0, rfl, h.lt, fun j u hu => by rw [Nat.zero_add]; exact h.cell j u hu⟩⟩
theorem OwnB.seq {w0 w : World} {L : List (Nat × List Value)} (h : OwnB w0 w L) (i : Nat) {g n : Nat} (l : List ByteArray) (hi : L[i]? = some (g, cellsS l)) (hn : n = l.length) : Seq w w.heap.size 1 (some ⟨g, 0, none⟩) n (cellsS l) := seq_cells (h.all i g _ hi).2 hn
theorem small2 {a b : ByteArray} (ha : a.size ≤ 10) (hb : b.size ≤ 10) : ∀ q ∈ [a, b], q.size ≤ 1000000 := by intro q hq; simp at hq; rcases hq with rfl | rfl <;> omega
theorem small1 {a : ByteArray} (ha : a.size ≤ 10) : ∀ q ∈ [a], q.size ≤ 1000000 := by intro q hq; simp at hq; subst hq; omega
theorem small3 {a b c : ByteArray} (ha : a.size ≤ 10) (hb : b.size ≤ 10) (hc : c.size ≤ 10) : ∀ q ∈ [a, b, c], q.size ≤ 1000000 := by intro q hq; simp at hq; rcases hq with rfl | rfl | rfl <;> omega
set_option maxRecDepth 100000 in
set_option maxHeartbeats 4000000 in
theorem awake_any (w : World) (hR : Ready w) : Calls Tryd.prog 13 #[] w fun e w' => e = .returned (.bool true) ∧ Below w.heap.size w w' := by
  go_enter Tryd.func13, Tryd.ntmps13
  go_upto_region 2 with (fail)
  generalize hx_ : World.alloc w _ = wo1
  have hO1 : OwnB w wo1 [(w.heap.size, [.string ⟨#[99, 112, 117, 61, 56]⟩, .string ⟨#[108, 105, 110, 117, 120]⟩])] := by rw [← hx_]; exact (OwnB.refl w).new #[.string ⟨#[99, 112, 117, 61, 56]⟩, .string ⟨#[108, 105, 110, 117, 120]⟩] _ (g := w.heap.size)
  clear hx_
  have c0_0 : wo1.cell? ⟨w.heap.size, 0, none⟩ = some (.string ⟨#[99, 112, 117, 61, 56]⟩) := hO1.c 0 0
  have c0_1 : wo1.cell? ⟨w.heap.size, 1, none⟩ = some (.string ⟨#[108, 105, 110, 117, 120]⟩) := hO1.c 0 1
  have cf0 := hO1.fr 0
  repeat' ((fail_if_success at_builtin); (first | go_skip | go_guarded | go_step))
  generalize hx_ : World.alloc wo1 _ = wo2
  have hO2 : OwnB w wo2 [(wo1.heap.size, [.string ⟨#[33, 103, 112, 117]⟩, .string ⟨#[99, 112, 117, 62, 61, 52]⟩, .string ⟨#[108, 105, 110, 117, 120]⟩]), (w.heap.size, [.string ⟨#[99, 112, 117, 61, 56]⟩, .string ⟨#[108, 105, 110, 117, 120]⟩])] := by rw [← hx_]; exact hO1.new #[.string ⟨#[33, 103, 112, 117]⟩, .string ⟨#[99, 112, 117, 62, 61, 52]⟩, .string ⟨#[108, 105, 110, 117, 120]⟩] _ (g := wo1.heap.size)
  clear hx_ c0_0 c0_1 cf0 hO1
  have c0_0 : wo2.cell? ⟨wo1.heap.size, 0, none⟩ = some (.string ⟨#[33, 103, 112, 117]⟩) := hO2.c 0 0
  have c0_1 : wo2.cell? ⟨wo1.heap.size, 1, none⟩ = some (.string ⟨#[99, 112, 117, 62, 61, 52]⟩) := hO2.c 0 1
  have c0_2 : wo2.cell? ⟨wo1.heap.size, 2, none⟩ = some (.string ⟨#[108, 105, 110, 117, 120]⟩) := hO2.c 0 2
  have cf0 := hO2.fr 0
  have c1_0 : wo2.cell? ⟨w.heap.size, 0, none⟩ = some (.string ⟨#[99, 112, 117, 61, 56]⟩) := hO2.c 1 0
  have c1_1 : wo2.cell? ⟨w.heap.size, 1, none⟩ = some (.string ⟨#[108, 105, 110, 117, 120]⟩) := hO2.c 1 1
  have cf1 := hO2.fr 1
  have C := satisfies_any ([⟨#[99, 112, 117, 61, 56]⟩, ⟨#[108, 105, 110, 117, 120]⟩] : List ByteArray) ([⟨#[33, 103, 112, 117]⟩, ⟨#[99, 112, 117, 62, 61, 52]⟩, ⟨#[108, 105, 110, 117, 120]⟩] : List ByteArray) _ _ 2 2 3 3 wo2 (hR.below hO2.below) rfl (hO2.seq 1 ([⟨#[99, 112, 117, 61, 56]⟩, ⟨#[108, 105, 110, 117, 120]⟩] : List ByteArray) rfl rfl) (by decide) (small2 (by decide) (by decide)) rfl (hO2.seq 0 ([⟨#[33, 103, 112, 117]⟩, ⟨#[99, 112, 117, 62, 61, 52]⟩, ⟨#[108, 105, 110, 117, 120]⟩] : List ByteArray) rfl rfl) (by decide) (small3 (by decide) (by decide) (by decide))
  rw [aw0] at C
  replace C := Lib.hid C
  refine C.out.mono ?_
  rintro e wc0 ⟨rfl, hbc⟩
  dsimp only
  clear C
  have hO3 : OwnB w wc0 [(w.heap.size, [.string ⟨#[99, 112, 117, 61, 56]⟩, .string ⟨#[108, 105, 110, 117, 120]⟩])] := (hO2.kept hbc).drop1
  clear c0_0 c0_1 c0_2 cf0 c1_0 c1_1 cf1 hO2
  have c0_0 : wc0.cell? ⟨w.heap.size, 0, none⟩ = some (.string ⟨#[99, 112, 117, 61, 56]⟩) := hO3.c 0 0
  have c0_1 : wc0.cell? ⟨w.heap.size, 1, none⟩ = some (.string ⟨#[108, 105, 110, 117, 120]⟩) := hO3.c 0 1
  have cf0 := hO3.fr 0
  repeat' ((fail_if_success at_builtin); (first | go_skip | go_guarded | go_step))
  generalize hx_ : World.alloc wc0 _ = wo4
  have hO4 : OwnB w wo4 [(wc0.heap.size, [.string ⟨#[99, 112, 117, 61, 52]⟩]), (w.heap.size, [.string ⟨#[99, 112, 117, 61, 56]⟩, .string ⟨#[108, 105, 110, 117, 120]⟩])] := by rw [← hx_]; exact hO3.new #[.string ⟨#[99, 112, 117, 61, 52]⟩] _ (g := wc0.heap.size)
  clear hx_ c0_0 c0_1 cf0 hO3
  have c0_0 : wo4.cell? ⟨wc0.heap.size, 0, none⟩ = some (.string ⟨#[99, 112, 117, 61, 52]⟩) := hO4.c 0 0
  have cf0 := hO4.fr 0
  have c1_0 : wo4.cell? ⟨w.heap.size, 0, none⟩ = some (.string ⟨#[99, 112, 117, 61, 56]⟩) := hO4.c 1 0
  have c1_1 : wo4.cell? ⟨w.heap.size, 1, none⟩ = some (.string ⟨#[108, 105, 110, 117, 120]⟩) := hO4.c 1 1
  have cf1 := hO4.fr 1
  have C := satisfies_any ([⟨#[99, 112, 117, 61, 56]⟩, ⟨#[108, 105, 110, 117, 120]⟩] : List ByteArray) ([⟨#[99, 112, 117, 61, 52]⟩] : List ByteArray) _ _ 2 2 1 1 wo4 (hR.below hO4.below) rfl (hO4.seq 1 ([⟨#[99, 112, 117, 61, 56]⟩, ⟨#[108, 105, 110, 117, 120]⟩] : List ByteArray) rfl rfl) (by decide) (small2 (by decide) (by decide)) rfl (hO4.seq 0 ([⟨#[99, 112, 117, 61, 52]⟩] : List ByteArray) rfl rfl) (by decide) (small1 (by decide))
  rw [aw1] at C
  replace C := Lib.hid C
  refine C.out.mono ?_
  rintro e wc1 ⟨rfl, hbc⟩
  dsimp only
  clear C
  have hO5 : OwnB w wc1 [(w.heap.size, [.string ⟨#[99, 112, 117, 61, 56]⟩, .string ⟨#[108, 105, 110, 117, 120]⟩])] := (hO4.kept hbc).drop1
  clear c0_0 cf0 c1_0 c1_1 cf1 hO4
  have c0_0 : wc1.cell? ⟨w.heap.size, 0, none⟩ = some (.string ⟨#[99, 112, 117, 61, 56]⟩) := hO5.c 0 0
  have c0_1 : wc1.cell? ⟨w.heap.size, 1, none⟩ = some (.string ⟨#[108, 105, 110, 117, 120]⟩) := hO5.c 0 1
  have cf0 := hO5.fr 0
  repeat' ((fail_if_success at_builtin); (first | go_skip | go_guarded | go_step))
  generalize hx_ : World.alloc (World.alloc wc1 _) _ = wo6
  have hO6 : OwnB w wo6 [(wc1.heap.size + 1, [.string ⟨#[99, 112, 117, 61, 52]⟩]), (wc1.heap.size, [.string ⟨#[99, 112, 117, 60, 61, 52]⟩, .string ⟨#[99, 112, 117, 62, 61, 52]⟩]), (w.heap.size, [.string ⟨#[99, 112, 117, 61, 56]⟩, .string ⟨#[108, 105, 110, 117, 120]⟩])] := by rw [← hx_]; exact (hO5.new #[.string ⟨#[99, 112, 117, 60, 61, 52]⟩, .string ⟨#[99, 112, 117, 62, 61, 52]⟩] _ (g := wc1.heap.size)).new #[.string ⟨#[99, 112, 117, 61, 52]⟩] _ (g := wc1.heap.size + 1)
  clear hx_ c0_0 c0_1 cf0 hO5
  have c0_0 : wo6.cell? ⟨wc1.heap.size + 1, 0, none⟩ = some (.string ⟨#[99, 112, 117, 61, 52]⟩) := hO6.c 0 0
  have cf0 := hO6.fr 0
  have c1_0 : wo6.cell? ⟨wc1.heap.size, 0, none⟩ = some (.string ⟨#[99, 112, 117, 60, 61, 52]⟩) := hO6.c 1 0
  have c1_1 : wo6.cell? ⟨wc1.heap.size, 1, none⟩ = some (.string ⟨#[99, 112, 117, 62, 61, 52]⟩) := hO6.c 1 1
  have cf1 := hO6.fr 1
  have c2_0 : wo6.cell? ⟨w.heap.size, 0, none⟩ = some (.string ⟨#[99, 112, 117, 61, 56]⟩) := hO6.c 2 0
  have c2_1 : wo6.cell? ⟨w.heap.size, 1, none⟩ = some (.string ⟨#[108, 105, 110, 117, 120]⟩) := hO6.c 2 1
  have cf2 := hO6.fr 2
  have C := implies_all ([⟨#[99, 112, 117, 60, 61, 52]⟩, ⟨#[99, 112, 117, 62, 61, 52]⟩] : List ByteArray) ([⟨#[99, 112, 117, 61, 52]⟩] : List ByteArray) _ _ 2 2 1 1 wo6 (hR.below hO6.below) rfl (hO6.seq 1 ([⟨#[99, 112, 117, 60, 61, 52]⟩, ⟨#[99, 112, 117, 62, 61, 52]⟩] : List ByteArray) rfl rfl) (by decide) (small2 (by decide) (by decide)) rfl (hO6.seq 0 ([⟨#[99, 112, 117, 61, 52]⟩] : List ByteArray) rfl rfl) (by decide) (small1 (by decide))
  rw [aw2] at C
  replace C := Lib.hid C
  refine C.out.mono ?_
  rintro e wc2 ⟨rfl, hbc⟩
  dsimp only
  clear C
  have hO7 : OwnB w wc2 [(w.heap.size, [.string ⟨#[99, 112, 117, 61, 56]⟩, .string ⟨#[108, 105, 110, 117, 120]⟩])] := (hO6.kept hbc).drop1.drop1
  clear c0_0 cf0 c1_0 c1_1 cf1 c2_0 c2_1 cf2 hO6
  have c0_0 : wc2.cell? ⟨w.heap.size, 0, none⟩ = some (.string ⟨#[99, 112, 117, 61, 56]⟩) := hO7.c 0 0
  have c0_1 : wc2.cell? ⟨w.heap.size, 1, none⟩ = some (.string ⟨#[108, 105, 110, 117, 120]⟩) := hO7.c 0 1
  have cf0 := hO7.fr 0
  repeat' ((fail_if_success at_builtin); (first | go_skip | go_guarded | go_step))
  generalize hx_ : World.alloc (World.alloc wc2 _) _ = wo8
  have hO8 : OwnB w wo8 [(wc2.heap.size + 1, [.string ⟨#[99, 112, 117, 62, 61, 48]⟩]), (wc2.heap.size, [.string ⟨#[99, 112, 117]⟩]), (w.heap.size, [.string ⟨#[99, 112, 117, 61, 56]⟩, .string ⟨#[108, 105, 110, 117, 120]⟩])] := by rw [← hx_]; exact (hO7.new #[.string ⟨#[99, 112, 117]⟩] _ (g := wc2.heap.size)).new #[.string ⟨#[99, 112, 117, 62, 61, 48]⟩] _ (g := wc2.heap.size + 1)
  clear hx_ c0_0 c0_1 cf0 hO7
  have c0_0 : wo8.cell? ⟨wc2.heap.size + 1, 0, none⟩ = some (.string ⟨#[99, 112, 117, 62, 61, 48]⟩) := hO8.c 0 0
  have cf0 := hO8.fr 0
  have c1_0 : wo8.cell? ⟨wc2.heap.size, 0, none⟩ = some (.string ⟨#[99, 112, 117]⟩) := hO8.c 1 0
  have cf1 := hO8.fr 1
  have c2_0 : wo8.cell? ⟨w.heap.size, 0, none⟩ = some (.string ⟨#[99, 112, 117, 61, 56]⟩) := hO8.c 2 0
  have c2_1 : wo8.cell? ⟨w.heap.size, 1, none⟩ = some (.string ⟨#[108, 105, 110, 117, 120]⟩) := hO8.c 2 1
  have cf2 := hO8.fr 2
  have C := implies_all ([⟨#[99, 112, 117]⟩] : List ByteArray) ([⟨#[99, 112, 117, 62, 61, 48]⟩] : List ByteArray) _ _ 1 1 1 1 wo8 (hR.below hO8.below) rfl (hO8.seq 1 ([⟨#[99, 112, 117]⟩] : List ByteArray) rfl rfl) (by decide) (small1 (by decide)) rfl (hO8.seq 0 ([⟨#[99, 112, 117, 62, 61, 48]⟩] : List ByteArray) rfl rfl) (by decide) (small1 (by decide))
  rw [aw3] at C
  replace C := Lib.hid C
  refine C.out.mono ?_
  rintro e wc3 ⟨rfl, hbc⟩
  dsimp only
  clear C
  have hO9 : OwnB w wc3 [(w.heap.size, [.string ⟨#[99, 112, 117, 61, 56]⟩, .string ⟨#[108, 105, 110, 117, 120]⟩])] := (hO8.kept hbc).drop1.drop1
  clear c0_0 cf0 c1_0 cf1 c2_0 c2_1 cf2 hO8
  have c0_0 : wc3.cell? ⟨w.heap.size, 0, none⟩ = some (.string ⟨#[99, 112, 117, 61, 56]⟩) := hO9.c 0 0
  have c0_1 : wc3.cell? ⟨w.heap.size, 1, none⟩ = some (.string ⟨#[108, 105, 110, 117, 120]⟩) := hO9.c 0 1
  have cf0 := hO9.fr 0
  repeat' ((fail_if_success at_builtin); (first | go_skip | go_guarded | go_step))
  have C := valid_any ([⟨#[99, 112, 117, 61, 56]⟩, ⟨#[108, 105, 110, 117, 120]⟩] : List ByteArray) _ 2 2 wc3 (hR.below hO9.below) rfl (hO9.seq 0 ([⟨#[99, 112, 117, 61, 56]⟩, ⟨#[108, 105, 110, 117, 120]⟩] : List ByteArray) rfl rfl) (by decide) (small2 (by decide) (by decide))
  rw [aw4] at C
  replace C := Lib.hid C
  refine C.out.mono ?_
  rintro e wc4 ⟨rfl, hbc⟩
  dsimp only
  have hb9 := hO9.below.trans (hbc.mono hO9.below.size)
  repeat' ((fail_if_success at_builtin); (first | go_skip | go_guarded | go_step))
  go_ret
  exact ⟨rfl, hb9⟩
end Go.Proofs.YtppbblgdcckbdaaDoor
