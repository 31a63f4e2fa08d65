/- Cache: the law Saves. -/
import Derived.Test.YtpdlapdnjmoaoaaDoorCaL2
import Derived.Test.YtpdlapdnjmoaoaaDoorCaX
import Derived.Test.YtpdlapdnjmoaoaaDoorCaS
namespace Go.Proofs.YtpdlapdnjmoaoaaDoor
open Go.RowKit
theorem roomF_le : ∀ (k : Nat) (z s : Int) (l : List Ent), (roomF k z s l).length ≤ l.length
  | 0, _, _, _ => Nat.le_refl _
  | k + 1, z, s, l => by
    unfold roomF
    split
    · refine Nat.le_trans (roomF_le k z s _) ?_
      rw [List.length_eraseIdx]
      split <;> omega
    · exact Nat.le_refl _
theorem saveL_le (z : Int) (l : List Ent) (x : Ent) (now : Int) : (saveL z l x now).length ≤ l.length + 1 := by
  unfold saveL
  split
  · rw [List.length_append]
    have := roomF_le (l.length + 1) z x.size l
    unfold roomS
    simp
    exact this
  · omega
set_option maxRecDepth 100000 in
set_option maxHeartbeats 8000000 in
theorem saves_law (z : Int) (l : List Ent) (A : Option Addr) (n c : Nat) (x : Ent) (now : Int) (w : World) (hR : Ready w) (hn : n = l.length) (hs : Seq w w.heap.size 8 A n (entsC l)) (hc : n ≤ c) (hl : n ≤ 9223372036854775807) (hx : ∀ x ∈ l, x.text) (hxn : ∀ x ∈ l, x.nums) (ht : x.text) (htn : x.nums) :
    Calls Tryd.prog 5 #[cval z A n c, .agg (ent8 x), .int .i64 now] w (fun e w' => e = .returned (.bool true) ∧ Below w.heap.size w w') := by
  obtain ⟨w1, hw1⟩ : ∃ w1 : World, w1 = (w.alloc (.cells #[.int .i64 z, .slice A n c] 24)).alloc (.cells (ent8 x) 42) := ⟨_, rfl⟩
  have hb0 : Below w.heap.size w w1 := by rw [hw1]; exact ((Below.refl w.heap.size w).alloc (Nat.le_refl _) _).alloc (by simp) _
  have z0 : w1.cell? ⟨w.heap.size, 0, none⟩ = some (.int .i64 z) := by rw [hw1]; simp [go_sem]
  have z1 : w1.cell? ⟨w.heap.size, 1, none⟩ = some (.slice A n c) := by rw [hw1]; simp [go_sem]
  have zE : CellsE w1 (w.heap.size + 1) 0 x := by rw [hw1]; exact ⟨by simp [go_sem], by simp [go_sem], by simp [go_sem], by simp [go_sem], by simp [go_sem], by simp [go_sem], by simp [go_sem], by simp [go_sem]⟩
  have zz : w1.heap.size = w.heap.size + 2 := by rw [hw1]; simp
  have facts : ∀ w', Below w1.heap.size w1 w' → w'.cell? ⟨w.heap.size, 0, none⟩ = some (.int .i64 z) ∧ w'.cell? ⟨w.heap.size, 1, none⟩ = some (.slice A n c) ∧ CellsE w' (w.heap.size + 1) 0 x ∧ w.heap.size + 1 < w'.heap.size ∧ w.heap.size < w'.heap.size := fun w' h =>
    ⟨(h.cell (p := ⟨w.heap.size, 0, none⟩) (by show w.heap.size < _; omega)).trans z0, (h.cell (p := ⟨w.heap.size, 1, none⟩) (by show w.heap.size < _; omega)).trans z1, zE.map (fun j => h.cell (p := ⟨w.heap.size + 1, 0 + j, none⟩) (by show w.heap.size + 1 < _; omega)), by have := h.size; omega, by have := h.size; omega⟩
  have q := fun (w' : World) (h : Below w1.heap.size w1 w') => hb0.trans (h.mono hb0.size)
  have hq := fun (w' : World) (h : Below w1.heap.size w1 w') => (hs.below (q w' h)).more (q w' h).size
  have C1 := fun w' (h : Below w1.heap.size w1 w') => few_any l A n c w' hn (hq w' h) hl hx
  have CS := fun w' => short_any x.sc x.key w' ht.p ht.r ht.k
  have CA := fun w' (h : Below w1.heap.size w1 w') => awake_any w' (hR.below (q w' h))
  have C2 := fun w' (h : Below w1.heap.size w1 w') (hf : fewE l = true) (hs : shrtE x.sc x.key = true) => save_any z l x now A n c w' (hR.below (q w' h)) hn (hq w' h) (by have := few_len hf; omega) (fits_of hxn hf) (fit_of htn hs)
  have C3 := fun w' (h : Below w1.heap.size w1 w') (hf : fewE l = true) (hs : shrtE x.sc x.key = true) => refSave_any z l x now A n c w' hn (hq w' h) hc (by have := few_len hf; omega) (fits_of hxn hf) (fit_of htn hs)
  have hle := fun (hf : fewE l = true) => Nat.le_trans (saveL_le z l x now) (Nat.succ_le_succ (few_len hf))
  generalize fewE l = fw at *
  generalize shrtE x.sc x.key = sw at *
  generalize saveE z l x now = ev at *
  generalize saveL z l x now = lv at *
  obtain ⟨-, -, ⟨e0, e1, e2, e3, e4, e5, e6, e7⟩, z2, z3⟩ := facts w1 (Below.refl _ _)
  simp only [Nat.zero_add] at e1 e2 e3 e4 e5 e6 e7
  have hdone : ∀ (wx : World), Below w1.heap.size w1 wx → Below w.heap.size w wx := fun _ h => q _ h
  clear hs hR hx hxn hn q hq zE ht htn hc
  replace C1 := Lib.hid C1
  replace CS := Lib.hid CS
  replace C2 := Lib.hid C2
  replace C3 := Lib.hid C3
  replace CA := Lib.hid CA
  replace hw1 := Lib.hid hw1
  replace facts := Lib.hid facts
  replace hdone := Lib.hid hdone
  replace hle := Lib.hid hle
  go_enter Tryd.func5, Tryd.ntmps5
  repeat' ((fail_if_success at_builtin); (first | go_skip | go_guarded | go_step))
  rw [← hw1.out]
  refine (C1.out _ (Below.refl _ _)).mono ?_
  rintro e w2 ⟨rfl, hb2⟩
  dsimp only
  cases fw with
  | false =>
    repeat' ((fail_if_success at_builtin); (first | go_skip | go_guarded | go_step))
    refine (CA.out _ hb2).mono ?_
    rintro e w3 ⟨rfl, hb3⟩
    dsimp only
    repeat' ((fail_if_success at_builtin); (first | go_skip | go_guarded | go_step))
    go_ret
    exact ⟨rfl, hdone.out _ (hb2.trans (hb3.mono hb2.size))⟩
  | true =>
    clear z0 z1 z2 z3 e0 e1 e2 e3 e4 e5 e6 e7
    obtain ⟨z0, z1, ⟨e0, e1, e2, e3, e4, e5, e6, e7⟩, z2, z3⟩ := facts.out w2 hb2
    simp only [Nat.zero_add] at e1 e2 e3 e4 e5 e6 e7
    repeat' ((fail_if_success at_builtin); (first | go_skip | go_guarded | go_step))
    refine (CS.out _).mono ?_
    rintro e w3 ⟨rfl, hb3⟩
    dsimp only
    replace hb3 := hb2.trans (hb3.mono hb2.size)
    cases sw with
    | false =>
      repeat' ((fail_if_success at_builtin); (first | go_skip | go_guarded | go_step))
      refine (CA.out _ hb3).mono ?_
      rintro e w4 ⟨rfl, hb4⟩
      dsimp only
      repeat' ((fail_if_success at_builtin); (first | go_skip | go_guarded | go_step))
      go_ret
      exact ⟨rfl, hdone.out _ (hb3.trans (hb4.mono hb3.size))⟩
    | true =>
      clear z0 z1 z2 z3 e0 e1 e2 e3 e4 e5 e6 e7
      obtain ⟨z0, z1, ⟨e0, e1, e2, e3, e4, e5, e6, e7⟩, z2, z3⟩ := facts.out w3 hb3
      simp only [Nat.zero_add] at e1 e2 e3 e4 e5 e6 e7
      repeat' ((fail_if_success at_builtin); (first | go_skip | go_guarded | go_step))
      refine (C2.out _ hb3 rfl rfl).mono ?_
      rintro e w4 ⟨A1, n1, c1, rfl, hn1, hs1, hb4⟩
      dsimp only
      replace hb4 := hb3.trans (hb4.mono hb3.size)
      clear z0 z1 z2 z3 e0 e1 e2 e3 e4 e5 e6 e7
      have hC := CAx.fresh (w := w) (c := c1) (hdone.out _ hb4) z hn1 hs1
      have hba := hb4.trans ((Below.alloc (Below.refl _ _) (Nat.le_refl _) (.cells #[.int .i64 z, .slice A1 n1 c1] 24)).mono hb4.size)
      obtain ⟨z0, z1, ⟨e0, e1, e2, e3, e4, e5, e6, e7⟩, z2, z3⟩ := facts.out w4 hb4
      simp only [Nat.zero_add] at e1 e2 e3 e4 e5 e6 e7
      replace hn1 := Lib.hid hn1
      repeat' ((fail_if_success at_builtin); (first | go_skip | go_guarded | go_step))
      generalize World.alloc w4 _ = w5 at *
      generalize w4.heap.size = b at *
      clear z0 z1 z2 z3 e0 e1 e2 e3 e4 e5 e6 e7 hs1
      refine (C3.out _ hba rfl rfl).mono ?_
      rintro e w6 ⟨A2, n2, c2, rfl, hn2, hs2, hb6⟩
      dsimp only
      replace hC := hC.at hb6
      replace hb6 := hba.trans (hb6.mono hba.size)
      have hD := CAx.fresh (w := w) (c := c2) hC.below z hn2 hs2
      have k0 := hC.c0
      have k1 := hC.c1
      have kl := hC.lo
      replace hC := hC.at ((Below.refl _ _).alloc (Nat.le_refl _) (.cells #[.int .i64 z, .slice A2 n2 c2] 24))
      have hbz := hb6.trans ((Below.alloc (Below.refl _ _) (Nat.le_refl _) (.cells #[.int .i64 z, .slice A2 n2 c2] 24)).mono hb6.size)
      have CM := same_any z z lv lv A1 A2 n1 n2 c1 c2 _ hC.len hC.seq hD.len hD.seq (by have := hle.out rfl; have := hC.len; omega) (by have := hle.out rfl; have := hD.len; omega)
      rw [beq_self_eq_true, Bool.true_and, sameL_self] at CM
      replace CM := Lib.hid CM
      clear hC hD hs2 hba hb4
      replace hn2 := Lib.hid hn2
      repeat' ((fail_if_success at_builtin); (first | go_skip | go_guarded | go_step))
      refine CM.out.mono ?_
      rintro e w8 ⟨rfl, hb8⟩
      dsimp only
      replace hb8 := hbz.trans (hb8.mono hbz.size)
      repeat' ((fail_if_success at_builtin); (first | go_skip | go_guarded | go_step))
      refine (CA.out _ hb8).mono ?_
      rintro e w9 ⟨rfl, hb9⟩
      dsimp only
      repeat' ((fail_if_success at_builtin); (first | go_skip | go_guarded | go_step))
      go_ret
      exact ⟨rfl, hdone.out _ (hb8.trans (hb9.mono hb8.size))⟩
end Go.Proofs.YtpdlapdnjmoaoaaDoor
