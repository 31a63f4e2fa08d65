/- The law about decisions. -/
import Derived.Test.YtionchkblgpklaaDoorGtL
namespace Go.Proofs.YtionchkblgpklaaDoor
open Go.RowKit
theorem appG_len (g : Gt) (who : ByteArray) (now : Int) : (appG g who now).s.who.length = g.s.who.length ∧ (appG g who now).yes.length ≤ g.yes.length + 1 := by
  unfold appG
  split
  · exact ⟨rfl, by omega⟩
  · exact ⟨rfl, by dsimp only; rw [putL_len]; omega⟩
theorem rejG_len (g : Gt) (who : ByteArray) (now : Int) : (rejG g who now).s.who.length = g.s.who.length ∧ (rejG g who now).yes.length = g.yes.length := by
  unfold rejG
  split <;> exact ⟨rfl, rfl⟩
set_option maxRecDepth 100000 in
set_option maxHeartbeats 4000000 in
theorem decides_law (g : Gt) (A : Option Addr) (c : Nat) (A' : Option Addr) (c' : Nat) (who : ByteArray) (now : Int) (w : World) (hs : Seq w w.heap.size 1 A g.s.who.length (cellsS g.s.who)) (hs' : Seq w w.heap.size 1 A' g.yes.length (cellsS g.yes)) (hl : g.s.who.length ≤ 9223372036854775807) (hm : ∀ s ∈ g.s.who, s.size ≤ 9223372036854775807) (hl' : g.yes.length ≤ 9223372036854775807) (hm' : ∀ s ∈ g.yes, s.size ≤ 9223372036854775807) (hc' : g.yes.length ≤ c') (h1 : I64 g.opened) (h2 : I64 g.s.exp) : Calls Tryd.prog 4 #[.agg (garr g A c A' c'), .string who, .int .i64 now] w fun e w' => e = .returned (.bool true) ∧ Below w.heap.size w w' := by
  have hb1 := (Below.refl w.heap.size w).alloc (Nat.le_refl _) (.cells (garr g A c A' c') 28)
  have hz : (w.alloc (.cells (garr g A c A' c') 28)).heap.size = w.heap.size + 1 := by simp
  have d0 : ((w.alloc (.cells (garr g A c A' c') 28))).cell? ⟨w.heap.size, 0, none⟩ = some (.int .i64 g.s.app) := by simp [go_sem]
  have d1 : ((w.alloc (.cells (garr g A c A' c') 28))).cell? ⟨w.heap.size, 1, none⟩ = some (.slice A g.s.who.length c) := by simp [go_sem]
  have d2 : ((w.alloc (.cells (garr g A c A' c') 28))).cell? ⟨w.heap.size, 2, none⟩ = some (.int .i64 g.s.exp) := by simp [go_sem]
  have d3 : ((w.alloc (.cells (garr g A c A' c') 28))).cell? ⟨w.heap.size, 3, none⟩ = some (.int .i64 g.opened) := by simp [go_sem]
  have d4 : ((w.alloc (.cells (garr g A c A' c') 28))).cell? ⟨w.heap.size, 4, none⟩ = some (.slice A' g.yes.length c') := by simp [go_sem]
  have d5 : ((w.alloc (.cells (garr g A c A' c') 28))).cell? ⟨w.heap.size, 5, none⟩ = some (.int .i64 g.state) := by simp [go_sem]
  have dF : ∀ j, ((w.alloc (.cells (garr g A c A' c') 28))).frozen? ⟨w.heap.size, j, none⟩ = false := fun j => by simp [go_sem]
  go_enter Tryd.func4, Tryd.ntmps4
  repeat' ((fail_if_success at_builtin); (first | go_skip | go_guarded | go_step))
  generalize (w.alloc (.cells (garr g A c A' c') 28)) = w1 at *
  have hs1 := (hs.below hb1).more hb1.size
  have hs1' := (hs'.below hb1).more hb1.size
  refine (small_any g A c A' c' w1 hs1 hs1' hl hm hl' hm').mono ?_
  rintro e w2 ⟨rfl, hb2⟩
  dsimp only
  replace d0 := (hb2.cell (p := ⟨w.heap.size, 0, none⟩) (by dsimp only; omega)).trans d0
  replace d1 := (hb2.cell (p := ⟨w.heap.size, 1, none⟩) (by dsimp only; omega)).trans d1
  replace d2 := (hb2.cell (p := ⟨w.heap.size, 2, none⟩) (by dsimp only; omega)).trans d2
  replace d3 := (hb2.cell (p := ⟨w.heap.size, 3, none⟩) (by dsimp only; omega)).trans d3
  replace d4 := (hb2.cell (p := ⟨w.heap.size, 4, none⟩) (by dsimp only; omega)).trans d4
  replace d5 := (hb2.cell (p := ⟨w.heap.size, 5, none⟩) (by dsimp only; omega)).trans d5
  replace dF := frz_below hb2 (by omega) dF
  have hbw_w2 := hb1.trans (hb2.mono hb1.size)
  have hz2 := hb2.size
  have hr2 := (hs1.below hb2).more hb2.size
  have hr2' := (hs1'.below hb2).more hb2.size
  clear hb2 hs1 hs1'
  cases hf : (fewL g.s.who && fewL g.yes) with
  | false =>
    repeat' ((fail_if_success at_builtin); (first | go_skip | go_guarded | go_step))
    refine (lives_any _).mono ?_
    rintro e wl ⟨rfl, hbl⟩
    dsimp only
    repeat' ((fail_if_success at_builtin); (first | go_skip | go_guarded | go_step))
    go_ret
    exact ⟨rfl, hbw_w2.trans (hbl.mono hbw_w2.size)⟩
  | true =>
    obtain ⟨f1, f2⟩ := Bool.and_eq_true_iff.1 hf
    obtain ⟨n1, n2⟩ := fewL_out f1
    obtain ⟨n3, n4⟩ := fewL_out f2
    clear hf f1 f2
    by_cases hw : 200 < who.size
    · have hw2 : (200 : Int) < (who.size : Int) := by omega
      clear hw
      repeat' ((fail_if_success at_builtin); (first | go_skip | go_guarded | go_step))
      refine (lives_any _).mono ?_
      rintro e wl ⟨rfl, hbl⟩
      dsimp only
      repeat' ((fail_if_success at_builtin); (first | go_skip | go_guarded | go_step))
      go_ret
      exact ⟨rfl, hbw_w2.trans (hbl.mono hbw_w2.size)⟩
    · have hw2 : ¬ (200 : Int) < (who.size : Int) := by omega
      have hm2 : ∀ x ∈ g.yes, x.size ≤ 1000 := fun x hx => by have := n4 x hx; omega
      have C0 := fun w' (hr : Seq w' w'.heap.size 1 A g.s.who.length (cellsS g.s.who)) (hr' : Seq w' w'.heap.size 1 A' g.yes.length (cellsS g.yes)) => approve_any g A c A' c' who now w' hr hr' (by omega) (by omega) hm2 (by omega) h1 h2
      have C1 := fun w' (hr : Seq w' w'.heap.size 1 A g.s.who.length (cellsS g.s.who)) (hr' : Seq w' w'.heap.size 1 A' g.yes.length (cellsS g.yes)) => refApprove_any g A c A' c' who now w' hr hr' (by omega) (by omega) hc' hm2 (by omega) h1 h2
      have C2 := fun w' (hr : Seq w' w'.heap.size 1 A g.s.who.length (cellsS g.s.who)) (hr' : Seq w' w'.heap.size 1 A' g.yes.length (cellsS g.yes)) => reject_any g A c A' c' who now w' hr hr' (by omega) (by omega) h1 h2
      have C3 := fun w' (hr : Seq w' w'.heap.size 1 A g.s.who.length (cellsS g.s.who)) (hr' : Seq w' w'.heap.size 1 A' g.yes.length (cellsS g.yes)) => refReject_any g A c A' c' who now w' hr hr' (by omega) h1 h2
      have ag1 := appG_len g who now
      have rg1 := rejG_len g who now
      generalize appG g who now = ag at *
      generalize appE g who now = ae at *
      generalize rejG g who now = rg at *
      generalize checkG g who now = re at *
      replace ag1 := Lib.hid ag1
      replace rg1 := Lib.hid rg1
      replace C0 := Lib.hid C0
      replace C1 := Lib.hid C1
      replace C2 := Lib.hid C2
      replace C3 := Lib.hid C3
      repeat' ((fail_if_success at_builtin); (first | go_skip | go_guarded | go_step))
      have C := C0.out w2 hr2 hr2'
      replace C := Lib.hid C
      refine C.out.mono ?_
      rintro e w3x ⟨A3, c3, B3, k3, rfl, hb, hr3, hs3⟩
      dsimp only
      replace d0 := (hb.cell (p := ⟨w.heap.size, 0, none⟩) (by dsimp only; omega)).trans d0
      replace d1 := (hb.cell (p := ⟨w.heap.size, 1, none⟩) (by dsimp only; omega)).trans d1
      replace d2 := (hb.cell (p := ⟨w.heap.size, 2, none⟩) (by dsimp only; omega)).trans d2
      replace d3 := (hb.cell (p := ⟨w.heap.size, 3, none⟩) (by dsimp only; omega)).trans d3
      replace d4 := (hb.cell (p := ⟨w.heap.size, 4, none⟩) (by dsimp only; omega)).trans d4
      replace d5 := (hb.cell (p := ⟨w.heap.size, 5, none⟩) (by dsimp only; omega)).trans d5
      replace dF := frz_below hb (by omega) dF
      have hbw_w3x := hbw_w2.trans (hb.mono hbw_w2.size)
      have hz_w3x := hb.size
      replace hr2 := (Seq.below hr2 hb).more hb.size
      replace hr2' := (Seq.below hr2' hb).more hb.size
      clear hb C
      have da0 : ∀ ob, (w3x.alloc ob).cell? ⟨w.heap.size, 0, none⟩ = some (.int .i64 g.s.app) := fun ob => (((Below.refl w3x.heap.size w3x).alloc (Nat.le_refl _) ob).cell (p := ⟨w.heap.size, 0, none⟩) (by dsimp only; omega)).trans d0
      have da1 : ∀ ob, (w3x.alloc ob).cell? ⟨w.heap.size, 1, none⟩ = some (.slice A g.s.who.length c) := fun ob => (((Below.refl w3x.heap.size w3x).alloc (Nat.le_refl _) ob).cell (p := ⟨w.heap.size, 1, none⟩) (by dsimp only; omega)).trans d1
      have da2 : ∀ ob, (w3x.alloc ob).cell? ⟨w.heap.size, 2, none⟩ = some (.int .i64 g.s.exp) := fun ob => (((Below.refl w3x.heap.size w3x).alloc (Nat.le_refl _) ob).cell (p := ⟨w.heap.size, 2, none⟩) (by dsimp only; omega)).trans d2
      have da3 : ∀ ob, (w3x.alloc ob).cell? ⟨w.heap.size, 3, none⟩ = some (.int .i64 g.opened) := fun ob => (((Below.refl w3x.heap.size w3x).alloc (Nat.le_refl _) ob).cell (p := ⟨w.heap.size, 3, none⟩) (by dsimp only; omega)).trans d3
      have da4 : ∀ ob, (w3x.alloc ob).cell? ⟨w.heap.size, 4, none⟩ = some (.slice A' g.yes.length c') := fun ob => (((Below.refl w3x.heap.size w3x).alloc (Nat.le_refl _) ob).cell (p := ⟨w.heap.size, 4, none⟩) (by dsimp only; omega)).trans d4
      have da5 : ∀ ob, (w3x.alloc ob).cell? ⟨w.heap.size, 5, none⟩ = some (.int .i64 g.state) := fun ob => (((Below.refl w3x.heap.size w3x).alloc (Nat.le_refl _) ob).cell (p := ⟨w.heap.size, 5, none⟩) (by dsimp only; omega)).trans d5
      repeat' ((fail_if_success at_builtin); (first | go_skip | go_guarded | go_step))
      clear da0 da1 da2 da3 da4 da5
      have hal := (Below.refl w3x.heap.size w3x).alloc (Nat.le_refl _) (.cells #[.int .i64 (ag).s.app, .slice A3 (ag).s.who.length c3, .int .i64 (ag).s.exp, .int .i64 (ag).opened, .slice B3 (ag).yes.length k3, .int .i64 (ag).state] 28)
      replace d0 := (hal.cell (p := ⟨w.heap.size, 0, none⟩) (by dsimp only; omega)).trans d0
      replace d1 := (hal.cell (p := ⟨w.heap.size, 1, none⟩) (by dsimp only; omega)).trans d1
      replace d2 := (hal.cell (p := ⟨w.heap.size, 2, none⟩) (by dsimp only; omega)).trans d2
      replace d3 := (hal.cell (p := ⟨w.heap.size, 3, none⟩) (by dsimp only; omega)).trans d3
      replace d4 := (hal.cell (p := ⟨w.heap.size, 4, none⟩) (by dsimp only; omega)).trans d4
      replace d5 := (hal.cell (p := ⟨w.heap.size, 5, none⟩) (by dsimp only; omega)).trans d5
      replace dF := frz_below hal (by omega) dF
      have p0 : (w3x.alloc (.cells #[.int .i64 (ag).s.app, .slice A3 (ag).s.who.length c3, .int .i64 (ag).s.exp, .int .i64 (ag).opened, .slice B3 (ag).yes.length k3, .int .i64 (ag).state] 28)).cell? ⟨w3x.heap.size, 0, none⟩ = some (.int .i64 (ag).s.app) := by simp [go_sem]
      have p1 : (w3x.alloc (.cells #[.int .i64 (ag).s.app, .slice A3 (ag).s.who.length c3, .int .i64 (ag).s.exp, .int .i64 (ag).opened, .slice B3 (ag).yes.length k3, .int .i64 (ag).state] 28)).cell? ⟨w3x.heap.size, 1, none⟩ = some (.slice A3 (ag).s.who.length c3) := by simp [go_sem]
      have p2 : (w3x.alloc (.cells #[.int .i64 (ag).s.app, .slice A3 (ag).s.who.length c3, .int .i64 (ag).s.exp, .int .i64 (ag).opened, .slice B3 (ag).yes.length k3, .int .i64 (ag).state] 28)).cell? ⟨w3x.heap.size, 2, none⟩ = some (.int .i64 (ag).s.exp) := by simp [go_sem]
      have p3 : (w3x.alloc (.cells #[.int .i64 (ag).s.app, .slice A3 (ag).s.who.length c3, .int .i64 (ag).s.exp, .int .i64 (ag).opened, .slice B3 (ag).yes.length k3, .int .i64 (ag).state] 28)).cell? ⟨w3x.heap.size, 3, none⟩ = some (.int .i64 (ag).opened) := by simp [go_sem]
      have p4 : (w3x.alloc (.cells #[.int .i64 (ag).s.app, .slice A3 (ag).s.who.length c3, .int .i64 (ag).s.exp, .int .i64 (ag).opened, .slice B3 (ag).yes.length k3, .int .i64 (ag).state] 28)).cell? ⟨w3x.heap.size, 4, none⟩ = some (.slice B3 (ag).yes.length k3) := by simp [go_sem]
      have p5 : (w3x.alloc (.cells #[.int .i64 (ag).s.app, .slice A3 (ag).s.who.length c3, .int .i64 (ag).s.exp, .int .i64 (ag).opened, .slice B3 (ag).yes.length k3, .int .i64 (ag).state] 28)).cell? ⟨w3x.heap.size, 5, none⟩ = some (.int .i64 (ag).state) := by simp [go_sem]
      have pF : ∀ j, (w3x.alloc (.cells #[.int .i64 (ag).s.app, .slice A3 (ag).s.who.length c3, .int .i64 (ag).s.exp, .int .i64 (ag).opened, .slice B3 (ag).yes.length k3, .int .i64 (ag).state] 28)).frozen? ⟨w3x.heap.size, j, none⟩ = false := fun j => by simp [go_sem]
      have hz_w3 : (w3x.alloc (.cells #[.int .i64 (ag).s.app, .slice A3 (ag).s.who.length c3, .int .i64 (ag).s.exp, .int .i64 (ag).opened, .slice B3 (ag).yes.length k3, .int .i64 (ag).state] 28)).heap.size = w3x.heap.size + 1 := by simp
      have hbw_w3 := hbw_w3x.trans (hal.mono hbw_w3x.size)
      replace hr2 := (Seq.below hr2 hal).more hal.size
      replace hr2' := (Seq.below hr2' hal).more hal.size
      replace hr3 := (Seq.below hr3 hal).more hal.size
      replace hs3 := (Seq.below hs3 hal).more hal.size
      generalize w3x.alloc (.cells #[.int .i64 (ag).s.app, .slice A3 (ag).s.who.length c3, .int .i64 (ag).s.exp, .int .i64 (ag).opened, .slice B3 (ag).yes.length k3, .int .i64 (ag).state] 28) = w3 at *
      clear hal
      have C := C1.out w3 hr2 hr2'
      replace C := Lib.hid C
      refine C.out.mono ?_
      rintro e w4x ⟨A4, c4, B4, k4, rfl, hb, hr4, hs4⟩
      dsimp only
      replace d0 := (hb.cell (p := ⟨w.heap.size, 0, none⟩) (by dsimp only; omega)).trans d0
      replace d1 := (hb.cell (p := ⟨w.heap.size, 1, none⟩) (by dsimp only; omega)).trans d1
      replace d2 := (hb.cell (p := ⟨w.heap.size, 2, none⟩) (by dsimp only; omega)).trans d2
      replace d3 := (hb.cell (p := ⟨w.heap.size, 3, none⟩) (by dsimp only; omega)).trans d3
      replace d4 := (hb.cell (p := ⟨w.heap.size, 4, none⟩) (by dsimp only; omega)).trans d4
      replace d5 := (hb.cell (p := ⟨w.heap.size, 5, none⟩) (by dsimp only; omega)).trans d5
      replace dF := frz_below hb (by omega) dF
      replace p0 := (hb.cell (p := ⟨w3x.heap.size, 0, none⟩) (by dsimp only; omega)).trans p0
      replace p1 := (hb.cell (p := ⟨w3x.heap.size, 1, none⟩) (by dsimp only; omega)).trans p1
      replace p2 := (hb.cell (p := ⟨w3x.heap.size, 2, none⟩) (by dsimp only; omega)).trans p2
      replace p3 := (hb.cell (p := ⟨w3x.heap.size, 3, none⟩) (by dsimp only; omega)).trans p3
      replace p4 := (hb.cell (p := ⟨w3x.heap.size, 4, none⟩) (by dsimp only; omega)).trans p4
      replace p5 := (hb.cell (p := ⟨w3x.heap.size, 5, none⟩) (by dsimp only; omega)).trans p5
      replace pF := frz_below hb (by omega) pF
      have hbw_w4x := hbw_w3.trans (hb.mono hbw_w3.size)
      have hz_w4x := hb.size
      replace hr2 := (Seq.below hr2 hb).more hb.size
      replace hr2' := (Seq.below hr2' hb).more hb.size
      replace hr3 := (Seq.below hr3 hb).more hb.size
      replace hs3 := (Seq.below hs3 hb).more hb.size
      clear hb C
      have da0 : ∀ ob, (w4x.alloc ob).cell? ⟨w.heap.size, 0, none⟩ = some (.int .i64 g.s.app) := fun ob => (((Below.refl w4x.heap.size w4x).alloc (Nat.le_refl _) ob).cell (p := ⟨w.heap.size, 0, none⟩) (by dsimp only; omega)).trans d0
      have da1 : ∀ ob, (w4x.alloc ob).cell? ⟨w.heap.size, 1, none⟩ = some (.slice A g.s.who.length c) := fun ob => (((Below.refl w4x.heap.size w4x).alloc (Nat.le_refl _) ob).cell (p := ⟨w.heap.size, 1, none⟩) (by dsimp only; omega)).trans d1
      have da2 : ∀ ob, (w4x.alloc ob).cell? ⟨w.heap.size, 2, none⟩ = some (.int .i64 g.s.exp) := fun ob => (((Below.refl w4x.heap.size w4x).alloc (Nat.le_refl _) ob).cell (p := ⟨w.heap.size, 2, none⟩) (by dsimp only; omega)).trans d2
      have da3 : ∀ ob, (w4x.alloc ob).cell? ⟨w.heap.size, 3, none⟩ = some (.int .i64 g.opened) := fun ob => (((Below.refl w4x.heap.size w4x).alloc (Nat.le_refl _) ob).cell (p := ⟨w.heap.size, 3, none⟩) (by dsimp only; omega)).trans d3
      have da4 : ∀ ob, (w4x.alloc ob).cell? ⟨w.heap.size, 4, none⟩ = some (.slice A' g.yes.length c') := fun ob => (((Below.refl w4x.heap.size w4x).alloc (Nat.le_refl _) ob).cell (p := ⟨w.heap.size, 4, none⟩) (by dsimp only; omega)).trans d4
      have da5 : ∀ ob, (w4x.alloc ob).cell? ⟨w.heap.size, 5, none⟩ = some (.int .i64 g.state) := fun ob => (((Below.refl w4x.heap.size w4x).alloc (Nat.le_refl _) ob).cell (p := ⟨w.heap.size, 5, none⟩) (by dsimp only; omega)).trans d5
      repeat' ((fail_if_success at_builtin); (first | go_skip | go_guarded | go_step))
      clear da0 da1 da2 da3 da4 da5
      have hal := (Below.refl w4x.heap.size w4x).alloc (Nat.le_refl _) (.cells #[.int .i64 (ag).s.app, .slice A4 (ag).s.who.length c4, .int .i64 (ag).s.exp, .int .i64 (ag).opened, .slice B4 (ag).yes.length k4, .int .i64 (ag).state] 28)
      replace d0 := (hal.cell (p := ⟨w.heap.size, 0, none⟩) (by dsimp only; omega)).trans d0
      replace d1 := (hal.cell (p := ⟨w.heap.size, 1, none⟩) (by dsimp only; omega)).trans d1
      replace d2 := (hal.cell (p := ⟨w.heap.size, 2, none⟩) (by dsimp only; omega)).trans d2
      replace d3 := (hal.cell (p := ⟨w.heap.size, 3, none⟩) (by dsimp only; omega)).trans d3
      replace d4 := (hal.cell (p := ⟨w.heap.size, 4, none⟩) (by dsimp only; omega)).trans d4
      replace d5 := (hal.cell (p := ⟨w.heap.size, 5, none⟩) (by dsimp only; omega)).trans d5
      replace dF := frz_below hal (by omega) dF
      replace p0 := (hal.cell (p := ⟨w3x.heap.size, 0, none⟩) (by dsimp only; omega)).trans p0
      replace p1 := (hal.cell (p := ⟨w3x.heap.size, 1, none⟩) (by dsimp only; omega)).trans p1
      replace p2 := (hal.cell (p := ⟨w3x.heap.size, 2, none⟩) (by dsimp only; omega)).trans p2
      replace p3 := (hal.cell (p := ⟨w3x.heap.size, 3, none⟩) (by dsimp only; omega)).trans p3
      replace p4 := (hal.cell (p := ⟨w3x.heap.size, 4, none⟩) (by dsimp only; omega)).trans p4
      replace p5 := (hal.cell (p := ⟨w3x.heap.size, 5, none⟩) (by dsimp only; omega)).trans p5
      replace pF := frz_below hal (by omega) pF
      have q0 : (w4x.alloc (.cells #[.int .i64 (ag).s.app, .slice A4 (ag).s.who.length c4, .int .i64 (ag).s.exp, .int .i64 (ag).opened, .slice B4 (ag).yes.length k4, .int .i64 (ag).state] 28)).cell? ⟨w4x.heap.size, 0, none⟩ = some (.int .i64 (ag).s.app) := by simp [go_sem]
      have q1 : (w4x.alloc (.cells #[.int .i64 (ag).s.app, .slice A4 (ag).s.who.length c4, .int .i64 (ag).s.exp, .int .i64 (ag).opened, .slice B4 (ag).yes.length k4, .int .i64 (ag).state] 28)).cell? ⟨w4x.heap.size, 1, none⟩ = some (.slice A4 (ag).s.who.length c4) := by simp [go_sem]
      have q2 : (w4x.alloc (.cells #[.int .i64 (ag).s.app, .slice A4 (ag).s.who.length c4, .int .i64 (ag).s.exp, .int .i64 (ag).opened, .slice B4 (ag).yes.length k4, .int .i64 (ag).state] 28)).cell? ⟨w4x.heap.size, 2, none⟩ = some (.int .i64 (ag).s.exp) := by simp [go_sem]
      have q3 : (w4x.alloc (.cells #[.int .i64 (ag).s.app, .slice A4 (ag).s.who.length c4, .int .i64 (ag).s.exp, .int .i64 (ag).opened, .slice B4 (ag).yes.length k4, .int .i64 (ag).state] 28)).cell? ⟨w4x.heap.size, 3, none⟩ = some (.int .i64 (ag).opened) := by simp [go_sem]
      have q4 : (w4x.alloc (.cells #[.int .i64 (ag).s.app, .slice A4 (ag).s.who.length c4, .int .i64 (ag).s.exp, .int .i64 (ag).opened, .slice B4 (ag).yes.length k4, .int .i64 (ag).state] 28)).cell? ⟨w4x.heap.size, 4, none⟩ = some (.slice B4 (ag).yes.length k4) := by simp [go_sem]
      have q5 : (w4x.alloc (.cells #[.int .i64 (ag).s.app, .slice A4 (ag).s.who.length c4, .int .i64 (ag).s.exp, .int .i64 (ag).opened, .slice B4 (ag).yes.length k4, .int .i64 (ag).state] 28)).cell? ⟨w4x.heap.size, 5, none⟩ = some (.int .i64 (ag).state) := by simp [go_sem]
      have qF : ∀ j, (w4x.alloc (.cells #[.int .i64 (ag).s.app, .slice A4 (ag).s.who.length c4, .int .i64 (ag).s.exp, .int .i64 (ag).opened, .slice B4 (ag).yes.length k4, .int .i64 (ag).state] 28)).frozen? ⟨w4x.heap.size, j, none⟩ = false := fun j => by simp [go_sem]
      have hz_w4 : (w4x.alloc (.cells #[.int .i64 (ag).s.app, .slice A4 (ag).s.who.length c4, .int .i64 (ag).s.exp, .int .i64 (ag).opened, .slice B4 (ag).yes.length k4, .int .i64 (ag).state] 28)).heap.size = w4x.heap.size + 1 := by simp
      have hbw_w4 := hbw_w4x.trans (hal.mono hbw_w4x.size)
      replace hr2 := (Seq.below hr2 hal).more hal.size
      replace hr2' := (Seq.below hr2' hal).more hal.size
      replace hr3 := (Seq.below hr3 hal).more hal.size
      replace hs3 := (Seq.below hs3 hal).more hal.size
      replace hr4 := (Seq.below hr4 hal).more hal.size
      replace hs4 := (Seq.below hs4 hal).more hal.size
      generalize w4x.alloc (.cells #[.int .i64 (ag).s.app, .slice A4 (ag).s.who.length c4, .int .i64 (ag).s.exp, .int .i64 (ag).opened, .slice B4 (ag).yes.length k4, .int .i64 (ag).state] 28) = w4 at *
      clear hal
      have C := C2.out w4 hr2 hr2'
      replace C := Lib.hid C
      refine C.out.mono ?_
      rintro e w5x ⟨A5, c5, B5, k5, rfl, hb, hr5, hs5⟩
      dsimp only
      replace d0 := (hb.cell (p := ⟨w.heap.size, 0, none⟩) (by dsimp only; omega)).trans d0
      replace d1 := (hb.cell (p := ⟨w.heap.size, 1, none⟩) (by dsimp only; omega)).trans d1
      replace d2 := (hb.cell (p := ⟨w.heap.size, 2, none⟩) (by dsimp only; omega)).trans d2
      replace d3 := (hb.cell (p := ⟨w.heap.size, 3, none⟩) (by dsimp only; omega)).trans d3
      replace d4 := (hb.cell (p := ⟨w.heap.size, 4, none⟩) (by dsimp only; omega)).trans d4
      replace d5 := (hb.cell (p := ⟨w.heap.size, 5, none⟩) (by dsimp only; omega)).trans d5
      replace dF := frz_below hb (by omega) dF
      replace p0 := (hb.cell (p := ⟨w3x.heap.size, 0, none⟩) (by dsimp only; omega)).trans p0
      replace p1 := (hb.cell (p := ⟨w3x.heap.size, 1, none⟩) (by dsimp only; omega)).trans p1
      replace p2 := (hb.cell (p := ⟨w3x.heap.size, 2, none⟩) (by dsimp only; omega)).trans p2
      replace p3 := (hb.cell (p := ⟨w3x.heap.size, 3, none⟩) (by dsimp only; omega)).trans p3
      replace p4 := (hb.cell (p := ⟨w3x.heap.size, 4, none⟩) (by dsimp only; omega)).trans p4
      replace p5 := (hb.cell (p := ⟨w3x.heap.size, 5, none⟩) (by dsimp only; omega)).trans p5
      replace pF := frz_below hb (by omega) pF
      replace q0 := (hb.cell (p := ⟨w4x.heap.size, 0, none⟩) (by dsimp only; omega)).trans q0
      replace q1 := (hb.cell (p := ⟨w4x.heap.size, 1, none⟩) (by dsimp only; omega)).trans q1
      replace q2 := (hb.cell (p := ⟨w4x.heap.size, 2, none⟩) (by dsimp only; omega)).trans q2
      replace q3 := (hb.cell (p := ⟨w4x.heap.size, 3, none⟩) (by dsimp only; omega)).trans q3
      replace q4 := (hb.cell (p := ⟨w4x.heap.size, 4, none⟩) (by dsimp only; omega)).trans q4
      replace q5 := (hb.cell (p := ⟨w4x.heap.size, 5, none⟩) (by dsimp only; omega)).trans q5
      replace qF := frz_below hb (by omega) qF
      have hbw_w5x := hbw_w4.trans (hb.mono hbw_w4.size)
      have hz_w5x := hb.size
      replace hr2 := (Seq.below hr2 hb).more hb.size
      replace hr2' := (Seq.below hr2' hb).more hb.size
      replace hr3 := (Seq.below hr3 hb).more hb.size
      replace hs3 := (Seq.below hs3 hb).more hb.size
      replace hr4 := (Seq.below hr4 hb).more hb.size
      replace hs4 := (Seq.below hs4 hb).more hb.size
      clear hb C
      have da0 : ∀ ob, (w5x.alloc ob).cell? ⟨w.heap.size, 0, none⟩ = some (.int .i64 g.s.app) := fun ob => (((Below.refl w5x.heap.size w5x).alloc (Nat.le_refl _) ob).cell (p := ⟨w.heap.size, 0, none⟩) (by dsimp only; omega)).trans d0
      have da1 : ∀ ob, (w5x.alloc ob).cell? ⟨w.heap.size, 1, none⟩ = some (.slice A g.s.who.length c) := fun ob => (((Below.refl w5x.heap.size w5x).alloc (Nat.le_refl _) ob).cell (p := ⟨w.heap.size, 1, none⟩) (by dsimp only; omega)).trans d1
      have da2 : ∀ ob, (w5x.alloc ob).cell? ⟨w.heap.size, 2, none⟩ = some (.int .i64 g.s.exp) := fun ob => (((Below.refl w5x.heap.size w5x).alloc (Nat.le_refl _) ob).cell (p := ⟨w.heap.size, 2, none⟩) (by dsimp only; omega)).trans d2
      have da3 : ∀ ob, (w5x.alloc ob).cell? ⟨w.heap.size, 3, none⟩ = some (.int .i64 g.opened) := fun ob => (((Below.refl w5x.heap.size w5x).alloc (Nat.le_refl _) ob).cell (p := ⟨w.heap.size, 3, none⟩) (by dsimp only; omega)).trans d3
      have da4 : ∀ ob, (w5x.alloc ob).cell? ⟨w.heap.size, 4, none⟩ = some (.slice A' g.yes.length c') := fun ob => (((Below.refl w5x.heap.size w5x).alloc (Nat.le_refl _) ob).cell (p := ⟨w.heap.size, 4, none⟩) (by dsimp only; omega)).trans d4
      have da5 : ∀ ob, (w5x.alloc ob).cell? ⟨w.heap.size, 5, none⟩ = some (.int .i64 g.state) := fun ob => (((Below.refl w5x.heap.size w5x).alloc (Nat.le_refl _) ob).cell (p := ⟨w.heap.size, 5, none⟩) (by dsimp only; omega)).trans d5
      repeat' ((fail_if_success at_builtin); (first | go_skip | go_guarded | go_step))
      clear da0 da1 da2 da3 da4 da5
      have hal := (Below.refl w5x.heap.size w5x).alloc (Nat.le_refl _) (.cells #[.int .i64 (rg).s.app, .slice A5 (rg).s.who.length c5, .int .i64 (rg).s.exp, .int .i64 (rg).opened, .slice B5 (rg).yes.length k5, .int .i64 (rg).state] 28)
      replace d0 := (hal.cell (p := ⟨w.heap.size, 0, none⟩) (by dsimp only; omega)).trans d0
      replace d1 := (hal.cell (p := ⟨w.heap.size, 1, none⟩) (by dsimp only; omega)).trans d1
      replace d2 := (hal.cell (p := ⟨w.heap.size, 2, none⟩) (by dsimp only; omega)).trans d2
      replace d3 := (hal.cell (p := ⟨w.heap.size, 3, none⟩) (by dsimp only; omega)).trans d3
      replace d4 := (hal.cell (p := ⟨w.heap.size, 4, none⟩) (by dsimp only; omega)).trans d4
      replace d5 := (hal.cell (p := ⟨w.heap.size, 5, none⟩) (by dsimp only; omega)).trans d5
      replace dF := frz_below hal (by omega) dF
      replace p0 := (hal.cell (p := ⟨w3x.heap.size, 0, none⟩) (by dsimp only; omega)).trans p0
      replace p1 := (hal.cell (p := ⟨w3x.heap.size, 1, none⟩) (by dsimp only; omega)).trans p1
      replace p2 := (hal.cell (p := ⟨w3x.heap.size, 2, none⟩) (by dsimp only; omega)).trans p2
      replace p3 := (hal.cell (p := ⟨w3x.heap.size, 3, none⟩) (by dsimp only; omega)).trans p3
      replace p4 := (hal.cell (p := ⟨w3x.heap.size, 4, none⟩) (by dsimp only; omega)).trans p4
      replace p5 := (hal.cell (p := ⟨w3x.heap.size, 5, none⟩) (by dsimp only; omega)).trans p5
      replace pF := frz_below hal (by omega) pF
      replace q0 := (hal.cell (p := ⟨w4x.heap.size, 0, none⟩) (by dsimp only; omega)).trans q0
      replace q1 := (hal.cell (p := ⟨w4x.heap.size, 1, none⟩) (by dsimp only; omega)).trans q1
      replace q2 := (hal.cell (p := ⟨w4x.heap.size, 2, none⟩) (by dsimp only; omega)).trans q2
      replace q3 := (hal.cell (p := ⟨w4x.heap.size, 3, none⟩) (by dsimp only; omega)).trans q3
      replace q4 := (hal.cell (p := ⟨w4x.heap.size, 4, none⟩) (by dsimp only; omega)).trans q4
      replace q5 := (hal.cell (p := ⟨w4x.heap.size, 5, none⟩) (by dsimp only; omega)).trans q5
      replace qF := frz_below hal (by omega) qF
      have r0 : (w5x.alloc (.cells #[.int .i64 (rg).s.app, .slice A5 (rg).s.who.length c5, .int .i64 (rg).s.exp, .int .i64 (rg).opened, .slice B5 (rg).yes.length k5, .int .i64 (rg).state] 28)).cell? ⟨w5x.heap.size, 0, none⟩ = some (.int .i64 (rg).s.app) := by simp [go_sem]
      have r1 : (w5x.alloc (.cells #[.int .i64 (rg).s.app, .slice A5 (rg).s.who.length c5, .int .i64 (rg).s.exp, .int .i64 (rg).opened, .slice B5 (rg).yes.length k5, .int .i64 (rg).state] 28)).cell? ⟨w5x.heap.size, 1, none⟩ = some (.slice A5 (rg).s.who.length c5) := by simp [go_sem]
      have r2 : (w5x.alloc (.cells #[.int .i64 (rg).s.app, .slice A5 (rg).s.who.length c5, .int .i64 (rg).s.exp, .int .i64 (rg).opened, .slice B5 (rg).yes.length k5, .int .i64 (rg).state] 28)).cell? ⟨w5x.heap.size, 2, none⟩ = some (.int .i64 (rg).s.exp) := by simp [go_sem]
      have r3 : (w5x.alloc (.cells #[.int .i64 (rg).s.app, .slice A5 (rg).s.who.length c5, .int .i64 (rg).s.exp, .int .i64 (rg).opened, .slice B5 (rg).yes.length k5, .int .i64 (rg).state] 28)).cell? ⟨w5x.heap.size, 3, none⟩ = some (.int .i64 (rg).opened) := by simp [go_sem]
      have r4 : (w5x.alloc (.cells #[.int .i64 (rg).s.app, .slice A5 (rg).s.who.length c5, .int .i64 (rg).s.exp, .int .i64 (rg).opened, .slice B5 (rg).yes.length k5, .int .i64 (rg).state] 28)).cell? ⟨w5x.heap.size, 4, none⟩ = some (.slice B5 (rg).yes.length k5) := by simp [go_sem]
      have r5 : (w5x.alloc (.cells #[.int .i64 (rg).s.app, .slice A5 (rg).s.who.length c5, .int .i64 (rg).s.exp, .int .i64 (rg).opened, .slice B5 (rg).yes.length k5, .int .i64 (rg).state] 28)).cell? ⟨w5x.heap.size, 5, none⟩ = some (.int .i64 (rg).state) := by simp [go_sem]
      have rF : ∀ j, (w5x.alloc (.cells #[.int .i64 (rg).s.app, .slice A5 (rg).s.who.length c5, .int .i64 (rg).s.exp, .int .i64 (rg).opened, .slice B5 (rg).yes.length k5, .int .i64 (rg).state] 28)).frozen? ⟨w5x.heap.size, j, none⟩ = false := fun j => by simp [go_sem]
      have hz_w5 : (w5x.alloc (.cells #[.int .i64 (rg).s.app, .slice A5 (rg).s.who.length c5, .int .i64 (rg).s.exp, .int .i64 (rg).opened, .slice B5 (rg).yes.length k5, .int .i64 (rg).state] 28)).heap.size = w5x.heap.size + 1 := by simp
      have hbw_w5 := hbw_w5x.trans (hal.mono hbw_w5x.size)
      replace hr2 := (Seq.below hr2 hal).more hal.size
      replace hr2' := (Seq.below hr2' hal).more hal.size
      replace hr3 := (Seq.below hr3 hal).more hal.size
      replace hs3 := (Seq.below hs3 hal).more hal.size
      replace hr4 := (Seq.below hr4 hal).more hal.size
      replace hs4 := (Seq.below hs4 hal).more hal.size
      replace hr5 := (Seq.below hr5 hal).more hal.size
      replace hs5 := (Seq.below hs5 hal).more hal.size
      generalize w5x.alloc (.cells #[.int .i64 (rg).s.app, .slice A5 (rg).s.who.length c5, .int .i64 (rg).s.exp, .int .i64 (rg).opened, .slice B5 (rg).yes.length k5, .int .i64 (rg).state] 28) = w5 at *
      clear hal
      have C := C3.out w5 hr2 hr2'
      replace C := Lib.hid C
      refine C.out.mono ?_
      rintro e w6x ⟨A6, c6, B6, k6, rfl, hb, hr6, hs6⟩
      dsimp only
      replace d0 := (hb.cell (p := ⟨w.heap.size, 0, none⟩) (by dsimp only; omega)).trans d0
      replace d1 := (hb.cell (p := ⟨w.heap.size, 1, none⟩) (by dsimp only; omega)).trans d1
      replace d2 := (hb.cell (p := ⟨w.heap.size, 2, none⟩) (by dsimp only; omega)).trans d2
      replace d3 := (hb.cell (p := ⟨w.heap.size, 3, none⟩) (by dsimp only; omega)).trans d3
      replace d4 := (hb.cell (p := ⟨w.heap.size, 4, none⟩) (by dsimp only; omega)).trans d4
      replace d5 := (hb.cell (p := ⟨w.heap.size, 5, none⟩) (by dsimp only; omega)).trans d5
      replace dF := frz_below hb (by omega) dF
      replace p0 := (hb.cell (p := ⟨w3x.heap.size, 0, none⟩) (by dsimp only; omega)).trans p0
      replace p1 := (hb.cell (p := ⟨w3x.heap.size, 1, none⟩) (by dsimp only; omega)).trans p1
      replace p2 := (hb.cell (p := ⟨w3x.heap.size, 2, none⟩) (by dsimp only; omega)).trans p2
      replace p3 := (hb.cell (p := ⟨w3x.heap.size, 3, none⟩) (by dsimp only; omega)).trans p3
      replace p4 := (hb.cell (p := ⟨w3x.heap.size, 4, none⟩) (by dsimp only; omega)).trans p4
      replace p5 := (hb.cell (p := ⟨w3x.heap.size, 5, none⟩) (by dsimp only; omega)).trans p5
      replace pF := frz_below hb (by omega) pF
      replace q0 := (hb.cell (p := ⟨w4x.heap.size, 0, none⟩) (by dsimp only; omega)).trans q0
      replace q1 := (hb.cell (p := ⟨w4x.heap.size, 1, none⟩) (by dsimp only; omega)).trans q1
      replace q2 := (hb.cell (p := ⟨w4x.heap.size, 2, none⟩) (by dsimp only; omega)).trans q2
      replace q3 := (hb.cell (p := ⟨w4x.heap.size, 3, none⟩) (by dsimp only; omega)).trans q3
      replace q4 := (hb.cell (p := ⟨w4x.heap.size, 4, none⟩) (by dsimp only; omega)).trans q4
      replace q5 := (hb.cell (p := ⟨w4x.heap.size, 5, none⟩) (by dsimp only; omega)).trans q5
      replace qF := frz_below hb (by omega) qF
      replace r0 := (hb.cell (p := ⟨w5x.heap.size, 0, none⟩) (by dsimp only; omega)).trans r0
      replace r1 := (hb.cell (p := ⟨w5x.heap.size, 1, none⟩) (by dsimp only; omega)).trans r1
      replace r2 := (hb.cell (p := ⟨w5x.heap.size, 2, none⟩) (by dsimp only; omega)).trans r2
      replace r3 := (hb.cell (p := ⟨w5x.heap.size, 3, none⟩) (by dsimp only; omega)).trans r3
      replace r4 := (hb.cell (p := ⟨w5x.heap.size, 4, none⟩) (by dsimp only; omega)).trans r4
      replace r5 := (hb.cell (p := ⟨w5x.heap.size, 5, none⟩) (by dsimp only; omega)).trans r5
      replace rF := frz_below hb (by omega) rF
      have hbw_w6x := hbw_w5.trans (hb.mono hbw_w5.size)
      have hz_w6x := hb.size
      replace hr2 := (Seq.below hr2 hb).more hb.size
      replace hr2' := (Seq.below hr2' hb).more hb.size
      replace hr3 := (Seq.below hr3 hb).more hb.size
      replace hs3 := (Seq.below hs3 hb).more hb.size
      replace hr4 := (Seq.below hr4 hb).more hb.size
      replace hs4 := (Seq.below hs4 hb).more hb.size
      replace hr5 := (Seq.below hr5 hb).more hb.size
      replace hs5 := (Seq.below hs5 hb).more hb.size
      clear hb C
      have pa0 : ∀ ob, (w6x.alloc ob).cell? ⟨w3x.heap.size, 0, none⟩ = some (.int .i64 (ag).s.app) := fun ob => (((Below.refl w6x.heap.size w6x).alloc (Nat.le_refl _) ob).cell (p := ⟨w3x.heap.size, 0, none⟩) (by dsimp only; omega)).trans p0
      have pa1 : ∀ ob, (w6x.alloc ob).cell? ⟨w3x.heap.size, 1, none⟩ = some (.slice A3 (ag).s.who.length c3) := fun ob => (((Below.refl w6x.heap.size w6x).alloc (Nat.le_refl _) ob).cell (p := ⟨w3x.heap.size, 1, none⟩) (by dsimp only; omega)).trans p1
      have pa2 : ∀ ob, (w6x.alloc ob).cell? ⟨w3x.heap.size, 2, none⟩ = some (.int .i64 (ag).s.exp) := fun ob => (((Below.refl w6x.heap.size w6x).alloc (Nat.le_refl _) ob).cell (p := ⟨w3x.heap.size, 2, none⟩) (by dsimp only; omega)).trans p2
      have pa3 : ∀ ob, (w6x.alloc ob).cell? ⟨w3x.heap.size, 3, none⟩ = some (.int .i64 (ag).opened) := fun ob => (((Below.refl w6x.heap.size w6x).alloc (Nat.le_refl _) ob).cell (p := ⟨w3x.heap.size, 3, none⟩) (by dsimp only; omega)).trans p3
      have pa4 : ∀ ob, (w6x.alloc ob).cell? ⟨w3x.heap.size, 4, none⟩ = some (.slice B3 (ag).yes.length k3) := fun ob => (((Below.refl w6x.heap.size w6x).alloc (Nat.le_refl _) ob).cell (p := ⟨w3x.heap.size, 4, none⟩) (by dsimp only; omega)).trans p4
      have pa5 : ∀ ob, (w6x.alloc ob).cell? ⟨w3x.heap.size, 5, none⟩ = some (.int .i64 (ag).state) := fun ob => (((Below.refl w6x.heap.size w6x).alloc (Nat.le_refl _) ob).cell (p := ⟨w3x.heap.size, 5, none⟩) (by dsimp only; omega)).trans p5
      have qa0 : ∀ ob, (w6x.alloc ob).cell? ⟨w4x.heap.size, 0, none⟩ = some (.int .i64 (ag).s.app) := fun ob => (((Below.refl w6x.heap.size w6x).alloc (Nat.le_refl _) ob).cell (p := ⟨w4x.heap.size, 0, none⟩) (by dsimp only; omega)).trans q0
      have qa1 : ∀ ob, (w6x.alloc ob).cell? ⟨w4x.heap.size, 1, none⟩ = some (.slice A4 (ag).s.who.length c4) := fun ob => (((Below.refl w6x.heap.size w6x).alloc (Nat.le_refl _) ob).cell (p := ⟨w4x.heap.size, 1, none⟩) (by dsimp only; omega)).trans q1
      have qa2 : ∀ ob, (w6x.alloc ob).cell? ⟨w4x.heap.size, 2, none⟩ = some (.int .i64 (ag).s.exp) := fun ob => (((Below.refl w6x.heap.size w6x).alloc (Nat.le_refl _) ob).cell (p := ⟨w4x.heap.size, 2, none⟩) (by dsimp only; omega)).trans q2
      have qa3 : ∀ ob, (w6x.alloc ob).cell? ⟨w4x.heap.size, 3, none⟩ = some (.int .i64 (ag).opened) := fun ob => (((Below.refl w6x.heap.size w6x).alloc (Nat.le_refl _) ob).cell (p := ⟨w4x.heap.size, 3, none⟩) (by dsimp only; omega)).trans q3
      have qa4 : ∀ ob, (w6x.alloc ob).cell? ⟨w4x.heap.size, 4, none⟩ = some (.slice B4 (ag).yes.length k4) := fun ob => (((Below.refl w6x.heap.size w6x).alloc (Nat.le_refl _) ob).cell (p := ⟨w4x.heap.size, 4, none⟩) (by dsimp only; omega)).trans q4
      have qa5 : ∀ ob, (w6x.alloc ob).cell? ⟨w4x.heap.size, 5, none⟩ = some (.int .i64 (ag).state) := fun ob => (((Below.refl w6x.heap.size w6x).alloc (Nat.le_refl _) ob).cell (p := ⟨w4x.heap.size, 5, none⟩) (by dsimp only; omega)).trans q5
      repeat' ((fail_if_success at_builtin); (first | go_skip | go_guarded | go_step))
      clear pa0 pa1 pa2 pa3 pa4 pa5
      clear qa0 qa1 qa2 qa3 qa4 qa5
      have hal := (Below.refl w6x.heap.size w6x).alloc (Nat.le_refl _) (.cells #[.int .i64 (rg).s.app, .slice A6 (rg).s.who.length c6, .int .i64 (rg).s.exp, .int .i64 (rg).opened, .slice B6 (rg).yes.length k6, .int .i64 (rg).state] 28)
      replace d0 := (hal.cell (p := ⟨w.heap.size, 0, none⟩) (by dsimp only; omega)).trans d0
      replace d1 := (hal.cell (p := ⟨w.heap.size, 1, none⟩) (by dsimp only; omega)).trans d1
      replace d2 := (hal.cell (p := ⟨w.heap.size, 2, none⟩) (by dsimp only; omega)).trans d2
      replace d3 := (hal.cell (p := ⟨w.heap.size, 3, none⟩) (by dsimp only; omega)).trans d3
      replace d4 := (hal.cell (p := ⟨w.heap.size, 4, none⟩) (by dsimp only; omega)).trans d4
      replace d5 := (hal.cell (p := ⟨w.heap.size, 5, none⟩) (by dsimp only; omega)).trans d5
      replace dF := frz_below hal (by omega) dF
      replace p0 := (hal.cell (p := ⟨w3x.heap.size, 0, none⟩) (by dsimp only; omega)).trans p0
      replace p1 := (hal.cell (p := ⟨w3x.heap.size, 1, none⟩) (by dsimp only; omega)).trans p1
      replace p2 := (hal.cell (p := ⟨w3x.heap.size, 2, none⟩) (by dsimp only; omega)).trans p2
      replace p3 := (hal.cell (p := ⟨w3x.heap.size, 3, none⟩) (by dsimp only; omega)).trans p3
      replace p4 := (hal.cell (p := ⟨w3x.heap.size, 4, none⟩) (by dsimp only; omega)).trans p4
      replace p5 := (hal.cell (p := ⟨w3x.heap.size, 5, none⟩) (by dsimp only; omega)).trans p5
      replace pF := frz_below hal (by omega) pF
      replace q0 := (hal.cell (p := ⟨w4x.heap.size, 0, none⟩) (by dsimp only; omega)).trans q0
      replace q1 := (hal.cell (p := ⟨w4x.heap.size, 1, none⟩) (by dsimp only; omega)).trans q1
      replace q2 := (hal.cell (p := ⟨w4x.heap.size, 2, none⟩) (by dsimp only; omega)).trans q2
      replace q3 := (hal.cell (p := ⟨w4x.heap.size, 3, none⟩) (by dsimp only; omega)).trans q3
      replace q4 := (hal.cell (p := ⟨w4x.heap.size, 4, none⟩) (by dsimp only; omega)).trans q4
      replace q5 := (hal.cell (p := ⟨w4x.heap.size, 5, none⟩) (by dsimp only; omega)).trans q5
      replace qF := frz_below hal (by omega) qF
      replace r0 := (hal.cell (p := ⟨w5x.heap.size, 0, none⟩) (by dsimp only; omega)).trans r0
      replace r1 := (hal.cell (p := ⟨w5x.heap.size, 1, none⟩) (by dsimp only; omega)).trans r1
      replace r2 := (hal.cell (p := ⟨w5x.heap.size, 2, none⟩) (by dsimp only; omega)).trans r2
      replace r3 := (hal.cell (p := ⟨w5x.heap.size, 3, none⟩) (by dsimp only; omega)).trans r3
      replace r4 := (hal.cell (p := ⟨w5x.heap.size, 4, none⟩) (by dsimp only; omega)).trans r4
      replace r5 := (hal.cell (p := ⟨w5x.heap.size, 5, none⟩) (by dsimp only; omega)).trans r5
      replace rF := frz_below hal (by omega) rF
      have s0 : (w6x.alloc (.cells #[.int .i64 (rg).s.app, .slice A6 (rg).s.who.length c6, .int .i64 (rg).s.exp, .int .i64 (rg).opened, .slice B6 (rg).yes.length k6, .int .i64 (rg).state] 28)).cell? ⟨w6x.heap.size, 0, none⟩ = some (.int .i64 (rg).s.app) := by simp [go_sem]
      have s1 : (w6x.alloc (.cells #[.int .i64 (rg).s.app, .slice A6 (rg).s.who.length c6, .int .i64 (rg).s.exp, .int .i64 (rg).opened, .slice B6 (rg).yes.length k6, .int .i64 (rg).state] 28)).cell? ⟨w6x.heap.size, 1, none⟩ = some (.slice A6 (rg).s.who.length c6) := by simp [go_sem]
      have s2 : (w6x.alloc (.cells #[.int .i64 (rg).s.app, .slice A6 (rg).s.who.length c6, .int .i64 (rg).s.exp, .int .i64 (rg).opened, .slice B6 (rg).yes.length k6, .int .i64 (rg).state] 28)).cell? ⟨w6x.heap.size, 2, none⟩ = some (.int .i64 (rg).s.exp) := by simp [go_sem]
      have s3 : (w6x.alloc (.cells #[.int .i64 (rg).s.app, .slice A6 (rg).s.who.length c6, .int .i64 (rg).s.exp, .int .i64 (rg).opened, .slice B6 (rg).yes.length k6, .int .i64 (rg).state] 28)).cell? ⟨w6x.heap.size, 3, none⟩ = some (.int .i64 (rg).opened) := by simp [go_sem]
      have s4 : (w6x.alloc (.cells #[.int .i64 (rg).s.app, .slice A6 (rg).s.who.length c6, .int .i64 (rg).s.exp, .int .i64 (rg).opened, .slice B6 (rg).yes.length k6, .int .i64 (rg).state] 28)).cell? ⟨w6x.heap.size, 4, none⟩ = some (.slice B6 (rg).yes.length k6) := by simp [go_sem]
      have s5 : (w6x.alloc (.cells #[.int .i64 (rg).s.app, .slice A6 (rg).s.who.length c6, .int .i64 (rg).s.exp, .int .i64 (rg).opened, .slice B6 (rg).yes.length k6, .int .i64 (rg).state] 28)).cell? ⟨w6x.heap.size, 5, none⟩ = some (.int .i64 (rg).state) := by simp [go_sem]
      have sF : ∀ j, (w6x.alloc (.cells #[.int .i64 (rg).s.app, .slice A6 (rg).s.who.length c6, .int .i64 (rg).s.exp, .int .i64 (rg).opened, .slice B6 (rg).yes.length k6, .int .i64 (rg).state] 28)).frozen? ⟨w6x.heap.size, j, none⟩ = false := fun j => by simp [go_sem]
      have hz_w6 : (w6x.alloc (.cells #[.int .i64 (rg).s.app, .slice A6 (rg).s.who.length c6, .int .i64 (rg).s.exp, .int .i64 (rg).opened, .slice B6 (rg).yes.length k6, .int .i64 (rg).state] 28)).heap.size = w6x.heap.size + 1 := by simp
      have hbw_w6 := hbw_w6x.trans (hal.mono hbw_w6x.size)
      replace hr2 := (Seq.below hr2 hal).more hal.size
      replace hr2' := (Seq.below hr2' hal).more hal.size
      replace hr3 := (Seq.below hr3 hal).more hal.size
      replace hs3 := (Seq.below hs3 hal).more hal.size
      replace hr4 := (Seq.below hr4 hal).more hal.size
      replace hs4 := (Seq.below hs4 hal).more hal.size
      replace hr5 := (Seq.below hr5 hal).more hal.size
      replace hs5 := (Seq.below hs5 hal).more hal.size
      replace hr6 := (Seq.below hr6 hal).more hal.size
      replace hs6 := (Seq.below hs6 hal).more hal.size
      generalize w6x.alloc (.cells #[.int .i64 (rg).s.app, .slice A6 (rg).s.who.length c6, .int .i64 (rg).s.exp, .int .i64 (rg).opened, .slice B6 (rg).yes.length k6, .int .i64 (rg).state] 28) = w6 at *
      clear hal
      refine (same_any ag A3 c3 B3 k3 A4 c4 B4 k4 w6 hr3 hs3 hr4 hs4 (by have := ag1.out; omega) (by have := ag1.out; omega)).mono ?_
      rintro e w7 ⟨rfl, hb⟩
      dsimp only
      replace d0 := (hb.cell (p := ⟨w.heap.size, 0, none⟩) (by dsimp only; omega)).trans d0
      replace d1 := (hb.cell (p := ⟨w.heap.size, 1, none⟩) (by dsimp only; omega)).trans d1
      replace d2 := (hb.cell (p := ⟨w.heap.size, 2, none⟩) (by dsimp only; omega)).trans d2
      replace d3 := (hb.cell (p := ⟨w.heap.size, 3, none⟩) (by dsimp only; omega)).trans d3
      replace d4 := (hb.cell (p := ⟨w.heap.size, 4, none⟩) (by dsimp only; omega)).trans d4
      replace d5 := (hb.cell (p := ⟨w.heap.size, 5, none⟩) (by dsimp only; omega)).trans d5
      replace dF := frz_below hb (by omega) dF
      replace p0 := (hb.cell (p := ⟨w3x.heap.size, 0, none⟩) (by dsimp only; omega)).trans p0
      replace p1 := (hb.cell (p := ⟨w3x.heap.size, 1, none⟩) (by dsimp only; omega)).trans p1
      replace p2 := (hb.cell (p := ⟨w3x.heap.size, 2, none⟩) (by dsimp only; omega)).trans p2
      replace p3 := (hb.cell (p := ⟨w3x.heap.size, 3, none⟩) (by dsimp only; omega)).trans p3
      replace p4 := (hb.cell (p := ⟨w3x.heap.size, 4, none⟩) (by dsimp only; omega)).trans p4
      replace p5 := (hb.cell (p := ⟨w3x.heap.size, 5, none⟩) (by dsimp only; omega)).trans p5
      replace pF := frz_below hb (by omega) pF
      replace q0 := (hb.cell (p := ⟨w4x.heap.size, 0, none⟩) (by dsimp only; omega)).trans q0
      replace q1 := (hb.cell (p := ⟨w4x.heap.size, 1, none⟩) (by dsimp only; omega)).trans q1
      replace q2 := (hb.cell (p := ⟨w4x.heap.size, 2, none⟩) (by dsimp only; omega)).trans q2
      replace q3 := (hb.cell (p := ⟨w4x.heap.size, 3, none⟩) (by dsimp only; omega)).trans q3
      replace q4 := (hb.cell (p := ⟨w4x.heap.size, 4, none⟩) (by dsimp only; omega)).trans q4
      replace q5 := (hb.cell (p := ⟨w4x.heap.size, 5, none⟩) (by dsimp only; omega)).trans q5
      replace qF := frz_below hb (by omega) qF
      replace r0 := (hb.cell (p := ⟨w5x.heap.size, 0, none⟩) (by dsimp only; omega)).trans r0
      replace r1 := (hb.cell (p := ⟨w5x.heap.size, 1, none⟩) (by dsimp only; omega)).trans r1
      replace r2 := (hb.cell (p := ⟨w5x.heap.size, 2, none⟩) (by dsimp only; omega)).trans r2
      replace r3 := (hb.cell (p := ⟨w5x.heap.size, 3, none⟩) (by dsimp only; omega)).trans r3
      replace r4 := (hb.cell (p := ⟨w5x.heap.size, 4, none⟩) (by dsimp only; omega)).trans r4
      replace r5 := (hb.cell (p := ⟨w5x.heap.size, 5, none⟩) (by dsimp only; omega)).trans r5
      replace rF := frz_below hb (by omega) rF
      replace s0 := (hb.cell (p := ⟨w6x.heap.size, 0, none⟩) (by dsimp only; omega)).trans s0
      replace s1 := (hb.cell (p := ⟨w6x.heap.size, 1, none⟩) (by dsimp only; omega)).trans s1
      replace s2 := (hb.cell (p := ⟨w6x.heap.size, 2, none⟩) (by dsimp only; omega)).trans s2
      replace s3 := (hb.cell (p := ⟨w6x.heap.size, 3, none⟩) (by dsimp only; omega)).trans s3
      replace s4 := (hb.cell (p := ⟨w6x.heap.size, 4, none⟩) (by dsimp only; omega)).trans s4
      replace s5 := (hb.cell (p := ⟨w6x.heap.size, 5, none⟩) (by dsimp only; omega)).trans s5
      replace sF := frz_below hb (by omega) sF
      have hbw_w7 := hbw_w6.trans (hb.mono hbw_w6.size)
      have hz_w7 := hb.size
      replace hr2 := (Seq.below hr2 hb).more hb.size
      replace hr2' := (Seq.below hr2' hb).more hb.size
      replace hr3 := (Seq.below hr3 hb).more hb.size
      replace hs3 := (Seq.below hs3 hb).more hb.size
      replace hr4 := (Seq.below hr4 hb).more hb.size
      replace hs4 := (Seq.below hs4 hb).more hb.size
      replace hr5 := (Seq.below hr5 hb).more hb.size
      replace hs5 := (Seq.below hs5 hb).more hb.size
      replace hr6 := (Seq.below hr6 hb).more hb.size
      replace hs6 := (Seq.below hs6 hb).more hb.size
      clear hb
      repeat' ((fail_if_success at_builtin); (first | go_skip | go_guarded | go_step))
      refine (same_any rg A5 c5 B5 k5 A6 c6 B6 k6 w7 hr5 hs5 hr6 hs6 (by have := rg1.out; omega) (by have := rg1.out; omega)).mono ?_
      rintro e w8 ⟨rfl, hb⟩
      dsimp only
      have hbw_w8 := hbw_w7.trans (hb.mono hbw_w7.size)
      repeat' ((fail_if_success at_builtin); (first | go_skip | go_guarded | go_step))
      refine (lives_any _).mono ?_
      rintro e wl ⟨rfl, hbl⟩
      dsimp only
      repeat' ((fail_if_success at_builtin); (first | go_skip | go_guarded | go_step))
      go_ret
      exact ⟨rfl, hbw_w8.trans (hbl.mono hbw_w8.size)⟩
end Go.Proofs.YtionchkblgpklaaDoor
