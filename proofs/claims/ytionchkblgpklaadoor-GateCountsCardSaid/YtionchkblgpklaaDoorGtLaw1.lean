/- The law about opening. -/
import Derived.Test.YtionchkblgpklaaDoorGtL
import Derived.Deep.RegionHeld3
namespace Go.Proofs.YtionchkblgpklaaDoor
open Go.RowKit
theorem openG_len (s : Gs) (now : Int) : (openG s now).s.who.length ≤ s.who.length ∧ (openG s now).yes.length = 0 := by
  unfold openG
  split
  · exact ⟨Nat.zero_le _, rfl⟩
  · exact ⟨Nat.le_refl _, rfl⟩
set_option maxRecDepth 100000 in
set_option maxHeartbeats 4000000 in
theorem opens_law (s : Gs) (A : Option Addr) (c : Nat) (now : Int) (w : World) (hs : Seq w w.heap.size 1 A s.who.length (cellsS s.who)) (hl : s.who.length ≤ 9223372036854775807) (hm : ∀ x ∈ s.who, x.size ≤ 9223372036854775807) : Calls Tryd.prog 3 #[.agg (sarr s A c), .int .i64 now] w fun e w' => e = .returned (.bool true) ∧ Below w.heap.size w w' := by
  have hb1 := (Below.refl w.heap.size w).alloc (Nat.le_refl _) (.cells (sarr s A c) 24)
  have hz : (w.alloc (.cells (sarr s A c) 24)).heap.size = w.heap.size + 1 := by simp
  have d0 : ((w.alloc (.cells (sarr s A c) 24))).cell? ⟨w.heap.size, 0, none⟩ = some (.int .i64 s.app) := by simp [go_sem]
  have d1 : ((w.alloc (.cells (sarr s A c) 24))).cell? ⟨w.heap.size, 1, none⟩ = some (.slice A s.who.length c) := by simp [go_sem]
  have d2 : ((w.alloc (.cells (sarr s A c) 24))).cell? ⟨w.heap.size, 2, none⟩ = some (.int .i64 s.exp) := by simp [go_sem]
  have dF : ∀ j, ((w.alloc (.cells (sarr s A c) 24))).frozen? ⟨w.heap.size, j, none⟩ = false := fun j => by simp [go_sem]
  go_enter Tryd.func3, Tryd.ntmps3
  repeat' ((fail_if_success at_builtin); (first | go_skip | go_guarded | go_step))
  generalize (w.alloc (.cells (sarr s A c) 24)) = w2 at *
  have hbw_w2 := hb1
  have hr2 := (hs.below hb1).more hb1.size
  clear hb1
  refine (few_any s.who A c _ w2 hr2 hl hm).mono ?_
  rintro e w2' ⟨rfl, hw2'⟩
  subst hw2'
  dsimp only
  cases hf : fewL s.who with
  | false =>
    repeat' ((fail_if_success at_builtin); (first | go_skip | go_guarded | go_step))
    refine (lives_any _).mono ?_
    rintro e wl ⟨rfl, hbl⟩
    dsimp only
    repeat' ((fail_if_success at_builtin); (first | go_skip | go_guarded | go_step))
    go_ret
    exact ⟨rfl, hbw_w2.trans (hbl.mono hbw_w2.size)⟩
  | true =>
    obtain ⟨n1, n2⟩ := fewL_out hf
    clear hf
    have hm2 : ∀ x ∈ s.who, x.size ≤ 1000 := fun x hx => by have := n2 x hx; omega
    have C0 := fun w' (hr : Seq w' w'.heap.size 1 A s.who.length (cellsS s.who)) => open_any s A c now w' hr (by omega) hm2
    have C1 := fun w' (hr : Seq w' w'.heap.size 1 A s.who.length (cellsS s.who)) => refOpen_any s A c now w' hr (by omega) hm2
    have C2 := fun w' (hr : Seq w' w'.heap.size 1 A s.who.length (cellsS s.who)) => valid_any s A c w' hr (by omega) (fun x hx => by have := hm2 x hx; omega)
    have C3 := fun w' (hr : Seq w' w'.heap.size 1 A s.who.length (cellsS s.who)) => refValid_any s A c w' hr (by omega) (fun x hx => by have := hm2 x hx; omega)
    have CV := fun w' => lives_any w'
    have og1 := openG_len s now
    have x1 : (openG s now).s.who.length ≤ 100000 := by omega
    have x2 : (openG s now).yes.length ≤ 100000 := by omega
    generalize openG s now = og at *
    generalize openE s now = oe at *
    generalize validG s = ve at *
    clear og1 n1 n2 hm2
    replace x1 := Lib.hid x1
    replace x2 := Lib.hid x2
    replace C0 := Lib.hid C0
    replace C1 := Lib.hid C1
    replace C2 := Lib.hid C2
    replace C3 := Lib.hid C3
    replace CV := Lib.hid CV
    repeat' ((fail_if_success at_builtin); (first | go_skip | go_guarded | go_step))
    have C := C0.out _ hr2
    replace C := Lib.hid C
    refine C.out.mono ?_
    rintro e w3x ⟨A3, c3, B3, k3, rfl, hb, hr3, hs3⟩
    dsimp only
    replace d0 := (hb.cell (p := ⟨w.heap.size, 0, none⟩) (by dsimp only; omega)).trans d0
    replace d1 := (hb.cell (p := ⟨w.heap.size, 1, none⟩) (by dsimp only; omega)).trans d1
    replace d2 := (hb.cell (p := ⟨w.heap.size, 2, none⟩) (by dsimp only; omega)).trans d2
    replace dF := frz_below hb (by omega) dF
    have hbw_w3x := hbw_w2.trans (hb.mono hbw_w2.size)
    have hz_w3x := hb.size
    replace hr2 := (Seq.below hr2 hb).more hb.size
    clear hb C
    have da0 : ∀ ob, (w3x.alloc ob).cell? ⟨w.heap.size, 0, none⟩ = some (.int .i64 s.app) := fun ob => (((Below.refl w3x.heap.size w3x).alloc (Nat.le_refl _) ob).cell (p := ⟨w.heap.size, 0, none⟩) (by dsimp only; omega)).trans d0
    have da1 : ∀ ob, (w3x.alloc ob).cell? ⟨w.heap.size, 1, none⟩ = some (.slice A s.who.length c) := fun ob => (((Below.refl w3x.heap.size w3x).alloc (Nat.le_refl _) ob).cell (p := ⟨w.heap.size, 1, none⟩) (by dsimp only; omega)).trans d1
    have da2 : ∀ ob, (w3x.alloc ob).cell? ⟨w.heap.size, 2, none⟩ = some (.int .i64 s.exp) := fun ob => (((Below.refl w3x.heap.size w3x).alloc (Nat.le_refl _) ob).cell (p := ⟨w.heap.size, 2, none⟩) (by dsimp only; omega)).trans d2
    repeat' ((fail_if_success at_builtin); (first | go_skip | go_guarded | go_step))
    clear da0 da1 da2
    have hal := (Below.refl w3x.heap.size w3x).alloc (Nat.le_refl _) (.cells #[.int .i64 (og).s.app, .slice A3 (og).s.who.length c3, .int .i64 (og).s.exp, .int .i64 (og).opened, .slice B3 (og).yes.length k3, .int .i64 (og).state] 28)
    replace d0 := (hal.cell (p := ⟨w.heap.size, 0, none⟩) (by dsimp only; omega)).trans d0
    replace d1 := (hal.cell (p := ⟨w.heap.size, 1, none⟩) (by dsimp only; omega)).trans d1
    replace d2 := (hal.cell (p := ⟨w.heap.size, 2, none⟩) (by dsimp only; omega)).trans d2
    replace dF := frz_below hal (by omega) dF
    have p0 : (w3x.alloc (.cells #[.int .i64 (og).s.app, .slice A3 (og).s.who.length c3, .int .i64 (og).s.exp, .int .i64 (og).opened, .slice B3 (og).yes.length k3, .int .i64 (og).state] 28)).cell? ⟨w3x.heap.size, 0, none⟩ = some (.int .i64 (og).s.app) := by simp [go_sem]
    have p1 : (w3x.alloc (.cells #[.int .i64 (og).s.app, .slice A3 (og).s.who.length c3, .int .i64 (og).s.exp, .int .i64 (og).opened, .slice B3 (og).yes.length k3, .int .i64 (og).state] 28)).cell? ⟨w3x.heap.size, 1, none⟩ = some (.slice A3 (og).s.who.length c3) := by simp [go_sem]
    have p2 : (w3x.alloc (.cells #[.int .i64 (og).s.app, .slice A3 (og).s.who.length c3, .int .i64 (og).s.exp, .int .i64 (og).opened, .slice B3 (og).yes.length k3, .int .i64 (og).state] 28)).cell? ⟨w3x.heap.size, 2, none⟩ = some (.int .i64 (og).s.exp) := by simp [go_sem]
    have p3 : (w3x.alloc (.cells #[.int .i64 (og).s.app, .slice A3 (og).s.who.length c3, .int .i64 (og).s.exp, .int .i64 (og).opened, .slice B3 (og).yes.length k3, .int .i64 (og).state] 28)).cell? ⟨w3x.heap.size, 3, none⟩ = some (.int .i64 (og).opened) := by simp [go_sem]
    have p4 : (w3x.alloc (.cells #[.int .i64 (og).s.app, .slice A3 (og).s.who.length c3, .int .i64 (og).s.exp, .int .i64 (og).opened, .slice B3 (og).yes.length k3, .int .i64 (og).state] 28)).cell? ⟨w3x.heap.size, 4, none⟩ = some (.slice B3 (og).yes.length k3) := by simp [go_sem]
    have p5 : (w3x.alloc (.cells #[.int .i64 (og).s.app, .slice A3 (og).s.who.length c3, .int .i64 (og).s.exp, .int .i64 (og).opened, .slice B3 (og).yes.length k3, .int .i64 (og).state] 28)).cell? ⟨w3x.heap.size, 5, none⟩ = some (.int .i64 (og).state) := by simp [go_sem]
    have pF : ∀ j, (w3x.alloc (.cells #[.int .i64 (og).s.app, .slice A3 (og).s.who.length c3, .int .i64 (og).s.exp, .int .i64 (og).opened, .slice B3 (og).yes.length k3, .int .i64 (og).state] 28)).frozen? ⟨w3x.heap.size, j, none⟩ = false := fun j => by simp [go_sem]
    have hz_w3 : (w3x.alloc (.cells #[.int .i64 (og).s.app, .slice A3 (og).s.who.length c3, .int .i64 (og).s.exp, .int .i64 (og).opened, .slice B3 (og).yes.length k3, .int .i64 (og).state] 28)).heap.size = w3x.heap.size + 1 := by simp
    have hbw_w3 := hbw_w3x.trans (hal.mono hbw_w3x.size)
    replace hr2 := (Seq.below hr2 hal).more hal.size
    replace hr3 := (Seq.below hr3 hal).more hal.size
    replace hs3 := (Seq.below hs3 hal).more hal.size
    generalize w3x.alloc (.cells #[.int .i64 (og).s.app, .slice A3 (og).s.who.length c3, .int .i64 (og).s.exp, .int .i64 (og).opened, .slice B3 (og).yes.length k3, .int .i64 (og).state] 28) = w3 at *
    clear hal
    have C := C1.out _ hr2
    replace C := Lib.hid C
    refine C.out.mono ?_
    rintro e w4x ⟨A4, c4, B4, k4, rfl, hb, hr4, hs4⟩
    dsimp only
    replace d0 := (hb.cell (p := ⟨w.heap.size, 0, none⟩) (by dsimp only; omega)).trans d0
    replace d1 := (hb.cell (p := ⟨w.heap.size, 1, none⟩) (by dsimp only; omega)).trans d1
    replace d2 := (hb.cell (p := ⟨w.heap.size, 2, none⟩) (by dsimp only; omega)).trans d2
    replace dF := frz_below hb (by omega) dF
    replace p0 := (hb.cell (p := ⟨w3x.heap.size, 0, none⟩) (by dsimp only; omega)).trans p0
    replace p1 := (hb.cell (p := ⟨w3x.heap.size, 1, none⟩) (by dsimp only; omega)).trans p1
    replace p2 := (hb.cell (p := ⟨w3x.heap.size, 2, none⟩) (by dsimp only; omega)).trans p2
    replace p3 := (hb.cell (p := ⟨w3x.heap.size, 3, none⟩) (by dsimp only; omega)).trans p3
    replace p4 := (hb.cell (p := ⟨w3x.heap.size, 4, none⟩) (by dsimp only; omega)).trans p4
    replace p5 := (hb.cell (p := ⟨w3x.heap.size, 5, none⟩) (by dsimp only; omega)).trans p5
    replace pF := frz_below hb (by omega) pF
    have hbw_w4x := hbw_w3.trans (hb.mono hbw_w3.size)
    have hz_w4x := hb.size
    replace hr2 := (Seq.below hr2 hb).more hb.size
    replace hr3 := (Seq.below hr3 hb).more hb.size
    replace hs3 := (Seq.below hs3 hb).more hb.size
    clear hb C
    have da0 : ∀ ob, (w4x.alloc ob).cell? ⟨w.heap.size, 0, none⟩ = some (.int .i64 s.app) := fun ob => (((Below.refl w4x.heap.size w4x).alloc (Nat.le_refl _) ob).cell (p := ⟨w.heap.size, 0, none⟩) (by dsimp only; omega)).trans d0
    have da1 : ∀ ob, (w4x.alloc ob).cell? ⟨w.heap.size, 1, none⟩ = some (.slice A s.who.length c) := fun ob => (((Below.refl w4x.heap.size w4x).alloc (Nat.le_refl _) ob).cell (p := ⟨w.heap.size, 1, none⟩) (by dsimp only; omega)).trans d1
    have da2 : ∀ ob, (w4x.alloc ob).cell? ⟨w.heap.size, 2, none⟩ = some (.int .i64 s.exp) := fun ob => (((Below.refl w4x.heap.size w4x).alloc (Nat.le_refl _) ob).cell (p := ⟨w.heap.size, 2, none⟩) (by dsimp only; omega)).trans d2
    have pa0 : ∀ ob, (w4x.alloc ob).cell? ⟨w3x.heap.size, 0, none⟩ = some (.int .i64 (og).s.app) := fun ob => (((Below.refl w4x.heap.size w4x).alloc (Nat.le_refl _) ob).cell (p := ⟨w3x.heap.size, 0, none⟩) (by dsimp only; omega)).trans p0
    have pa1 : ∀ ob, (w4x.alloc ob).cell? ⟨w3x.heap.size, 1, none⟩ = some (.slice A3 (og).s.who.length c3) := fun ob => (((Below.refl w4x.heap.size w4x).alloc (Nat.le_refl _) ob).cell (p := ⟨w3x.heap.size, 1, none⟩) (by dsimp only; omega)).trans p1
    have pa2 : ∀ ob, (w4x.alloc ob).cell? ⟨w3x.heap.size, 2, none⟩ = some (.int .i64 (og).s.exp) := fun ob => (((Below.refl w4x.heap.size w4x).alloc (Nat.le_refl _) ob).cell (p := ⟨w3x.heap.size, 2, none⟩) (by dsimp only; omega)).trans p2
    have pa3 : ∀ ob, (w4x.alloc ob).cell? ⟨w3x.heap.size, 3, none⟩ = some (.int .i64 (og).opened) := fun ob => (((Below.refl w4x.heap.size w4x).alloc (Nat.le_refl _) ob).cell (p := ⟨w3x.heap.size, 3, none⟩) (by dsimp only; omega)).trans p3
    have pa4 : ∀ ob, (w4x.alloc ob).cell? ⟨w3x.heap.size, 4, none⟩ = some (.slice B3 (og).yes.length k3) := fun ob => (((Below.refl w4x.heap.size w4x).alloc (Nat.le_refl _) ob).cell (p := ⟨w3x.heap.size, 4, none⟩) (by dsimp only; omega)).trans p4
    have pa5 : ∀ ob, (w4x.alloc ob).cell? ⟨w3x.heap.size, 5, none⟩ = some (.int .i64 (og).state) := fun ob => (((Below.refl w4x.heap.size w4x).alloc (Nat.le_refl _) ob).cell (p := ⟨w3x.heap.size, 5, none⟩) (by dsimp only; omega)).trans p5
    repeat' ((fail_if_success at_builtin); (first | go_skip | go_guarded | go_step))
    clear da0 da1 da2
    clear pa0 pa1 pa2 pa3 pa4 pa5
    have hal := (Below.refl w4x.heap.size w4x).alloc (Nat.le_refl _) (.cells #[.int .i64 (og).s.app, .slice A4 (og).s.who.length c4, .int .i64 (og).s.exp, .int .i64 (og).opened, .slice B4 (og).yes.length k4, .int .i64 (og).state] 28)
    replace d0 := (hal.cell (p := ⟨w.heap.size, 0, none⟩) (by dsimp only; omega)).trans d0
    replace d1 := (hal.cell (p := ⟨w.heap.size, 1, none⟩) (by dsimp only; omega)).trans d1
    replace d2 := (hal.cell (p := ⟨w.heap.size, 2, none⟩) (by dsimp only; omega)).trans d2
    replace dF := frz_below hal (by omega) dF
    replace p0 := (hal.cell (p := ⟨w3x.heap.size, 0, none⟩) (by dsimp only; omega)).trans p0
    replace p1 := (hal.cell (p := ⟨w3x.heap.size, 1, none⟩) (by dsimp only; omega)).trans p1
    replace p2 := (hal.cell (p := ⟨w3x.heap.size, 2, none⟩) (by dsimp only; omega)).trans p2
    replace p3 := (hal.cell (p := ⟨w3x.heap.size, 3, none⟩) (by dsimp only; omega)).trans p3
    replace p4 := (hal.cell (p := ⟨w3x.heap.size, 4, none⟩) (by dsimp only; omega)).trans p4
    replace p5 := (hal.cell (p := ⟨w3x.heap.size, 5, none⟩) (by dsimp only; omega)).trans p5
    replace pF := frz_below hal (by omega) pF
    have q0 : (w4x.alloc (.cells #[.int .i64 (og).s.app, .slice A4 (og).s.who.length c4, .int .i64 (og).s.exp, .int .i64 (og).opened, .slice B4 (og).yes.length k4, .int .i64 (og).state] 28)).cell? ⟨w4x.heap.size, 0, none⟩ = some (.int .i64 (og).s.app) := by simp [go_sem]
    have q1 : (w4x.alloc (.cells #[.int .i64 (og).s.app, .slice A4 (og).s.who.length c4, .int .i64 (og).s.exp, .int .i64 (og).opened, .slice B4 (og).yes.length k4, .int .i64 (og).state] 28)).cell? ⟨w4x.heap.size, 1, none⟩ = some (.slice A4 (og).s.who.length c4) := by simp [go_sem]
    have q2 : (w4x.alloc (.cells #[.int .i64 (og).s.app, .slice A4 (og).s.who.length c4, .int .i64 (og).s.exp, .int .i64 (og).opened, .slice B4 (og).yes.length k4, .int .i64 (og).state] 28)).cell? ⟨w4x.heap.size, 2, none⟩ = some (.int .i64 (og).s.exp) := by simp [go_sem]
    have q3 : (w4x.alloc (.cells #[.int .i64 (og).s.app, .slice A4 (og).s.who.length c4, .int .i64 (og).s.exp, .int .i64 (og).opened, .slice B4 (og).yes.length k4, .int .i64 (og).state] 28)).cell? ⟨w4x.heap.size, 3, none⟩ = some (.int .i64 (og).opened) := by simp [go_sem]
    have q4 : (w4x.alloc (.cells #[.int .i64 (og).s.app, .slice A4 (og).s.who.length c4, .int .i64 (og).s.exp, .int .i64 (og).opened, .slice B4 (og).yes.length k4, .int .i64 (og).state] 28)).cell? ⟨w4x.heap.size, 4, none⟩ = some (.slice B4 (og).yes.length k4) := by simp [go_sem]
    have q5 : (w4x.alloc (.cells #[.int .i64 (og).s.app, .slice A4 (og).s.who.length c4, .int .i64 (og).s.exp, .int .i64 (og).opened, .slice B4 (og).yes.length k4, .int .i64 (og).state] 28)).cell? ⟨w4x.heap.size, 5, none⟩ = some (.int .i64 (og).state) := by simp [go_sem]
    have qF : ∀ j, (w4x.alloc (.cells #[.int .i64 (og).s.app, .slice A4 (og).s.who.length c4, .int .i64 (og).s.exp, .int .i64 (og).opened, .slice B4 (og).yes.length k4, .int .i64 (og).state] 28)).frozen? ⟨w4x.heap.size, j, none⟩ = false := fun j => by simp [go_sem]
    have hz_w4 : (w4x.alloc (.cells #[.int .i64 (og).s.app, .slice A4 (og).s.who.length c4, .int .i64 (og).s.exp, .int .i64 (og).opened, .slice B4 (og).yes.length k4, .int .i64 (og).state] 28)).heap.size = w4x.heap.size + 1 := by simp
    have hbw_w4 := hbw_w4x.trans (hal.mono hbw_w4x.size)
    replace hr2 := (Seq.below hr2 hal).more hal.size
    replace hr3 := (Seq.below hr3 hal).more hal.size
    replace hs3 := (Seq.below hs3 hal).more hal.size
    replace hr4 := (Seq.below hr4 hal).more hal.size
    replace hs4 := (Seq.below hs4 hal).more hal.size
    generalize w4x.alloc (.cells #[.int .i64 (og).s.app, .slice A4 (og).s.who.length c4, .int .i64 (og).s.exp, .int .i64 (og).opened, .slice B4 (og).yes.length k4, .int .i64 (og).state] 28) = w4 at *
    clear hal
    clear dF pF qF
    have keepT : ∀ w' w'', (Below w4.heap.size w4 w' ∧ w'.cell? ⟨w.heap.size, 0, none⟩ = some (.int .i64 s.app) ∧ w'.cell? ⟨w.heap.size, 1, none⟩ = some (.slice A s.who.length c) ∧ w'.cell? ⟨w.heap.size, 2, none⟩ = some (.int .i64 s.exp) ∧ w'.cell? ⟨w3x.heap.size, 0, none⟩ = some (.int .i64 (og).s.app) ∧ w'.cell? ⟨w3x.heap.size, 1, none⟩ = some (.slice A3 (og).s.who.length c3) ∧ w'.cell? ⟨w3x.heap.size, 2, none⟩ = some (.int .i64 (og).s.exp) ∧ w'.cell? ⟨w3x.heap.size, 3, none⟩ = some (.int .i64 (og).opened) ∧ w'.cell? ⟨w3x.heap.size, 4, none⟩ = some (.slice B3 (og).yes.length k3) ∧ w'.cell? ⟨w3x.heap.size, 5, none⟩ = some (.int .i64 (og).state) ∧ w'.cell? ⟨w4x.heap.size, 0, none⟩ = some (.int .i64 (og).s.app) ∧ w'.cell? ⟨w4x.heap.size, 1, none⟩ = some (.slice A4 (og).s.who.length c4) ∧ w'.cell? ⟨w4x.heap.size, 2, none⟩ = some (.int .i64 (og).s.exp) ∧ w'.cell? ⟨w4x.heap.size, 3, none⟩ = some (.int .i64 (og).opened) ∧ w'.cell? ⟨w4x.heap.size, 4, none⟩ = some (.slice B4 (og).yes.length k4) ∧ w'.cell? ⟨w4x.heap.size, 5, none⟩ = some (.int .i64 (og).state)) → Below w'.heap.size w' w'' → (Below w4.heap.size w4 w'' ∧ w''.cell? ⟨w.heap.size, 0, none⟩ = some (.int .i64 s.app) ∧ w''.cell? ⟨w.heap.size, 1, none⟩ = some (.slice A s.who.length c) ∧ w''.cell? ⟨w.heap.size, 2, none⟩ = some (.int .i64 s.exp) ∧ w''.cell? ⟨w3x.heap.size, 0, none⟩ = some (.int .i64 (og).s.app) ∧ w''.cell? ⟨w3x.heap.size, 1, none⟩ = some (.slice A3 (og).s.who.length c3) ∧ w''.cell? ⟨w3x.heap.size, 2, none⟩ = some (.int .i64 (og).s.exp) ∧ w''.cell? ⟨w3x.heap.size, 3, none⟩ = some (.int .i64 (og).opened) ∧ w''.cell? ⟨w3x.heap.size, 4, none⟩ = some (.slice B3 (og).yes.length k3) ∧ w''.cell? ⟨w3x.heap.size, 5, none⟩ = some (.int .i64 (og).state) ∧ w''.cell? ⟨w4x.heap.size, 0, none⟩ = some (.int .i64 (og).s.app) ∧ w''.cell? ⟨w4x.heap.size, 1, none⟩ = some (.slice A4 (og).s.who.length c4) ∧ w''.cell? ⟨w4x.heap.size, 2, none⟩ = some (.int .i64 (og).s.exp) ∧ w''.cell? ⟨w4x.heap.size, 3, none⟩ = some (.int .i64 (og).opened) ∧ w''.cell? ⟨w4x.heap.size, 4, none⟩ = some (.slice B4 (og).yes.length k4) ∧ w''.cell? ⟨w4x.heap.size, 5, none⟩ = some (.int .i64 (og).state)) := fun w' w'' h hc => ⟨h.1.trans (hc.mono h.1.size), (hc.cell (p := ⟨w.heap.size, 0, none⟩) (by have := h.1.size; dsimp only; omega)).trans h.2.1, (hc.cell (p := ⟨w.heap.size, 1, none⟩) (by have := h.1.size; dsimp only; omega)).trans h.2.2.1, (hc.cell (p := ⟨w.heap.size, 2, none⟩) (by have := h.1.size; dsimp only; omega)).trans h.2.2.2.1, (hc.cell (p := ⟨w3x.heap.size, 0, none⟩) (by have := h.1.size; dsimp only; omega)).trans h.2.2.2.2.1, (hc.cell (p := ⟨w3x.heap.size, 1, none⟩) (by have := h.1.size; dsimp only; omega)).trans h.2.2.2.2.2.1, (hc.cell (p := ⟨w3x.heap.size, 2, none⟩) (by have := h.1.size; dsimp only; omega)).trans h.2.2.2.2.2.2.1, (hc.cell (p := ⟨w3x.heap.size, 3, none⟩) (by have := h.1.size; dsimp only; omega)).trans h.2.2.2.2.2.2.2.1, (hc.cell (p := ⟨w3x.heap.size, 4, none⟩) (by have := h.1.size; dsimp only; omega)).trans h.2.2.2.2.2.2.2.2.1, (hc.cell (p := ⟨w3x.heap.size, 5, none⟩) (by have := h.1.size; dsimp only; omega)).trans h.2.2.2.2.2.2.2.2.2.1, (hc.cell (p := ⟨w4x.heap.size, 0, none⟩) (by have := h.1.size; dsimp only; omega)).trans h.2.2.2.2.2.2.2.2.2.2.1, (hc.cell (p := ⟨w4x.heap.size, 1, none⟩) (by have := h.1.size; dsimp only; omega)).trans h.2.2.2.2.2.2.2.2.2.2.2.1, (hc.cell (p := ⟨w4x.heap.size, 2, none⟩) (by have := h.1.size; dsimp only; omega)).trans h.2.2.2.2.2.2.2.2.2.2.2.2.1, (hc.cell (p := ⟨w4x.heap.size, 3, none⟩) (by have := h.1.size; dsimp only; omega)).trans h.2.2.2.2.2.2.2.2.2.2.2.2.2.1, (hc.cell (p := ⟨w4x.heap.size, 4, none⟩) (by have := h.1.size; dsimp only; omega)).trans h.2.2.2.2.2.2.2.2.2.2.2.2.2.2.1, (hc.cell (p := ⟨w4x.heap.size, 5, none⟩) (by have := h.1.size; dsimp only; omega)).trans h.2.2.2.2.2.2.2.2.2.2.2.2.2.2.2⟩
    have hT : Below w4.heap.size w4 w4.drew ∧ w4.drew.cell? ⟨w.heap.size, 0, none⟩ = some (.int .i64 s.app) ∧ w4.drew.cell? ⟨w.heap.size, 1, none⟩ = some (.slice A s.who.length c) ∧ w4.drew.cell? ⟨w.heap.size, 2, none⟩ = some (.int .i64 s.exp) ∧ w4.drew.cell? ⟨w3x.heap.size, 0, none⟩ = some (.int .i64 (og).s.app) ∧ w4.drew.cell? ⟨w3x.heap.size, 1, none⟩ = some (.slice A3 (og).s.who.length c3) ∧ w4.drew.cell? ⟨w3x.heap.size, 2, none⟩ = some (.int .i64 (og).s.exp) ∧ w4.drew.cell? ⟨w3x.heap.size, 3, none⟩ = some (.int .i64 (og).opened) ∧ w4.drew.cell? ⟨w3x.heap.size, 4, none⟩ = some (.slice B3 (og).yes.length k3) ∧ w4.drew.cell? ⟨w3x.heap.size, 5, none⟩ = some (.int .i64 (og).state) ∧ w4.drew.cell? ⟨w4x.heap.size, 0, none⟩ = some (.int .i64 (og).s.app) ∧ w4.drew.cell? ⟨w4x.heap.size, 1, none⟩ = some (.slice A4 (og).s.who.length c4) ∧ w4.drew.cell? ⟨w4x.heap.size, 2, none⟩ = some (.int .i64 (og).s.exp) ∧ w4.drew.cell? ⟨w4x.heap.size, 3, none⟩ = some (.int .i64 (og).opened) ∧ w4.drew.cell? ⟨w4x.heap.size, 4, none⟩ = some (.slice B4 (og).yes.length k4) ∧ w4.drew.cell? ⟨w4x.heap.size, 5, none⟩ = some (.int .i64 (og).state) := ⟨(Below.refl _ _).drew, d0, d1, d2, p0, p1, p2, p3, p4, p5, q0, q1, q2, q3, q4, q5⟩
    have hT0 : Below w4.heap.size w4 w4 ∧ w4.cell? ⟨w.heap.size, 0, none⟩ = some (.int .i64 s.app) ∧ w4.cell? ⟨w.heap.size, 1, none⟩ = some (.slice A s.who.length c) ∧ w4.cell? ⟨w.heap.size, 2, none⟩ = some (.int .i64 s.exp) ∧ w4.cell? ⟨w3x.heap.size, 0, none⟩ = some (.int .i64 (og).s.app) ∧ w4.cell? ⟨w3x.heap.size, 1, none⟩ = some (.slice A3 (og).s.who.length c3) ∧ w4.cell? ⟨w3x.heap.size, 2, none⟩ = some (.int .i64 (og).s.exp) ∧ w4.cell? ⟨w3x.heap.size, 3, none⟩ = some (.int .i64 (og).opened) ∧ w4.cell? ⟨w3x.heap.size, 4, none⟩ = some (.slice B3 (og).yes.length k3) ∧ w4.cell? ⟨w3x.heap.size, 5, none⟩ = some (.int .i64 (og).state) ∧ w4.cell? ⟨w4x.heap.size, 0, none⟩ = some (.int .i64 (og).s.app) ∧ w4.cell? ⟨w4x.heap.size, 1, none⟩ = some (.slice A4 (og).s.who.length c4) ∧ w4.cell? ⟨w4x.heap.size, 2, none⟩ = some (.int .i64 (og).s.exp) ∧ w4.cell? ⟨w4x.heap.size, 3, none⟩ = some (.int .i64 (og).opened) ∧ w4.cell? ⟨w4x.heap.size, 4, none⟩ = some (.slice B4 (og).yes.length k4) ∧ w4.cell? ⟨w4x.heap.size, 5, none⟩ = some (.int .i64 (og).state) := ⟨Below.refl _ _, d0, d1, d2, p0, p1, p2, p3, p4, p5, q0, q1, q2, q3, q4, q5⟩
    replace keepT := Lib.hid keepT
    have CS : ∀ w', (Below w4.heap.size w4 w' ∧ w'.cell? ⟨w.heap.size, 0, none⟩ = some (.int .i64 s.app) ∧ w'.cell? ⟨w.heap.size, 1, none⟩ = some (.slice A s.who.length c) ∧ w'.cell? ⟨w.heap.size, 2, none⟩ = some (.int .i64 s.exp) ∧ w'.cell? ⟨w3x.heap.size, 0, none⟩ = some (.int .i64 (og).s.app) ∧ w'.cell? ⟨w3x.heap.size, 1, none⟩ = some (.slice A3 (og).s.who.length c3) ∧ w'.cell? ⟨w3x.heap.size, 2, none⟩ = some (.int .i64 (og).s.exp) ∧ w'.cell? ⟨w3x.heap.size, 3, none⟩ = some (.int .i64 (og).opened) ∧ w'.cell? ⟨w3x.heap.size, 4, none⟩ = some (.slice B3 (og).yes.length k3) ∧ w'.cell? ⟨w3x.heap.size, 5, none⟩ = some (.int .i64 (og).state) ∧ w'.cell? ⟨w4x.heap.size, 0, none⟩ = some (.int .i64 (og).s.app) ∧ w'.cell? ⟨w4x.heap.size, 1, none⟩ = some (.slice A4 (og).s.who.length c4) ∧ w'.cell? ⟨w4x.heap.size, 2, none⟩ = some (.int .i64 (og).s.exp) ∧ w'.cell? ⟨w4x.heap.size, 3, none⟩ = some (.int .i64 (og).opened) ∧ w'.cell? ⟨w4x.heap.size, 4, none⟩ = some (.slice B4 (og).yes.length k4) ∧ w'.cell? ⟨w4x.heap.size, 5, none⟩ = some (.int .i64 (og).state)) → Calls Tryd.prog 14 #[.agg (garr og A3 c3 B3 k3), .agg (garr og A4 c4 B4 k4)] w' fun e w'' => e = .returned (.bool true) ∧ Below w'.heap.size w' w'' := fun w' h => same_any og A3 c3 B3 k3 A4 c4 B4 k4 w' ((hr3.below h.1).more h.1.size) ((hs3.below h.1).more h.1.size) ((hr4.below h.1).more h.1.size) ((hs4.below h.1).more h.1.size) x1.out x2.out
    have CA : ∀ w', (Below w4.heap.size w4 w' ∧ w'.cell? ⟨w.heap.size, 0, none⟩ = some (.int .i64 s.app) ∧ w'.cell? ⟨w.heap.size, 1, none⟩ = some (.slice A s.who.length c) ∧ w'.cell? ⟨w.heap.size, 2, none⟩ = some (.int .i64 s.exp) ∧ w'.cell? ⟨w3x.heap.size, 0, none⟩ = some (.int .i64 (og).s.app) ∧ w'.cell? ⟨w3x.heap.size, 1, none⟩ = some (.slice A3 (og).s.who.length c3) ∧ w'.cell? ⟨w3x.heap.size, 2, none⟩ = some (.int .i64 (og).s.exp) ∧ w'.cell? ⟨w3x.heap.size, 3, none⟩ = some (.int .i64 (og).opened) ∧ w'.cell? ⟨w3x.heap.size, 4, none⟩ = some (.slice B3 (og).yes.length k3) ∧ w'.cell? ⟨w3x.heap.size, 5, none⟩ = some (.int .i64 (og).state) ∧ w'.cell? ⟨w4x.heap.size, 0, none⟩ = some (.int .i64 (og).s.app) ∧ w'.cell? ⟨w4x.heap.size, 1, none⟩ = some (.slice A4 (og).s.who.length c4) ∧ w'.cell? ⟨w4x.heap.size, 2, none⟩ = some (.int .i64 (og).s.exp) ∧ w'.cell? ⟨w4x.heap.size, 3, none⟩ = some (.int .i64 (og).opened) ∧ w'.cell? ⟨w4x.heap.size, 4, none⟩ = some (.slice B4 (og).yes.length k4) ∧ w'.cell? ⟨w4x.heap.size, 5, none⟩ = some (.int .i64 (og).state)) → Calls Tryd.prog 12 #[.agg (sarr s A c)] w' fun e w'' => e = .returned (.int .i64 ve) ∧ Below w'.heap.size w' w'' := fun w' h => C2.out w' ((hr2.below h.1).more h.1.size)
    have CB : ∀ w', (Below w4.heap.size w4 w' ∧ w'.cell? ⟨w.heap.size, 0, none⟩ = some (.int .i64 s.app) ∧ w'.cell? ⟨w.heap.size, 1, none⟩ = some (.slice A s.who.length c) ∧ w'.cell? ⟨w.heap.size, 2, none⟩ = some (.int .i64 s.exp) ∧ w'.cell? ⟨w3x.heap.size, 0, none⟩ = some (.int .i64 (og).s.app) ∧ w'.cell? ⟨w3x.heap.size, 1, none⟩ = some (.slice A3 (og).s.who.length c3) ∧ w'.cell? ⟨w3x.heap.size, 2, none⟩ = some (.int .i64 (og).s.exp) ∧ w'.cell? ⟨w3x.heap.size, 3, none⟩ = some (.int .i64 (og).opened) ∧ w'.cell? ⟨w3x.heap.size, 4, none⟩ = some (.slice B3 (og).yes.length k3) ∧ w'.cell? ⟨w3x.heap.size, 5, none⟩ = some (.int .i64 (og).state) ∧ w'.cell? ⟨w4x.heap.size, 0, none⟩ = some (.int .i64 (og).s.app) ∧ w'.cell? ⟨w4x.heap.size, 1, none⟩ = some (.slice A4 (og).s.who.length c4) ∧ w'.cell? ⟨w4x.heap.size, 2, none⟩ = some (.int .i64 (og).s.exp) ∧ w'.cell? ⟨w4x.heap.size, 3, none⟩ = some (.int .i64 (og).opened) ∧ w'.cell? ⟨w4x.heap.size, 4, none⟩ = some (.slice B4 (og).yes.length k4) ∧ w'.cell? ⟨w4x.heap.size, 5, none⟩ = some (.int .i64 (og).state)) → Calls Tryd.prog 13 #[.agg (sarr s A c)] w' fun e w'' => e = .returned (.int .i64 ve) ∧ Below w'.heap.size w' w'' := fun w' h => C3.out w' ((hr2.below h.1).more h.1.size)
    replace CS := Lib.hid CS
    replace CA := Lib.hid CA
    replace CB := Lib.hid CB
    clear hr2 hr3 hs3 hr4 hs4 C0 C1 C2 C3
    go_region_held3 (fun w' => Below w4.heap.size w4 w' ∧ w'.cell? ⟨w.heap.size, 0, none⟩ = some (.int .i64 s.app) ∧ w'.cell? ⟨w.heap.size, 1, none⟩ = some (.slice A s.who.length c) ∧ w'.cell? ⟨w.heap.size, 2, none⟩ = some (.int .i64 s.exp) ∧ w'.cell? ⟨w3x.heap.size, 0, none⟩ = some (.int .i64 (og).s.app) ∧ w'.cell? ⟨w3x.heap.size, 1, none⟩ = some (.slice A3 (og).s.who.length c3) ∧ w'.cell? ⟨w3x.heap.size, 2, none⟩ = some (.int .i64 (og).s.exp) ∧ w'.cell? ⟨w3x.heap.size, 3, none⟩ = some (.int .i64 (og).opened) ∧ w'.cell? ⟨w3x.heap.size, 4, none⟩ = some (.slice B3 (og).yes.length k3) ∧ w'.cell? ⟨w3x.heap.size, 5, none⟩ = some (.int .i64 (og).state) ∧ w'.cell? ⟨w4x.heap.size, 0, none⟩ = some (.int .i64 (og).s.app) ∧ w'.cell? ⟨w4x.heap.size, 1, none⟩ = some (.slice A4 (og).s.who.length c4) ∧ w'.cell? ⟨w4x.heap.size, 2, none⟩ = some (.int .i64 (og).s.exp) ∧ w'.cell? ⟨w4x.heap.size, 3, none⟩ = some (.int .i64 (og).opened) ∧ w'.cell? ⟨w4x.heap.size, 4, none⟩ = some (.slice B4 (og).yes.length k4) ∧ w'.cell? ⟨w4x.heap.size, 5, none⟩ = some (.int .i64 (og).state))
      (first | exact hT | exact hT0 | exact keepT.out _ _ (by assumption) hbq)
      (first
        | (go_at_call 12; refine (CA.out _ (by assumption)).mono ?_; rintro e w7 ⟨rfl, hbq⟩; dsimp only)
        | (go_at_call 13; refine (CB.out _ (by assumption)).mono ?_; rintro e w7 ⟨rfl, hbq⟩; dsimp only)
        | (go_at_call 14; refine (CS.out _ (by assumption)).mono ?_; rintro e w7 ⟨rfl, hbq⟩; dsimp only)
        | (go_at_call 9; refine (CV.out _).mono ?_; rintro e w7 ⟨rfl, hbq⟩; dsimp only))
    all_goals
      repeat' ((fail_if_success at_builtin); (first | go_skip | go_guarded | go_step))
      go_ret
      exact ⟨rfl, hbw_w4.trans (Below.mono (And.left (by assumption)) hbw_w4.size)⟩
end Go.Proofs.YtionchkblgpklaaDoor
