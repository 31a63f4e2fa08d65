/- What the laws ask of the program first. -/
import Derived.Test.YtionchkblgpklaaDoorGtS
namespace Go.Proofs.YtionchkblgpklaaDoor
open Go.RowKit
abbrev bAnn : ByteArray := ⟨#[97, 110, 110]⟩
abbrev bBob : ByteArray := ⟨#[98, 111, 98]⟩
abbrev bCy : ByteArray := ⟨#[99, 121]⟩
abbrev sL : Gs := ⟨2, [bAnn, bBob, bCy], 50⟩
abbrev gL : Gt := ⟨sL, 100, [], 0⟩
abbrev hL : Gt := ⟨sL, 100, [bBob], 0⟩
abbrev iL : Gt := ⟨sL, 100, [bAnn, bBob], 1⟩
theorem lv1 : openE sL 100 = 0 := by kernel_rfl
theorem lv2 : openG sL 100 = gL := by kernel_rfl
theorem lv3 : appE gL bBob 149 = 0 := by kernel_rfl
theorem lv4 : appG gL bBob 149 = hL := by kernel_rfl
theorem lv5 : appE hL bAnn 120 = 0 := by kernel_rfl
theorem lv6 : appG hL bAnn 120 = iL := by kernel_rfl
theorem lv7 : checkG hL bCy 150 = 20 := by kernel_rfl
theorem lv7b : rejG hL bCy 150 = hL := by kernel_rfl
theorem lv8 : leftG hL = 1 := by kernel_rfl
abbrev xL : Gt := ⟨sL, 100, [], 3⟩
theorem lv9 : expG gL 150 = xL := by kernel_rfl
theorem lvz : ∀ x ∈ sL.who, x.size ≤ 1000 := by
  intro x hx
  simp only [List.mem_cons, List.not_mem_nil, or_false] at hx
  rcases hx with rfl | rfl | rfl <;> decide
set_option maxRecDepth 100000 in
set_option maxHeartbeats 4000000 in
theorem lives_any (w : World) : Calls Tryd.prog 9 #[] w fun e w' => e = .returned (.bool true) ∧ Below w.heap.size w w' := by
  have hb1 := ((Below.refl w.heap.size w).alloc (Nat.le_refl _) (.cells #[.string bAnn, .string bBob, .string bCy] 9)).alloc (by simp) (.cells #[.int .i64 2, .slice (some ⟨w.heap.size, 0, none⟩) 3 3, .int .i64 50] 24)
  have hq1 : Seq ((w.alloc (.cells #[.string bAnn, .string bBob, .string bCy] 9)).alloc (.cells #[.int .i64 2, .slice (some ⟨w.heap.size, 0, none⟩) 3 3, .int .i64 50] 24)) ((w.alloc (.cells #[.string bAnn, .string bBob, .string bCy] 9)).alloc (.cells #[.int .i64 2, .slice (some ⟨w.heap.size, 0, none⟩) 3 3, .int .i64 50] 24)).heap.size 1 (some ⟨w.heap.size, 0, none⟩) sL.who.length (cellsS sL.who) := by
    refine ⟨rfl, fun _ => ⟨w.heap.size, 0, rfl, by simp; omega, fun j u hu => ?_⟩⟩
    match j, hu with
    | 0, hu => cases hu; simp [go_sem]
    | 1, hu => cases hu; simp [go_sem]
    | 2, hu => cases hu; simp [go_sem]
  go_enter Tryd.func9, Tryd.ntmps9
  repeat' ((fail_if_success at_builtin); (first | go_skip | go_guarded | go_step))
  generalize ((w.alloc (.cells #[.string bAnn, .string bBob, .string bCy] 9)).alloc (.cells #[.int .i64 2, .slice (some ⟨w.heap.size, 0, none⟩) 3 3, .int .i64 50] 24)) = w1 at *
  have C1 := open_any sL (some ⟨w.heap.size, 0, none⟩) 3 100 w1 hq1 (by decide) lvz
  rw [lv1, lv2] at C1
  refine C1.mono ?_
  rintro e w2 ⟨A1, c1, B1, k1, rfl, hb2, hr2, hs2⟩
  dsimp only
  have hbw2 := hb1.trans (hb2.mono hb1.size)
  clear hq1 C1 hb1 hb2
  repeat' ((fail_if_success at_builtin); (first | go_skip | go_guarded | go_step))
  have hbw_w2 := hbw2
  have hal := (Below.refl w2.heap.size w2).alloc (Nat.le_refl _) (.cells #[.int .i64 2, .slice A1 3 c1, .int .i64 50, .int .i64 100, .slice B1 0 k1, .int .i64 0] 28)
  have p0 : (w2.alloc (.cells #[.int .i64 2, .slice A1 3 c1, .int .i64 50, .int .i64 100, .slice B1 0 k1, .int .i64 0] 28)).cell? ⟨w2.heap.size, 0, none⟩ = some (.int .i64 2) := by simp [go_sem]
  have p1 : (w2.alloc (.cells #[.int .i64 2, .slice A1 3 c1, .int .i64 50, .int .i64 100, .slice B1 0 k1, .int .i64 0] 28)).cell? ⟨w2.heap.size, 1, none⟩ = some (.slice A1 3 c1) := by simp [go_sem]
  have p2 : (w2.alloc (.cells #[.int .i64 2, .slice A1 3 c1, .int .i64 50, .int .i64 100, .slice B1 0 k1, .int .i64 0] 28)).cell? ⟨w2.heap.size, 2, none⟩ = some (.int .i64 50) := by simp [go_sem]
  have p3 : (w2.alloc (.cells #[.int .i64 2, .slice A1 3 c1, .int .i64 50, .int .i64 100, .slice B1 0 k1, .int .i64 0] 28)).cell? ⟨w2.heap.size, 3, none⟩ = some (.int .i64 100) := by simp [go_sem]
  have p4 : (w2.alloc (.cells #[.int .i64 2, .slice A1 3 c1, .int .i64 50, .int .i64 100, .slice B1 0 k1, .int .i64 0] 28)).cell? ⟨w2.heap.size, 4, none⟩ = some (.slice B1 0 k1) := by simp [go_sem]
  have p5 : (w2.alloc (.cells #[.int .i64 2, .slice A1 3 c1, .int .i64 50, .int .i64 100, .slice B1 0 k1, .int .i64 0] 28)).cell? ⟨w2.heap.size, 5, none⟩ = some (.int .i64 0) := by simp [go_sem]
  have pF : ∀ j, (w2.alloc (.cells #[.int .i64 2, .slice A1 3 c1, .int .i64 50, .int .i64 100, .slice B1 0 k1, .int .i64 0] 28)).frozen? ⟨w2.heap.size, j, none⟩ = false := fun j => by simp [go_sem]
  have hz_w3 : (w2.alloc (.cells #[.int .i64 2, .slice A1 3 c1, .int .i64 50, .int .i64 100, .slice B1 0 k1, .int .i64 0] 28)).heap.size = w2.heap.size + 1 := by simp
  have hbw_w3 := hbw_w2.trans (hal.mono hbw_w2.size)
  generalize w2.alloc (.cells #[.int .i64 2, .slice A1 3 c1, .int .i64 50, .int .i64 100, .slice B1 0 k1, .int .i64 0] 28) = w3 at *
  have hr3 := (hr2.below hal).more hal.size
  have hs3 := (hs2.below hal).more hal.size
  clear hr2 hs2 hal hbw2
  have C := approve_any gL A1 c1 B1 k1 bBob 149 w3 hr3 hs3 (by decide) (by decide) (fun x hx => by cases hx) (by decide) ⟨by decide, by decide⟩ ⟨by decide, by decide⟩
  rw [lv3, lv4] at C
  replace C := Lib.hid C
  refine C.out.mono ?_
  rintro e w4 ⟨A2, c2, B2, k2, rfl, hb, hr4, hs4⟩
  dsimp only
  replace p0 := (hb.cell (p := ⟨w2.heap.size, 0, none⟩) (by dsimp only; omega)).trans p0
  replace p1 := (hb.cell (p := ⟨w2.heap.size, 1, none⟩) (by dsimp only; omega)).trans p1
  replace p2 := (hb.cell (p := ⟨w2.heap.size, 2, none⟩) (by dsimp only; omega)).trans p2
  replace p3 := (hb.cell (p := ⟨w2.heap.size, 3, none⟩) (by dsimp only; omega)).trans p3
  replace p4 := (hb.cell (p := ⟨w2.heap.size, 4, none⟩) (by dsimp only; omega)).trans p4
  replace p5 := (hb.cell (p := ⟨w2.heap.size, 5, none⟩) (by dsimp only; omega)).trans p5
  replace pF := frz_below hb (by omega) pF
  have hbw_w4 := hbw_w3.trans (hb.mono hbw_w3.size)
  have hz_w4 := hb.size
  replace hr3 := (hr3.below hb).more hb.size
  replace hs3 := (hs3.below hb).more hb.size
  clear hb C
  repeat' ((fail_if_success at_builtin); (first | go_skip | go_guarded | go_step))
  have hal := (Below.refl w4.heap.size w4).alloc (Nat.le_refl _) (.cells #[.int .i64 2, .slice A2 3 c2, .int .i64 50, .int .i64 100, .slice B2 1 k2, .int .i64 0] 28)
  replace p0 := (hal.cell (p := ⟨w2.heap.size, 0, none⟩) (by dsimp only; omega)).trans p0
  replace p1 := (hal.cell (p := ⟨w2.heap.size, 1, none⟩) (by dsimp only; omega)).trans p1
  replace p2 := (hal.cell (p := ⟨w2.heap.size, 2, none⟩) (by dsimp only; omega)).trans p2
  replace p3 := (hal.cell (p := ⟨w2.heap.size, 3, none⟩) (by dsimp only; omega)).trans p3
  replace p4 := (hal.cell (p := ⟨w2.heap.size, 4, none⟩) (by dsimp only; omega)).trans p4
  replace p5 := (hal.cell (p := ⟨w2.heap.size, 5, none⟩) (by dsimp only; omega)).trans p5
  replace pF := frz_below hal (by omega) pF
  have q0 : (w4.alloc (.cells #[.int .i64 2, .slice A2 3 c2, .int .i64 50, .int .i64 100, .slice B2 1 k2, .int .i64 0] 28)).cell? ⟨w4.heap.size, 0, none⟩ = some (.int .i64 2) := by simp [go_sem]
  have q1 : (w4.alloc (.cells #[.int .i64 2, .slice A2 3 c2, .int .i64 50, .int .i64 100, .slice B2 1 k2, .int .i64 0] 28)).cell? ⟨w4.heap.size, 1, none⟩ = some (.slice A2 3 c2) := by simp [go_sem]
  have q2 : (w4.alloc (.cells #[.int .i64 2, .slice A2 3 c2, .int .i64 50, .int .i64 100, .slice B2 1 k2, .int .i64 0] 28)).cell? ⟨w4.heap.size, 2, none⟩ = some (.int .i64 50) := by simp [go_sem]
  have q3 : (w4.alloc (.cells #[.int .i64 2, .slice A2 3 c2, .int .i64 50, .int .i64 100, .slice B2 1 k2, .int .i64 0] 28)).cell? ⟨w4.heap.size, 3, none⟩ = some (.int .i64 100) := by simp [go_sem]
  have q4 : (w4.alloc (.cells #[.int .i64 2, .slice A2 3 c2, .int .i64 50, .int .i64 100, .slice B2 1 k2, .int .i64 0] 28)).cell? ⟨w4.heap.size, 4, none⟩ = some (.slice B2 1 k2) := by simp [go_sem]
  have q5 : (w4.alloc (.cells #[.int .i64 2, .slice A2 3 c2, .int .i64 50, .int .i64 100, .slice B2 1 k2, .int .i64 0] 28)).cell? ⟨w4.heap.size, 5, none⟩ = some (.int .i64 0) := by simp [go_sem]
  have qF : ∀ j, (w4.alloc (.cells #[.int .i64 2, .slice A2 3 c2, .int .i64 50, .int .i64 100, .slice B2 1 k2, .int .i64 0] 28)).frozen? ⟨w4.heap.size, j, none⟩ = false := fun j => by simp [go_sem]
  have hz_w5 : (w4.alloc (.cells #[.int .i64 2, .slice A2 3 c2, .int .i64 50, .int .i64 100, .slice B2 1 k2, .int .i64 0] 28)).heap.size = w4.heap.size + 1 := by simp
  have hbw_w5 := hbw_w4.trans (hal.mono hbw_w4.size)
  generalize w4.alloc (.cells #[.int .i64 2, .slice A2 3 c2, .int .i64 50, .int .i64 100, .slice B2 1 k2, .int .i64 0] 28) = w5 at *
  have hr5 := (hr4.below hal).more hal.size
  have hs5 := (hs4.below hal).more hal.size
  replace hr3 := (hr3.below hal).more hal.size
  replace hs3 := (hs3.below hal).more hal.size
  clear hr4 hs4 hal
  have C := approve_any hL A2 c2 B2 k2 bAnn 120 w5 hr5 hs5 (by decide) (by decide) (fun x hx => by rw [List.mem_singleton.1 hx]; decide) (by decide) ⟨by decide, by decide⟩ ⟨by decide, by decide⟩
  rw [lv5, lv6] at C
  replace C := Lib.hid C
  refine C.out.mono ?_
  rintro e w6 ⟨A3, c3, B3, k3, rfl, hb, hr6, hs6⟩
  dsimp only
  replace p0 := (hb.cell (p := ⟨w2.heap.size, 0, none⟩) (by dsimp only; omega)).trans p0
  replace p1 := (hb.cell (p := ⟨w2.heap.size, 1, none⟩) (by dsimp only; omega)).trans p1
  replace p2 := (hb.cell (p := ⟨w2.heap.size, 2, none⟩) (by dsimp only; omega)).trans p2
  replace p3 := (hb.cell (p := ⟨w2.heap.size, 3, none⟩) (by dsimp only; omega)).trans p3
  replace p4 := (hb.cell (p := ⟨w2.heap.size, 4, none⟩) (by dsimp only; omega)).trans p4
  replace p5 := (hb.cell (p := ⟨w2.heap.size, 5, none⟩) (by dsimp only; omega)).trans p5
  replace pF := frz_below hb (by omega) pF
  replace q0 := (hb.cell (p := ⟨w4.heap.size, 0, none⟩) (by dsimp only; omega)).trans q0
  replace q1 := (hb.cell (p := ⟨w4.heap.size, 1, none⟩) (by dsimp only; omega)).trans q1
  replace q2 := (hb.cell (p := ⟨w4.heap.size, 2, none⟩) (by dsimp only; omega)).trans q2
  replace q3 := (hb.cell (p := ⟨w4.heap.size, 3, none⟩) (by dsimp only; omega)).trans q3
  replace q4 := (hb.cell (p := ⟨w4.heap.size, 4, none⟩) (by dsimp only; omega)).trans q4
  replace q5 := (hb.cell (p := ⟨w4.heap.size, 5, none⟩) (by dsimp only; omega)).trans q5
  replace qF := frz_below hb (by omega) qF
  have hbw_w6 := hbw_w5.trans (hb.mono hbw_w5.size)
  have hz_w6 := hb.size
  replace hr3 := (hr3.below hb).more hb.size
  replace hs3 := (hs3.below hb).more hb.size
  replace hr5 := (hr5.below hb).more hb.size
  replace hs5 := (hs5.below hb).more hb.size
  clear hb C
  have qa0 : ∀ ob, (w6.alloc ob).cell? ⟨w4.heap.size, 0, none⟩ = some (.int .i64 2) := fun ob => (((Below.refl w6.heap.size w6).alloc (Nat.le_refl _) ob).cell (p := ⟨w4.heap.size, 0, none⟩) (by dsimp only; omega)).trans q0
  have qa1 : ∀ ob, (w6.alloc ob).cell? ⟨w4.heap.size, 1, none⟩ = some (.slice A2 3 c2) := fun ob => (((Below.refl w6.heap.size w6).alloc (Nat.le_refl _) ob).cell (p := ⟨w4.heap.size, 1, none⟩) (by dsimp only; omega)).trans q1
  have qa2 : ∀ ob, (w6.alloc ob).cell? ⟨w4.heap.size, 2, none⟩ = some (.int .i64 50) := fun ob => (((Below.refl w6.heap.size w6).alloc (Nat.le_refl _) ob).cell (p := ⟨w4.heap.size, 2, none⟩) (by dsimp only; omega)).trans q2
  have qa3 : ∀ ob, (w6.alloc ob).cell? ⟨w4.heap.size, 3, none⟩ = some (.int .i64 100) := fun ob => (((Below.refl w6.heap.size w6).alloc (Nat.le_refl _) ob).cell (p := ⟨w4.heap.size, 3, none⟩) (by dsimp only; omega)).trans q3
  have qa4 : ∀ ob, (w6.alloc ob).cell? ⟨w4.heap.size, 4, none⟩ = some (.slice B2 1 k2) := fun ob => (((Below.refl w6.heap.size w6).alloc (Nat.le_refl _) ob).cell (p := ⟨w4.heap.size, 4, none⟩) (by dsimp only; omega)).trans q4
  have qa5 : ∀ ob, (w6.alloc ob).cell? ⟨w4.heap.size, 5, none⟩ = some (.int .i64 0) := fun ob => (((Below.refl w6.heap.size w6).alloc (Nat.le_refl _) ob).cell (p := ⟨w4.heap.size, 5, none⟩) (by dsimp only; omega)).trans q5
  repeat' ((fail_if_success at_builtin); (first | go_skip | go_guarded | go_step))
  clear qa0 qa1 qa2 qa3 qa4 qa5
  have hal := (Below.refl w6.heap.size w6).alloc (Nat.le_refl _) (.cells #[.int .i64 2, .slice A3 3 c3, .int .i64 50, .int .i64 100, .slice B3 2 k3, .int .i64 1] 28)
  replace p0 := (hal.cell (p := ⟨w2.heap.size, 0, none⟩) (by dsimp only; omega)).trans p0
  replace p1 := (hal.cell (p := ⟨w2.heap.size, 1, none⟩) (by dsimp only; omega)).trans p1
  replace p2 := (hal.cell (p := ⟨w2.heap.size, 2, none⟩) (by dsimp only; omega)).trans p2
  replace p3 := (hal.cell (p := ⟨w2.heap.size, 3, none⟩) (by dsimp only; omega)).trans p3
  replace p4 := (hal.cell (p := ⟨w2.heap.size, 4, none⟩) (by dsimp only; omega)).trans p4
  replace p5 := (hal.cell (p := ⟨w2.heap.size, 5, none⟩) (by dsimp only; omega)).trans p5
  replace pF := frz_below hal (by omega) pF
  replace q0 := (hal.cell (p := ⟨w4.heap.size, 0, none⟩) (by dsimp only; omega)).trans q0
  replace q1 := (hal.cell (p := ⟨w4.heap.size, 1, none⟩) (by dsimp only; omega)).trans q1
  replace q2 := (hal.cell (p := ⟨w4.heap.size, 2, none⟩) (by dsimp only; omega)).trans q2
  replace q3 := (hal.cell (p := ⟨w4.heap.size, 3, none⟩) (by dsimp only; omega)).trans q3
  replace q4 := (hal.cell (p := ⟨w4.heap.size, 4, none⟩) (by dsimp only; omega)).trans q4
  replace q5 := (hal.cell (p := ⟨w4.heap.size, 5, none⟩) (by dsimp only; omega)).trans q5
  replace qF := frz_below hal (by omega) qF
  have r0 : (w6.alloc (.cells #[.int .i64 2, .slice A3 3 c3, .int .i64 50, .int .i64 100, .slice B3 2 k3, .int .i64 1] 28)).cell? ⟨w6.heap.size, 0, none⟩ = some (.int .i64 2) := by simp [go_sem]
  have r1 : (w6.alloc (.cells #[.int .i64 2, .slice A3 3 c3, .int .i64 50, .int .i64 100, .slice B3 2 k3, .int .i64 1] 28)).cell? ⟨w6.heap.size, 1, none⟩ = some (.slice A3 3 c3) := by simp [go_sem]
  have r2 : (w6.alloc (.cells #[.int .i64 2, .slice A3 3 c3, .int .i64 50, .int .i64 100, .slice B3 2 k3, .int .i64 1] 28)).cell? ⟨w6.heap.size, 2, none⟩ = some (.int .i64 50) := by simp [go_sem]
  have r3 : (w6.alloc (.cells #[.int .i64 2, .slice A3 3 c3, .int .i64 50, .int .i64 100, .slice B3 2 k3, .int .i64 1] 28)).cell? ⟨w6.heap.size, 3, none⟩ = some (.int .i64 100) := by simp [go_sem]
  have r4 : (w6.alloc (.cells #[.int .i64 2, .slice A3 3 c3, .int .i64 50, .int .i64 100, .slice B3 2 k3, .int .i64 1] 28)).cell? ⟨w6.heap.size, 4, none⟩ = some (.slice B3 2 k3) := by simp [go_sem]
  have r5 : (w6.alloc (.cells #[.int .i64 2, .slice A3 3 c3, .int .i64 50, .int .i64 100, .slice B3 2 k3, .int .i64 1] 28)).cell? ⟨w6.heap.size, 5, none⟩ = some (.int .i64 1) := by simp [go_sem]
  have rF : ∀ j, (w6.alloc (.cells #[.int .i64 2, .slice A3 3 c3, .int .i64 50, .int .i64 100, .slice B3 2 k3, .int .i64 1] 28)).frozen? ⟨w6.heap.size, j, none⟩ = false := fun j => by simp [go_sem]
  have hz_w7 : (w6.alloc (.cells #[.int .i64 2, .slice A3 3 c3, .int .i64 50, .int .i64 100, .slice B3 2 k3, .int .i64 1] 28)).heap.size = w6.heap.size + 1 := by simp
  have hbw_w7 := hbw_w6.trans (hal.mono hbw_w6.size)
  generalize w6.alloc (.cells #[.int .i64 2, .slice A3 3 c3, .int .i64 50, .int .i64 100, .slice B3 2 k3, .int .i64 1] 28) = w7 at *
  have hr7 := (hr6.below hal).more hal.size
  have hs7 := (hs6.below hal).more hal.size
  replace hr3 := (hr3.below hal).more hal.size
  replace hs3 := (hs3.below hal).more hal.size
  replace hr5 := (hr5.below hal).more hal.size
  replace hs5 := (hs5.below hal).more hal.size
  clear hr6 hs6 hal
  have C := reject_any hL A2 c2 B2 k2 bCy 150 w7 hr5 hs5 (by decide) (by decide) ⟨by decide, by decide⟩ ⟨by decide, by decide⟩
  rw [lv7, lv7b] at C
  replace C := Lib.hid C
  refine C.out.mono ?_
  rintro e w8 ⟨A4, c4, B4, k4, rfl, hb, -, -⟩
  dsimp only
  replace p0 := (hb.cell (p := ⟨w2.heap.size, 0, none⟩) (by dsimp only; omega)).trans p0
  replace p1 := (hb.cell (p := ⟨w2.heap.size, 1, none⟩) (by dsimp only; omega)).trans p1
  replace p2 := (hb.cell (p := ⟨w2.heap.size, 2, none⟩) (by dsimp only; omega)).trans p2
  replace p3 := (hb.cell (p := ⟨w2.heap.size, 3, none⟩) (by dsimp only; omega)).trans p3
  replace p4 := (hb.cell (p := ⟨w2.heap.size, 4, none⟩) (by dsimp only; omega)).trans p4
  replace p5 := (hb.cell (p := ⟨w2.heap.size, 5, none⟩) (by dsimp only; omega)).trans p5
  replace pF := frz_below hb (by omega) pF
  replace q0 := (hb.cell (p := ⟨w4.heap.size, 0, none⟩) (by dsimp only; omega)).trans q0
  replace q1 := (hb.cell (p := ⟨w4.heap.size, 1, none⟩) (by dsimp only; omega)).trans q1
  replace q2 := (hb.cell (p := ⟨w4.heap.size, 2, none⟩) (by dsimp only; omega)).trans q2
  replace q3 := (hb.cell (p := ⟨w4.heap.size, 3, none⟩) (by dsimp only; omega)).trans q3
  replace q4 := (hb.cell (p := ⟨w4.heap.size, 4, none⟩) (by dsimp only; omega)).trans q4
  replace q5 := (hb.cell (p := ⟨w4.heap.size, 5, none⟩) (by dsimp only; omega)).trans q5
  replace qF := frz_below hb (by omega) qF
  replace r0 := (hb.cell (p := ⟨w6.heap.size, 0, none⟩) (by dsimp only; omega)).trans r0
  replace r1 := (hb.cell (p := ⟨w6.heap.size, 1, none⟩) (by dsimp only; omega)).trans r1
  replace r2 := (hb.cell (p := ⟨w6.heap.size, 2, none⟩) (by dsimp only; omega)).trans r2
  replace r3 := (hb.cell (p := ⟨w6.heap.size, 3, none⟩) (by dsimp only; omega)).trans r3
  replace r4 := (hb.cell (p := ⟨w6.heap.size, 4, none⟩) (by dsimp only; omega)).trans r4
  replace r5 := (hb.cell (p := ⟨w6.heap.size, 5, none⟩) (by dsimp only; omega)).trans r5
  replace rF := frz_below hb (by omega) rF
  have hbw_w8 := hbw_w7.trans (hb.mono hbw_w7.size)
  have hz_w8 := hb.size
  replace hr3 := (hr3.below hb).more hb.size
  replace hs3 := (hs3.below hb).more hb.size
  replace hr5 := (hr5.below hb).more hb.size
  replace hs5 := (hs5.below hb).more hb.size
  replace hr7 := (hr7.below hb).more hb.size
  replace hs7 := (hs7.below hb).more hb.size
  clear hb C
  have qa0 : ∀ ob, (w8.alloc ob).cell? ⟨w4.heap.size, 0, none⟩ = some (.int .i64 2) := fun ob => (((Below.refl w8.heap.size w8).alloc (Nat.le_refl _) ob).cell (p := ⟨w4.heap.size, 0, none⟩) (by dsimp only; omega)).trans q0
  have qa1 : ∀ ob, (w8.alloc ob).cell? ⟨w4.heap.size, 1, none⟩ = some (.slice A2 3 c2) := fun ob => (((Below.refl w8.heap.size w8).alloc (Nat.le_refl _) ob).cell (p := ⟨w4.heap.size, 1, none⟩) (by dsimp only; omega)).trans q1
  have qa2 : ∀ ob, (w8.alloc ob).cell? ⟨w4.heap.size, 2, none⟩ = some (.int .i64 50) := fun ob => (((Below.refl w8.heap.size w8).alloc (Nat.le_refl _) ob).cell (p := ⟨w4.heap.size, 2, none⟩) (by dsimp only; omega)).trans q2
  have qa3 : ∀ ob, (w8.alloc ob).cell? ⟨w4.heap.size, 3, none⟩ = some (.int .i64 100) := fun ob => (((Below.refl w8.heap.size w8).alloc (Nat.le_refl _) ob).cell (p := ⟨w4.heap.size, 3, none⟩) (by dsimp only; omega)).trans q3
  have qa4 : ∀ ob, (w8.alloc ob).cell? ⟨w4.heap.size, 4, none⟩ = some (.slice B2 1 k2) := fun ob => (((Below.refl w8.heap.size w8).alloc (Nat.le_refl _) ob).cell (p := ⟨w4.heap.size, 4, none⟩) (by dsimp only; omega)).trans q4
  have qa5 : ∀ ob, (w8.alloc ob).cell? ⟨w4.heap.size, 5, none⟩ = some (.int .i64 0) := fun ob => (((Below.refl w8.heap.size w8).alloc (Nat.le_refl _) ob).cell (p := ⟨w4.heap.size, 5, none⟩) (by dsimp only; omega)).trans q5
  repeat' ((fail_if_success at_builtin); (first | go_skip | go_guarded | go_step))
  clear qa0 qa1 qa2 qa3 qa4 qa5
  have hal := (Below.refl w8.heap.size w8).alloc (Nat.le_refl _) (.cells #[.int .i64 2, .slice A4 3 c4, .int .i64 50, .int .i64 100, .slice B4 1 k4, .int .i64 0] 28)
  replace p0 := (hal.cell (p := ⟨w2.heap.size, 0, none⟩) (by dsimp only; omega)).trans p0
  replace p1 := (hal.cell (p := ⟨w2.heap.size, 1, none⟩) (by dsimp only; omega)).trans p1
  replace p2 := (hal.cell (p := ⟨w2.heap.size, 2, none⟩) (by dsimp only; omega)).trans p2
  replace p3 := (hal.cell (p := ⟨w2.heap.size, 3, none⟩) (by dsimp only; omega)).trans p3
  replace p4 := (hal.cell (p := ⟨w2.heap.size, 4, none⟩) (by dsimp only; omega)).trans p4
  replace p5 := (hal.cell (p := ⟨w2.heap.size, 5, none⟩) (by dsimp only; omega)).trans p5
  replace pF := frz_below hal (by omega) pF
  replace q0 := (hal.cell (p := ⟨w4.heap.size, 0, none⟩) (by dsimp only; omega)).trans q0
  replace q1 := (hal.cell (p := ⟨w4.heap.size, 1, none⟩) (by dsimp only; omega)).trans q1
  replace q2 := (hal.cell (p := ⟨w4.heap.size, 2, none⟩) (by dsimp only; omega)).trans q2
  replace q3 := (hal.cell (p := ⟨w4.heap.size, 3, none⟩) (by dsimp only; omega)).trans q3
  replace q4 := (hal.cell (p := ⟨w4.heap.size, 4, none⟩) (by dsimp only; omega)).trans q4
  replace q5 := (hal.cell (p := ⟨w4.heap.size, 5, none⟩) (by dsimp only; omega)).trans q5
  replace qF := frz_below hal (by omega) qF
  replace r0 := (hal.cell (p := ⟨w6.heap.size, 0, none⟩) (by dsimp only; omega)).trans r0
  replace r1 := (hal.cell (p := ⟨w6.heap.size, 1, none⟩) (by dsimp only; omega)).trans r1
  replace r2 := (hal.cell (p := ⟨w6.heap.size, 2, none⟩) (by dsimp only; omega)).trans r2
  replace r3 := (hal.cell (p := ⟨w6.heap.size, 3, none⟩) (by dsimp only; omega)).trans r3
  replace r4 := (hal.cell (p := ⟨w6.heap.size, 4, none⟩) (by dsimp only; omega)).trans r4
  replace r5 := (hal.cell (p := ⟨w6.heap.size, 5, none⟩) (by dsimp only; omega)).trans r5
  replace rF := frz_below hal (by omega) rF
  have s0 : (w8.alloc (.cells #[.int .i64 2, .slice A4 3 c4, .int .i64 50, .int .i64 100, .slice B4 1 k4, .int .i64 0] 28)).cell? ⟨w8.heap.size, 0, none⟩ = some (.int .i64 2) := by simp [go_sem]
  have s1 : (w8.alloc (.cells #[.int .i64 2, .slice A4 3 c4, .int .i64 50, .int .i64 100, .slice B4 1 k4, .int .i64 0] 28)).cell? ⟨w8.heap.size, 1, none⟩ = some (.slice A4 3 c4) := by simp [go_sem]
  have s2 : (w8.alloc (.cells #[.int .i64 2, .slice A4 3 c4, .int .i64 50, .int .i64 100, .slice B4 1 k4, .int .i64 0] 28)).cell? ⟨w8.heap.size, 2, none⟩ = some (.int .i64 50) := by simp [go_sem]
  have s3 : (w8.alloc (.cells #[.int .i64 2, .slice A4 3 c4, .int .i64 50, .int .i64 100, .slice B4 1 k4, .int .i64 0] 28)).cell? ⟨w8.heap.size, 3, none⟩ = some (.int .i64 100) := by simp [go_sem]
  have s4 : (w8.alloc (.cells #[.int .i64 2, .slice A4 3 c4, .int .i64 50, .int .i64 100, .slice B4 1 k4, .int .i64 0] 28)).cell? ⟨w8.heap.size, 4, none⟩ = some (.slice B4 1 k4) := by simp [go_sem]
  have s5 : (w8.alloc (.cells #[.int .i64 2, .slice A4 3 c4, .int .i64 50, .int .i64 100, .slice B4 1 k4, .int .i64 0] 28)).cell? ⟨w8.heap.size, 5, none⟩ = some (.int .i64 0) := by simp [go_sem]
  have sF : ∀ j, (w8.alloc (.cells #[.int .i64 2, .slice A4 3 c4, .int .i64 50, .int .i64 100, .slice B4 1 k4, .int .i64 0] 28)).frozen? ⟨w8.heap.size, j, none⟩ = false := fun j => by simp [go_sem]
  have hz_w9 : (w8.alloc (.cells #[.int .i64 2, .slice A4 3 c4, .int .i64 50, .int .i64 100, .slice B4 1 k4, .int .i64 0] 28)).heap.size = w8.heap.size + 1 := by simp
  have hbw_w9 := hbw_w8.trans (hal.mono hbw_w8.size)
  generalize w8.alloc (.cells #[.int .i64 2, .slice A4 3 c4, .int .i64 50, .int .i64 100, .slice B4 1 k4, .int .i64 0] 28) = w9 at *
  replace hr3 := (hr3.below hal).more hal.size
  replace hs3 := (hs3.below hal).more hal.size
  replace hr5 := (hr5.below hal).more hal.size
  replace hs5 := (hs5.below hal).more hal.size
  replace hr7 := (hr7.below hal).more hal.size
  replace hs7 := (hs7.below hal).more hal.size
  clear hal
  have C := left_any hL A2 c2 B2 k2 w9 ⟨by decide, by decide⟩
  rw [lv8] at C
  replace C := Lib.hid C
  refine C.out.mono ?_
  rintro e w10 ⟨rfl, hb⟩
  dsimp only
  replace p0 := (hb.cell (p := ⟨w2.heap.size, 0, none⟩) (by dsimp only; omega)).trans p0
  replace p1 := (hb.cell (p := ⟨w2.heap.size, 1, none⟩) (by dsimp only; omega)).trans p1
  replace p2 := (hb.cell (p := ⟨w2.heap.size, 2, none⟩) (by dsimp only; omega)).trans p2
  replace p3 := (hb.cell (p := ⟨w2.heap.size, 3, none⟩) (by dsimp only; omega)).trans p3
  replace p4 := (hb.cell (p := ⟨w2.heap.size, 4, none⟩) (by dsimp only; omega)).trans p4
  replace p5 := (hb.cell (p := ⟨w2.heap.size, 5, none⟩) (by dsimp only; omega)).trans p5
  replace pF := frz_below hb (by omega) pF
  replace q0 := (hb.cell (p := ⟨w4.heap.size, 0, none⟩) (by dsimp only; omega)).trans q0
  replace q1 := (hb.cell (p := ⟨w4.heap.size, 1, none⟩) (by dsimp only; omega)).trans q1
  replace q2 := (hb.cell (p := ⟨w4.heap.size, 2, none⟩) (by dsimp only; omega)).trans q2
  replace q3 := (hb.cell (p := ⟨w4.heap.size, 3, none⟩) (by dsimp only; omega)).trans q3
  replace q4 := (hb.cell (p := ⟨w4.heap.size, 4, none⟩) (by dsimp only; omega)).trans q4
  replace q5 := (hb.cell (p := ⟨w4.heap.size, 5, none⟩) (by dsimp only; omega)).trans q5
  replace qF := frz_below hb (by omega) qF
  replace r0 := (hb.cell (p := ⟨w6.heap.size, 0, none⟩) (by dsimp only; omega)).trans r0
  replace r1 := (hb.cell (p := ⟨w6.heap.size, 1, none⟩) (by dsimp only; omega)).trans r1
  replace r2 := (hb.cell (p := ⟨w6.heap.size, 2, none⟩) (by dsimp only; omega)).trans r2
  replace r3 := (hb.cell (p := ⟨w6.heap.size, 3, none⟩) (by dsimp only; omega)).trans r3
  replace r4 := (hb.cell (p := ⟨w6.heap.size, 4, none⟩) (by dsimp only; omega)).trans r4
  replace r5 := (hb.cell (p := ⟨w6.heap.size, 5, none⟩) (by dsimp only; omega)).trans r5
  replace rF := frz_below hb (by omega) rF
  replace s0 := (hb.cell (p := ⟨w8.heap.size, 0, none⟩) (by dsimp only; omega)).trans s0
  replace s1 := (hb.cell (p := ⟨w8.heap.size, 1, none⟩) (by dsimp only; omega)).trans s1
  replace s2 := (hb.cell (p := ⟨w8.heap.size, 2, none⟩) (by dsimp only; omega)).trans s2
  replace s3 := (hb.cell (p := ⟨w8.heap.size, 3, none⟩) (by dsimp only; omega)).trans s3
  replace s4 := (hb.cell (p := ⟨w8.heap.size, 4, none⟩) (by dsimp only; omega)).trans s4
  replace s5 := (hb.cell (p := ⟨w8.heap.size, 5, none⟩) (by dsimp only; omega)).trans s5
  replace sF := frz_below hb (by omega) sF
  have hbw_w10 := hbw_w9.trans (hb.mono hbw_w9.size)
  have hz_w10 := hb.size
  replace hr3 := (hr3.below hb).more hb.size
  replace hs3 := (hs3.below hb).more hb.size
  replace hr5 := (hr5.below hb).more hb.size
  replace hs5 := (hs5.below hb).more hb.size
  replace hr7 := (hr7.below hb).more hb.size
  replace hs7 := (hs7.below hb).more hb.size
  clear hb C
  repeat' ((fail_if_success at_builtin); (first | go_skip | go_guarded | go_step))
  have hal := (Below.refl w10.heap.size w10).alloc (Nat.le_refl _) (.cells #[.string bAnn, .string bBob] 9)
  have hq2 : Seq (w10.alloc (.cells #[.string bAnn, .string bBob] 9)) (w10.heap.size + 1) 1 (some ⟨w10.heap.size, 0, none⟩) 2 (cellsS [bAnn, bBob]) := by
    refine ⟨rfl, fun _ => ⟨w10.heap.size, 0, rfl, by omega, fun j u hu => ?_⟩⟩
    match j, hu with
    | 0, hu => cases hu; simp [go_sem]
    | 1, hu => cases hu; simp [go_sem]
  replace p0 := (hal.cell (p := ⟨w2.heap.size, 0, none⟩) (by dsimp only; omega)).trans p0
  replace p1 := (hal.cell (p := ⟨w2.heap.size, 1, none⟩) (by dsimp only; omega)).trans p1
  replace p2 := (hal.cell (p := ⟨w2.heap.size, 2, none⟩) (by dsimp only; omega)).trans p2
  replace p3 := (hal.cell (p := ⟨w2.heap.size, 3, none⟩) (by dsimp only; omega)).trans p3
  replace p4 := (hal.cell (p := ⟨w2.heap.size, 4, none⟩) (by dsimp only; omega)).trans p4
  replace p5 := (hal.cell (p := ⟨w2.heap.size, 5, none⟩) (by dsimp only; omega)).trans p5
  replace pF := frz_below hal (by omega) pF
  replace q0 := (hal.cell (p := ⟨w4.heap.size, 0, none⟩) (by dsimp only; omega)).trans q0
  replace q1 := (hal.cell (p := ⟨w4.heap.size, 1, none⟩) (by dsimp only; omega)).trans q1
  replace q2 := (hal.cell (p := ⟨w4.heap.size, 2, none⟩) (by dsimp only; omega)).trans q2
  replace q3 := (hal.cell (p := ⟨w4.heap.size, 3, none⟩) (by dsimp only; omega)).trans q3
  replace q4 := (hal.cell (p := ⟨w4.heap.size, 4, none⟩) (by dsimp only; omega)).trans q4
  replace q5 := (hal.cell (p := ⟨w4.heap.size, 5, none⟩) (by dsimp only; omega)).trans q5
  replace qF := frz_below hal (by omega) qF
  replace r0 := (hal.cell (p := ⟨w6.heap.size, 0, none⟩) (by dsimp only; omega)).trans r0
  replace r1 := (hal.cell (p := ⟨w6.heap.size, 1, none⟩) (by dsimp only; omega)).trans r1
  replace r2 := (hal.cell (p := ⟨w6.heap.size, 2, none⟩) (by dsimp only; omega)).trans r2
  replace r3 := (hal.cell (p := ⟨w6.heap.size, 3, none⟩) (by dsimp only; omega)).trans r3
  replace r4 := (hal.cell (p := ⟨w6.heap.size, 4, none⟩) (by dsimp only; omega)).trans r4
  replace r5 := (hal.cell (p := ⟨w6.heap.size, 5, none⟩) (by dsimp only; omega)).trans r5
  replace rF := frz_below hal (by omega) rF
  replace s0 := (hal.cell (p := ⟨w8.heap.size, 0, none⟩) (by dsimp only; omega)).trans s0
  replace s1 := (hal.cell (p := ⟨w8.heap.size, 1, none⟩) (by dsimp only; omega)).trans s1
  replace s2 := (hal.cell (p := ⟨w8.heap.size, 2, none⟩) (by dsimp only; omega)).trans s2
  replace s3 := (hal.cell (p := ⟨w8.heap.size, 3, none⟩) (by dsimp only; omega)).trans s3
  replace s4 := (hal.cell (p := ⟨w8.heap.size, 4, none⟩) (by dsimp only; omega)).trans s4
  replace s5 := (hal.cell (p := ⟨w8.heap.size, 5, none⟩) (by dsimp only; omega)).trans s5
  replace sF := frz_below hal (by omega) sF
  replace hr3 := (hr3.below hal).more hal.size
  replace hs3 := (hs3.below hal).more hal.size
  replace hr5 := (hr5.below hal).more hal.size
  replace hs5 := (hs5.below hal).more hal.size
  replace hr7 := (hr7.below hal).more hal.size
  replace hs7 := (hs7.below hal).more hal.size
  have hbw_w11 := hbw_w10.trans (hal.mono hbw_w10.size)
  have hz_w11 := hal.size
  generalize w10.alloc (.cells #[.string bAnn, .string bBob] 9) = w11 at *
  clear hal
  have C := sameself_any [bAnn, bBob] B3 (some ⟨w10.heap.size, 0, none⟩) k3 2 w11.heap.size (w10.heap.size + 1) w11 hs7 hq2 (by decide)
  replace C := Lib.hid C
  refine C.out.mono ?_
  rintro e w12 ⟨rfl, hb⟩
  dsimp only
  replace p0 := (hb.cell (p := ⟨w2.heap.size, 0, none⟩) (by dsimp only; omega)).trans p0
  replace p1 := (hb.cell (p := ⟨w2.heap.size, 1, none⟩) (by dsimp only; omega)).trans p1
  replace p2 := (hb.cell (p := ⟨w2.heap.size, 2, none⟩) (by dsimp only; omega)).trans p2
  replace p3 := (hb.cell (p := ⟨w2.heap.size, 3, none⟩) (by dsimp only; omega)).trans p3
  replace p4 := (hb.cell (p := ⟨w2.heap.size, 4, none⟩) (by dsimp only; omega)).trans p4
  replace p5 := (hb.cell (p := ⟨w2.heap.size, 5, none⟩) (by dsimp only; omega)).trans p5
  replace pF := frz_below hb (by omega) pF
  replace q0 := (hb.cell (p := ⟨w4.heap.size, 0, none⟩) (by dsimp only; omega)).trans q0
  replace q1 := (hb.cell (p := ⟨w4.heap.size, 1, none⟩) (by dsimp only; omega)).trans q1
  replace q2 := (hb.cell (p := ⟨w4.heap.size, 2, none⟩) (by dsimp only; omega)).trans q2
  replace q3 := (hb.cell (p := ⟨w4.heap.size, 3, none⟩) (by dsimp only; omega)).trans q3
  replace q4 := (hb.cell (p := ⟨w4.heap.size, 4, none⟩) (by dsimp only; omega)).trans q4
  replace q5 := (hb.cell (p := ⟨w4.heap.size, 5, none⟩) (by dsimp only; omega)).trans q5
  replace qF := frz_below hb (by omega) qF
  replace r0 := (hb.cell (p := ⟨w6.heap.size, 0, none⟩) (by dsimp only; omega)).trans r0
  replace r1 := (hb.cell (p := ⟨w6.heap.size, 1, none⟩) (by dsimp only; omega)).trans r1
  replace r2 := (hb.cell (p := ⟨w6.heap.size, 2, none⟩) (by dsimp only; omega)).trans r2
  replace r3 := (hb.cell (p := ⟨w6.heap.size, 3, none⟩) (by dsimp only; omega)).trans r3
  replace r4 := (hb.cell (p := ⟨w6.heap.size, 4, none⟩) (by dsimp only; omega)).trans r4
  replace r5 := (hb.cell (p := ⟨w6.heap.size, 5, none⟩) (by dsimp only; omega)).trans r5
  replace rF := frz_below hb (by omega) rF
  replace s0 := (hb.cell (p := ⟨w8.heap.size, 0, none⟩) (by dsimp only; omega)).trans s0
  replace s1 := (hb.cell (p := ⟨w8.heap.size, 1, none⟩) (by dsimp only; omega)).trans s1
  replace s2 := (hb.cell (p := ⟨w8.heap.size, 2, none⟩) (by dsimp only; omega)).trans s2
  replace s3 := (hb.cell (p := ⟨w8.heap.size, 3, none⟩) (by dsimp only; omega)).trans s3
  replace s4 := (hb.cell (p := ⟨w8.heap.size, 4, none⟩) (by dsimp only; omega)).trans s4
  replace s5 := (hb.cell (p := ⟨w8.heap.size, 5, none⟩) (by dsimp only; omega)).trans s5
  replace sF := frz_below hb (by omega) sF
  have hbw_w12 := hbw_w11.trans (hb.mono hbw_w11.size)
  have hz_w12 := hb.size
  replace hr3 := (hr3.below hb).more hb.size
  replace hs3 := (hs3.below hb).more hb.size
  replace hr5 := (hr5.below hb).more hb.size
  replace hs5 := (hs5.below hb).more hb.size
  replace hr7 := (hr7.below hb).more hb.size
  replace hs7 := (hs7.below hb).more hb.size
  clear hb C hq2
  repeat' ((fail_if_success at_builtin); (first | go_skip | go_guarded | go_step))
  have C := expire_any gL A1 c1 B1 k1 150 w12 hr3 hs3 (by decide) (by decide) ⟨by decide, by decide⟩ ⟨by decide, by decide⟩
  rw [lv9] at C
  replace C := Lib.hid C
  refine C.out.mono ?_
  rintro e w13 ⟨A5, c5, B5, k5, rfl, hb, -, -⟩
  dsimp only
  replace p0 := (hb.cell (p := ⟨w2.heap.size, 0, none⟩) (by dsimp only; omega)).trans p0
  replace p1 := (hb.cell (p := ⟨w2.heap.size, 1, none⟩) (by dsimp only; omega)).trans p1
  replace p2 := (hb.cell (p := ⟨w2.heap.size, 2, none⟩) (by dsimp only; omega)).trans p2
  replace p3 := (hb.cell (p := ⟨w2.heap.size, 3, none⟩) (by dsimp only; omega)).trans p3
  replace p4 := (hb.cell (p := ⟨w2.heap.size, 4, none⟩) (by dsimp only; omega)).trans p4
  replace p5 := (hb.cell (p := ⟨w2.heap.size, 5, none⟩) (by dsimp only; omega)).trans p5
  replace pF := frz_below hb (by omega) pF
  replace q0 := (hb.cell (p := ⟨w4.heap.size, 0, none⟩) (by dsimp only; omega)).trans q0
  replace q1 := (hb.cell (p := ⟨w4.heap.size, 1, none⟩) (by dsimp only; omega)).trans q1
  replace q2 := (hb.cell (p := ⟨w4.heap.size, 2, none⟩) (by dsimp only; omega)).trans q2
  replace q3 := (hb.cell (p := ⟨w4.heap.size, 3, none⟩) (by dsimp only; omega)).trans q3
  replace q4 := (hb.cell (p := ⟨w4.heap.size, 4, none⟩) (by dsimp only; omega)).trans q4
  replace q5 := (hb.cell (p := ⟨w4.heap.size, 5, none⟩) (by dsimp only; omega)).trans q5
  replace qF := frz_below hb (by omega) qF
  replace r0 := (hb.cell (p := ⟨w6.heap.size, 0, none⟩) (by dsimp only; omega)).trans r0
  replace r1 := (hb.cell (p := ⟨w6.heap.size, 1, none⟩) (by dsimp only; omega)).trans r1
  replace r2 := (hb.cell (p := ⟨w6.heap.size, 2, none⟩) (by dsimp only; omega)).trans r2
  replace r3 := (hb.cell (p := ⟨w6.heap.size, 3, none⟩) (by dsimp only; omega)).trans r3
  replace r4 := (hb.cell (p := ⟨w6.heap.size, 4, none⟩) (by dsimp only; omega)).trans r4
  replace r5 := (hb.cell (p := ⟨w6.heap.size, 5, none⟩) (by dsimp only; omega)).trans r5
  replace rF := frz_below hb (by omega) rF
  replace s0 := (hb.cell (p := ⟨w8.heap.size, 0, none⟩) (by dsimp only; omega)).trans s0
  replace s1 := (hb.cell (p := ⟨w8.heap.size, 1, none⟩) (by dsimp only; omega)).trans s1
  replace s2 := (hb.cell (p := ⟨w8.heap.size, 2, none⟩) (by dsimp only; omega)).trans s2
  replace s3 := (hb.cell (p := ⟨w8.heap.size, 3, none⟩) (by dsimp only; omega)).trans s3
  replace s4 := (hb.cell (p := ⟨w8.heap.size, 4, none⟩) (by dsimp only; omega)).trans s4
  replace s5 := (hb.cell (p := ⟨w8.heap.size, 5, none⟩) (by dsimp only; omega)).trans s5
  replace sF := frz_below hb (by omega) sF
  have hbw_w13 := hbw_w12.trans (hb.mono hbw_w12.size)
  have hz_w13 := hb.size
  clear C
  repeat' ((fail_if_success at_builtin); (first | go_skip | go_guarded | go_step))
  have hf : (Instr.field 28 (.agg (garr xL A5 c5 B5 k5)) 3).run Tryd.prog w13 = .ok (.int .i64 3) w13 := by
    simp only [Instr.field, Sem.run_bind, run_underlying Tryd.underlying28]
    rfl
  rw [hf]
  simp only [Result.andThen, Oper.upon]
  repeat' ((fail_if_success at_builtin); (first | go_skip | go_guarded | go_step))
  go_ret
  exact ⟨rfl, hbw_w13⟩
end Go.Proofs.YtionchkblgpklaaDoor
