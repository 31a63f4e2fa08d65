/- The law about expiry. -/
import Derived.Test.YtionchkblgpklaaDoorGtL
namespace Go.Proofs.YtionchkblgpklaaDoor
open Go.RowKit
theorem expG_len (g : Gt) (now : Int) : (expG g now).s.who.length = g.s.who.length ∧ (expG g now).yes.length = g.yes.length := by
  unfold expG
  split <;> exact ⟨rfl, rfl⟩
set_option maxRecDepth 100000 in
set_option maxHeartbeats 4000000 in
theorem expires_law (g : Gt) (A : Option Addr) (c : Nat) (A' : Option Addr) (c' : Nat) (now : Int) (w : World) (hs : Seq w w.heap.size 1 A g.s.who.length (cellsS g.s.who)) (hs' : Seq w w.heap.size 1 A' g.yes.length (cellsS g.yes)) (hl : g.s.who.length ≤ 9223372036854775807) (hm : ∀ s ∈ g.s.who, s.size ≤ 9223372036854775807) (hl' : g.yes.length ≤ 9223372036854775807) (hm' : ∀ s ∈ g.yes, s.size ≤ 9223372036854775807) (h1 : I64 g.opened) (h2 : I64 g.s.exp) (h3 : I64 g.s.app) : Calls Tryd.prog 5 #[.agg (garr g A c A' c'), .int .i64 now] w fun e w' => e = .returned (.bool true) ∧ Below w.heap.size w w' := by
  have hb1 := (Below.refl w.heap.size w).alloc (Nat.le_refl _) (.cells (garr g A c A' c') 28)
  have hz : (w.alloc (.cells (garr g A c A' c') 28)).heap.size = w.heap.size + 1 := by simp
  have d0 : ((w.alloc (.cells (garr g A c A' c') 28))).cell? ⟨w.heap.size, 0, none⟩ = some (.int .i64 g.s.app) := by simp [go_sem]
  have d1 : ((w.alloc (.cells (garr g A c A' c') 28))).cell? ⟨w.heap.size, 1, none⟩ = some (.slice A g.s.who.length c) := by simp [go_sem]
  have d2 : ((w.alloc (.cells (garr g A c A' c') 28))).cell? ⟨w.heap.size, 2, none⟩ = some (.int .i64 g.s.exp) := by simp [go_sem]
  have d3 : ((w.alloc (.cells (garr g A c A' c') 28))).cell? ⟨w.heap.size, 3, none⟩ = some (.int .i64 g.opened) := by simp [go_sem]
  have d4 : ((w.alloc (.cells (garr g A c A' c') 28))).cell? ⟨w.heap.size, 4, none⟩ = some (.slice A' g.yes.length c') := by simp [go_sem]
  have d5 : ((w.alloc (.cells (garr g A c A' c') 28))).cell? ⟨w.heap.size, 5, none⟩ = some (.int .i64 g.state) := by simp [go_sem]
  have dF : ∀ j, ((w.alloc (.cells (garr g A c A' c') 28))).frozen? ⟨w.heap.size, j, none⟩ = false := fun j => by simp [go_sem]
  go_enter Tryd.func5, Tryd.ntmps5
  repeat' ((fail_if_success at_builtin); (first | go_skip | go_guarded | go_step))
  generalize (w.alloc (.cells (garr g A c A' c') 28)) = w1 at *
  have hs1 := (hs.below hb1).more hb1.size
  have hs1' := (hs'.below hb1).more hb1.size
  refine (small_any g A c A' c' w1 hs1 hs1' hl hm hl' hm').mono ?_
  rintro e w2 ⟨rfl, hb2⟩
  dsimp only
  replace d0 := (hb2.cell (p := ⟨w.heap.size, 0, none⟩) (by dsimp only; omega)).trans d0
  replace d1 := (hb2.cell (p := ⟨w.heap.size, 1, none⟩) (by dsimp only; omega)).trans d1
  replace d2 := (hb2.cell (p := ⟨w.heap.size, 2, none⟩) (by dsimp only; omega)).trans d2
  replace d3 := (hb2.cell (p := ⟨w.heap.size, 3, none⟩) (by dsimp only; omega)).trans d3
  replace d4 := (hb2.cell (p := ⟨w.heap.size, 4, none⟩) (by dsimp only; omega)).trans d4
  replace d5 := (hb2.cell (p := ⟨w.heap.size, 5, none⟩) (by dsimp only; omega)).trans d5
  replace dF := frz_below hb2 (by omega) dF
  have hbw_w2 := hb1.trans (hb2.mono hb1.size)
  have hz2 := hb2.size
  have hr2 := (hs1.below hb2).more hb2.size
  have hr2' := (hs1'.below hb2).more hb2.size
  clear hb2 hs1 hs1' dF
  cases hf : (fewL g.s.who && fewL g.yes) with
  | false =>
    repeat' ((fail_if_success at_builtin); (first | go_skip | go_guarded | go_step))
    refine (lives_any _).mono ?_
    rintro e wl ⟨rfl, hbl⟩
    dsimp only
    repeat' ((fail_if_success at_builtin); (first | go_skip | go_guarded | go_step))
    go_ret
    exact ⟨rfl, hbw_w2.trans (hbl.mono hbw_w2.size)⟩
  | true =>
    obtain ⟨f1, f2⟩ := Bool.and_eq_true_iff.1 hf
    obtain ⟨n1, n2⟩ := fewL_out f1
    obtain ⟨n3, n4⟩ := fewL_out f2
    clear hf f1 f2
    have eg1 := expG_len g now
    have CE := fun w' (h : Below w2.heap.size w2 w' ∧ w'.cell? ⟨w.heap.size, 0, none⟩ = some (.int .i64 g.s.app) ∧ w'.cell? ⟨w.heap.size, 1, none⟩ = some (.slice A g.s.who.length c) ∧ w'.cell? ⟨w.heap.size, 2, none⟩ = some (.int .i64 g.s.exp) ∧ w'.cell? ⟨w.heap.size, 3, none⟩ = some (.int .i64 g.opened) ∧ w'.cell? ⟨w.heap.size, 4, none⟩ = some (.slice A' g.yes.length c') ∧ w'.cell? ⟨w.heap.size, 5, none⟩ = some (.int .i64 g.state)) => expire_any g A c A' c' now w' ((hr2.below h.1).more h.1.size) ((hr2'.below h.1).more h.1.size) (by omega) (by omega) h1 h2
    have CR := fun w' (h : Below w2.heap.size w2 w' ∧ w'.cell? ⟨w.heap.size, 0, none⟩ = some (.int .i64 g.s.app) ∧ w'.cell? ⟨w.heap.size, 1, none⟩ = some (.slice A g.s.who.length c) ∧ w'.cell? ⟨w.heap.size, 2, none⟩ = some (.int .i64 g.s.exp) ∧ w'.cell? ⟨w.heap.size, 3, none⟩ = some (.int .i64 g.opened) ∧ w'.cell? ⟨w.heap.size, 4, none⟩ = some (.slice A' g.yes.length c') ∧ w'.cell? ⟨w.heap.size, 5, none⟩ = some (.int .i64 g.state)) => refExpire_any g A c A' c' now w' ((hr2.below h.1).more h.1.size) ((hr2'.below h.1).more h.1.size) h1 h2
    have CL := fun w' => left_any g A c A' c' w' h3
    have CM := fun w' => refLeft_any g A c A' c' w' h3
    have CV := fun w' => lives_any w'
    have x1 : (expG g now).s.who.length ≤ 100000 := by omega
    have x2 : (expG g now).yes.length ≤ 100000 := by omega
    generalize expG g now = eg at *
    generalize leftG g = lg at *
    replace x1 := Lib.hid x1
    replace x2 := Lib.hid x2
    clear eg1 n1 n2 n3 n4
    replace CE := Lib.hid CE
    replace CR := Lib.hid CR
    replace CL := Lib.hid CL
    replace CM := Lib.hid CM
    replace CV := Lib.hid CV
    have keepT : ∀ w' w'', (Below w2.heap.size w2 w' ∧ w'.cell? ⟨w.heap.size, 0, none⟩ = some (.int .i64 g.s.app) ∧ w'.cell? ⟨w.heap.size, 1, none⟩ = some (.slice A g.s.who.length c) ∧ w'.cell? ⟨w.heap.size, 2, none⟩ = some (.int .i64 g.s.exp) ∧ w'.cell? ⟨w.heap.size, 3, none⟩ = some (.int .i64 g.opened) ∧ w'.cell? ⟨w.heap.size, 4, none⟩ = some (.slice A' g.yes.length c') ∧ w'.cell? ⟨w.heap.size, 5, none⟩ = some (.int .i64 g.state)) → Below w'.heap.size w' w'' → (Below w2.heap.size w2 w'' ∧ w''.cell? ⟨w.heap.size, 0, none⟩ = some (.int .i64 g.s.app) ∧ w''.cell? ⟨w.heap.size, 1, none⟩ = some (.slice A g.s.who.length c) ∧ w''.cell? ⟨w.heap.size, 2, none⟩ = some (.int .i64 g.s.exp) ∧ w''.cell? ⟨w.heap.size, 3, none⟩ = some (.int .i64 g.opened) ∧ w''.cell? ⟨w.heap.size, 4, none⟩ = some (.slice A' g.yes.length c') ∧ w''.cell? ⟨w.heap.size, 5, none⟩ = some (.int .i64 g.state)) := fun w' w'' h hc => ⟨h.1.trans (hc.mono h.1.size), (hc.cell (p := ⟨w.heap.size, 0, none⟩) (by have := h.1.size; dsimp only; omega)).trans h.2.1, (hc.cell (p := ⟨w.heap.size, 1, none⟩) (by have := h.1.size; dsimp only; omega)).trans h.2.2.1, (hc.cell (p := ⟨w.heap.size, 2, none⟩) (by have := h.1.size; dsimp only; omega)).trans h.2.2.2.1, (hc.cell (p := ⟨w.heap.size, 3, none⟩) (by have := h.1.size; dsimp only; omega)).trans h.2.2.2.2.1, (hc.cell (p := ⟨w.heap.size, 4, none⟩) (by have := h.1.size; dsimp only; omega)).trans h.2.2.2.2.2.1, (hc.cell (p := ⟨w.heap.size, 5, none⟩) (by have := h.1.size; dsimp only; omega)).trans h.2.2.2.2.2.2⟩
    have hT : Below w2.heap.size w2 w2.drew ∧ w2.drew.cell? ⟨w.heap.size, 0, none⟩ = some (.int .i64 g.s.app) ∧ w2.drew.cell? ⟨w.heap.size, 1, none⟩ = some (.slice A g.s.who.length c) ∧ w2.drew.cell? ⟨w.heap.size, 2, none⟩ = some (.int .i64 g.s.exp) ∧ w2.drew.cell? ⟨w.heap.size, 3, none⟩ = some (.int .i64 g.opened) ∧ w2.drew.cell? ⟨w.heap.size, 4, none⟩ = some (.slice A' g.yes.length c') ∧ w2.drew.cell? ⟨w.heap.size, 5, none⟩ = some (.int .i64 g.state) := ⟨(Below.refl _ _).drew, d0, d1, d2, d3, d4, d5⟩
    have hT0 : Below w2.heap.size w2 w2 ∧ w2.cell? ⟨w.heap.size, 0, none⟩ = some (.int .i64 g.s.app) ∧ w2.cell? ⟨w.heap.size, 1, none⟩ = some (.slice A g.s.who.length c) ∧ w2.cell? ⟨w.heap.size, 2, none⟩ = some (.int .i64 g.s.exp) ∧ w2.cell? ⟨w.heap.size, 3, none⟩ = some (.int .i64 g.opened) ∧ w2.cell? ⟨w.heap.size, 4, none⟩ = some (.slice A' g.yes.length c') ∧ w2.cell? ⟨w.heap.size, 5, none⟩ = some (.int .i64 g.state) := ⟨Below.refl _ _, d0, d1, d2, d3, d4, d5⟩
    replace keepT := Lib.hid keepT
    repeat' ((fail_if_success at_builtin); (first | go_skip | go_guarded | go_step))
    go_region_held3 (fun w' => Below w2.heap.size w2 w' ∧ w'.cell? ⟨w.heap.size, 0, none⟩ = some (.int .i64 g.s.app) ∧ w'.cell? ⟨w.heap.size, 1, none⟩ = some (.slice A g.s.who.length c) ∧ w'.cell? ⟨w.heap.size, 2, none⟩ = some (.int .i64 g.s.exp) ∧ w'.cell? ⟨w.heap.size, 3, none⟩ = some (.int .i64 g.opened) ∧ w'.cell? ⟨w.heap.size, 4, none⟩ = some (.slice A' g.yes.length c') ∧ w'.cell? ⟨w.heap.size, 5, none⟩ = some (.int .i64 g.state))
      (first | exact hT | exact hT0 | exact keepT.out _ _ (by assumption) hbq)
      (first
        | (go_at_call 20; refine (CE.out _ (by assumption)).mono ?_; rintro e w7 ⟨A5, c5, B5, k5, rfl, hbq, hE1, hE2⟩; dsimp only)
        | (go_at_call 21; refine (CR.out _ (by assumption)).mono ?_; rintro e w7 ⟨A6, c6, B6, k6, rfl, hbq, hR1, hR2⟩; dsimp only)
        | (go_at_call 14; (first | refine (same_any eg A5 c5 B5 k5 A6 c6 B6 k6 _ ((Seq.below hE1 hbq).more hbq.size) ((Seq.below hE2 hbq).more hbq.size) hR1 hR2 x1.out x2.out).mono ?_ | refine (same_any eg A5 c5 B5 k5 A6 c6 B6 k6 _ hE1 hE2 ((Seq.below hR1 hbq).more hbq.size) ((Seq.below hR2 hbq).more hbq.size) x1.out x2.out).mono ?_); rintro e w7 ⟨rfl, hbq⟩; dsimp only)
        | (go_at_call 22; refine (CL.out _).mono ?_; rintro e w7 ⟨rfl, hbq⟩; dsimp only)
        | (go_at_call 23; refine (CM.out _).mono ?_; rintro e w7 ⟨rfl, hbq⟩; dsimp only)
        | (go_at_call 9; refine (CV.out _).mono ?_; rintro e w7 ⟨rfl, hbq⟩; dsimp only))
    all_goals
      repeat' ((fail_if_success at_builtin); (first | go_skip | go_guarded | go_step))
      go_ret
      exact ⟨rfl, hbw_w2.trans (Below.mono (And.left (by assumption)) hbw_w2.size)⟩
end Go.Proofs.YtionchkblgpklaaDoor
