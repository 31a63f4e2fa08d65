/- awake: its contract. -/
import Derived.Test.YtlpeblgcniggmaaDoorTrFns
namespace Go.Proofs.YtlpeblgcniggmaaDoor
open Go.RowKit
theorem keepW {B w w' w'' : World} (hB : B.heap.size = w.heap.size + 4) (h : Below B.heap.size B w' ∧ w'.cell? ⟨w.heap.size + 1, 0, none⟩ = some (.string ⟨#[112]⟩) ∧ w'.cell? ⟨w.heap.size + 1, 1, none⟩ = some (.string ⟨#[102, 105, 120]⟩) ∧ w'.cell? ⟨w.heap.size + 1, 2, none⟩ = some (.bool false) ∧ w'.cell? ⟨w.heap.size + 1 + 1, 0, none⟩ = some (.string ⟨#[112]⟩) ∧ w'.cell? ⟨w.heap.size + 1 + 1, 1, none⟩ = some (.string ⟨#[109, 97, 105, 110]⟩) ∧ w'.cell? ⟨w.heap.size + 1 + 1, 2, none⟩ = some (.bool true) ∧ w'.cell? ⟨w.heap.size + 1 + 1 + 1, 0, none⟩ = some (.string ⟨#[112]⟩) ∧ w'.cell? ⟨w.heap.size + 1 + 1 + 1, 1, none⟩ = some (.int .i64 2) ∧ w'.cell? ⟨w.heap.size + 1 + 1 + 1, 2, none⟩ = some (.string ⟨#[109, 97, 105, 110]⟩)) (hc : Below w'.heap.size w' w'') : Below B.heap.size B w'' ∧ w''.cell? ⟨w.heap.size + 1, 0, none⟩ = some (.string ⟨#[112]⟩) ∧ w''.cell? ⟨w.heap.size + 1, 1, none⟩ = some (.string ⟨#[102, 105, 120]⟩) ∧ w''.cell? ⟨w.heap.size + 1, 2, none⟩ = some (.bool false) ∧ w''.cell? ⟨w.heap.size + 1 + 1, 0, none⟩ = some (.string ⟨#[112]⟩) ∧ w''.cell? ⟨w.heap.size + 1 + 1, 1, none⟩ = some (.string ⟨#[109, 97, 105, 110]⟩) ∧ w''.cell? ⟨w.heap.size + 1 + 1, 2, none⟩ = some (.bool true) ∧ w''.cell? ⟨w.heap.size + 1 + 1 + 1, 0, none⟩ = some (.string ⟨#[112]⟩) ∧ w''.cell? ⟨w.heap.size + 1 + 1 + 1, 1, none⟩ = some (.int .i64 2) ∧ w''.cell? ⟨w.heap.size + 1 + 1 + 1, 2, none⟩ = some (.string ⟨#[109, 97, 105, 110]⟩) :=
  ⟨h.1.trans (hc.mono h.1.size), (hc.cell (p := ⟨w.heap.size + 1, 0, none⟩) (Nat.lt_of_lt_of_le (by dsimp only; omega) h.1.size)).trans h.2.1, (hc.cell (p := ⟨w.heap.size + 1, 1, none⟩) (Nat.lt_of_lt_of_le (by dsimp only; omega) h.1.size)).trans h.2.2.1, (hc.cell (p := ⟨w.heap.size + 1, 2, none⟩) (Nat.lt_of_lt_of_le (by dsimp only; omega) h.1.size)).trans h.2.2.2.1, (hc.cell (p := ⟨w.heap.size + 1 + 1, 0, none⟩) (Nat.lt_of_lt_of_le (by dsimp only; omega) h.1.size)).trans h.2.2.2.2.1, (hc.cell (p := ⟨w.heap.size + 1 + 1, 1, none⟩) (Nat.lt_of_lt_of_le (by dsimp only; omega) h.1.size)).trans h.2.2.2.2.2.1, (hc.cell (p := ⟨w.heap.size + 1 + 1, 2, none⟩) (Nat.lt_of_lt_of_le (by dsimp only; omega) h.1.size)).trans h.2.2.2.2.2.2.1, (hc.cell (p := ⟨w.heap.size + 1 + 1 + 1, 0, none⟩) (Nat.lt_of_lt_of_le (by dsimp only; omega) h.1.size)).trans h.2.2.2.2.2.2.2.1, (hc.cell (p := ⟨w.heap.size + 1 + 1 + 1, 1, none⟩) (Nat.lt_of_lt_of_le (by dsimp only; omega) h.1.size)).trans h.2.2.2.2.2.2.2.2.1, (hc.cell (p := ⟨w.heap.size + 1 + 1 + 1, 2, none⟩) (Nat.lt_of_lt_of_le (by dsimp only; omega) h.1.size)).trans h.2.2.2.2.2.2.2.2.2⟩
abbrev bP : ByteArray := ⟨#[112]⟩
abbrev bMain : ByteArray := ⟨#[109, 97, 105, 110]⟩
abbrev bRel : ByteArray := ⟨#[114, 101, 108, 101, 97, 115, 101, 47, 42]⟩
abbrev bRel1 : ByteArray := ⟨#[114, 101, 108, 101, 97, 115, 101, 47, 49]⟩
abbrev bFix : ByteArray := ⟨#[102, 105, 120]⟩
theorem aw_l1 : lvlS ⟨bP, bRel1, false⟩ (toL [bMain, bRel]) = 2 := by kernel_rfl
theorem aw_l2 : lvlS ⟨bP, bFix, false⟩ (toL [bMain, bRel]) = 1 := by kernel_rfl
theorem aw_l3 : lvlS ⟨bP, bMain, true⟩ (toL [bMain, bRel]) = 0 := by kernel_rfl
theorem aw_m1 : mayR ⟨bP, bFix, false⟩ 1 ⟨bP, 2, bMain⟩ = true := by kernel_rfl
theorem aw_m2 : mayR ⟨bP, bFix, false⟩ 1 ⟨bP, 0, bFix⟩ = false := by kernel_rfl
theorem aw_m3 : mayR ⟨bP, bMain, true⟩ 0 ⟨bP, 2, bMain⟩ = true := by kernel_rfl
theorem aw_x1 : mayX 2 0 = false := by kernel_rfl
theorem aw_x2 : mayX 2 1 = true := by kernel_rfl
set_option maxRecDepth 100000 in
set_option maxHeartbeats 4000000 in
theorem awake_any (w : World) (hR : Ready w) : Calls Tryd.prog 10 #[] w fun e w' => e = .returned (.bool true) ∧ Below w.heap.size w w' := by
  go_enter Tryd.func10, Tryd.ntmps10
  repeat' ((fail_if_success at_builtin); (first | go_skip | go_guarded | go_step))
  generalize hw1 : World.alloc _ _ = w1
  have hz : w1.heap.size = w.heap.size + 4 := by rw [← hw1]; simp
  have hb1 : Below w.heap.size w w1 := by
    rw [← hw1]
    exact ((((Below.refl _ _).alloc (Nat.le_refl _) _).alloc (by simp) _).alloc (by simp; omega) _).alloc (by simp; omega) _
  have hq : Seq w1 w1.heap.size 1 (some ⟨w.heap.size, 0, none⟩) [bMain, bRel].length ([bMain, bRel].map Value.string) := by
    refine ⟨rfl, fun _ => ⟨w.heap.size, 0, rfl, by omega, fun j u hu => ?_⟩⟩
    rw [← hw1]
    match j, hu with
    | 0, hu => cases hu; simp [go_sem]
    | 1, hu => cases hu; simp [go_sem]
  have d0 : w1.cell? ⟨w.heap.size + 1, 0, none⟩ = some (.string ⟨#[112]⟩) := by rw [← hw1]; simp [go_sem]
  have d1 : w1.cell? ⟨w.heap.size + 1, 1, none⟩ = some (.string ⟨#[102, 105, 120]⟩) := by rw [← hw1]; simp [go_sem]
  have d2 : w1.cell? ⟨w.heap.size + 1, 2, none⟩ = some (.bool false) := by rw [← hw1]; simp [go_sem]
  have d3 : w1.cell? ⟨w.heap.size + 1 + 1, 0, none⟩ = some (.string ⟨#[112]⟩) := by rw [← hw1]; simp [go_sem]
  have d4 : w1.cell? ⟨w.heap.size + 1 + 1, 1, none⟩ = some (.string ⟨#[109, 97, 105, 110]⟩) := by rw [← hw1]; simp [go_sem]
  have d5 : w1.cell? ⟨w.heap.size + 1 + 1, 2, none⟩ = some (.bool true) := by rw [← hw1]; simp [go_sem]
  have d6 : w1.cell? ⟨w.heap.size + 1 + 1 + 1, 0, none⟩ = some (.string ⟨#[112]⟩) := by rw [← hw1]; simp [go_sem]
  have d7 : w1.cell? ⟨w.heap.size + 1 + 1 + 1, 1, none⟩ = some (.int .i64 2) := by rw [← hw1]; simp [go_sem]
  have d8 : w1.cell? ⟨w.heap.size + 1 + 1 + 1, 2, none⟩ = some (.string ⟨#[109, 97, 105, 110]⟩) := by rw [← hw1]; simp [go_sem]
  clear hw1
  have hRb := fun w' (h : Below w1.heap.size w1 w') => (hR.below hb1).below h
  have hsq := fun w' (h : Below w1.heap.size w1 w') => (hq.below h).more h.size
  have hps : ∀ p ∈ [bMain, bRel], p.size ≤ 1000000 := by
    intro p hp
    rcases List.mem_cons.1 hp with rfl | hp
    · decide
    · rw [List.mem_singleton.1 hp]; decide
  have L : ∀ w' (h : Below w1.heap.size w1 w' ∧ w'.cell? ⟨w.heap.size + 1, 0, none⟩ = some (.string ⟨#[112]⟩) ∧ w'.cell? ⟨w.heap.size + 1, 1, none⟩ = some (.string ⟨#[102, 105, 120]⟩) ∧ w'.cell? ⟨w.heap.size + 1, 2, none⟩ = some (.bool false) ∧ w'.cell? ⟨w.heap.size + 1 + 1, 0, none⟩ = some (.string ⟨#[112]⟩) ∧ w'.cell? ⟨w.heap.size + 1 + 1, 1, none⟩ = some (.string ⟨#[109, 97, 105, 110]⟩) ∧ w'.cell? ⟨w.heap.size + 1 + 1, 2, none⟩ = some (.bool true) ∧ w'.cell? ⟨w.heap.size + 1 + 1 + 1, 0, none⟩ = some (.string ⟨#[112]⟩) ∧ w'.cell? ⟨w.heap.size + 1 + 1 + 1, 1, none⟩ = some (.int .i64 2) ∧ w'.cell? ⟨w.heap.size + 1 + 1 + 1, 2, none⟩ = some (.string ⟨#[109, 97, 105, 110]⟩)) (p r : ByteArray) (f : Bool), p.size ≤ 1000000 → r.size ≤ 1000000 → Calls Tryd.prog 13 #[.agg #[.string p, .string r, .bool f], .slice (some ⟨w.heap.size, 0, none⟩) 2 2] w' fun e w2 => e = .returned (.int .i64 (lvlS ⟨p, r, f⟩ (toL [bMain, bRel]))) ∧ Below w'.heap.size w' w2 := fun w' h p r f h1 h2 => lev_any ⟨p, r, f⟩ [bMain, bRel] (some ⟨w.heap.size, 0, none⟩) 2 w' (hRb w' h.1) (hsq w' h.1) (by decide) hps h1 h2
  have M : ∀ w' (p r : ByteArray) (f : Bool) (t : Int) (sp : ByteArray) (st : Int) (sr : ByteArray), Calls Tryd.prog 17 #[.agg #[.string p, .string r, .bool f], .int .i64 t, .agg #[.string sp, .int .i64 st, .string sr]] w' fun e w2 => e = .returned (.bool (mayR ⟨p, r, f⟩ t ⟨sp, st, sr⟩)) ∧ Below w'.heap.size w' w2 := fun w' p r f t sp st sr => mayRead_any ⟨p, r, f⟩ t ⟨sp, st, sr⟩ w'
  have S1 : ∀ w' (p r : ByteArray) (f : Bool) (t : Int), Calls Tryd.prog 15 #[.agg #[.string p, .string r, .bool f], .int .i64 t] w' fun e w2 => e = .returned (.agg #[.string p, .int .i64 t, .string r]) ∧ Below w'.heap.size w' w2 := fun w' p r f t => scope_any ⟨p, r, f⟩ t w'
  have X := fun (k t : Int) w' => (run_any k t w').mono (fun e w2 h => (⟨h.1, h.2 ▸ Below.refl _ _⟩ : e = Ending.returned (.bool (mayX k t)) ∧ Below w'.heap.size w' w2))
  clear hRb hsq hps hq
  replace L := Lib.hid L
  replace M := Lib.hid M
  replace S1 := Lib.hid S1
  replace X := Lib.hid X
  have hS : Below w1.heap.size w1 w1.drew ∧ w1.drew.cell? ⟨w.heap.size + 1, 0, none⟩ = some (.string ⟨#[112]⟩) ∧ w1.drew.cell? ⟨w.heap.size + 1, 1, none⟩ = some (.string ⟨#[102, 105, 120]⟩) ∧ w1.drew.cell? ⟨w.heap.size + 1, 2, none⟩ = some (.bool false) ∧ w1.drew.cell? ⟨w.heap.size + 1 + 1, 0, none⟩ = some (.string ⟨#[112]⟩) ∧ w1.drew.cell? ⟨w.heap.size + 1 + 1, 1, none⟩ = some (.string ⟨#[109, 97, 105, 110]⟩) ∧ w1.drew.cell? ⟨w.heap.size + 1 + 1, 2, none⟩ = some (.bool true) ∧ w1.drew.cell? ⟨w.heap.size + 1 + 1 + 1, 0, none⟩ = some (.string ⟨#[112]⟩) ∧ w1.drew.cell? ⟨w.heap.size + 1 + 1 + 1, 1, none⟩ = some (.int .i64 2) ∧ w1.drew.cell? ⟨w.heap.size + 1 + 1 + 1, 2, none⟩ = some (.string ⟨#[109, 97, 105, 110]⟩) := ⟨(Below.refl _ _).drew, d0, d1, d2, d3, d4, d5, d6, d7, d8⟩
  have hS0 : Below w1.heap.size w1 w1 ∧ w1.cell? ⟨w.heap.size + 1, 0, none⟩ = some (.string ⟨#[112]⟩) ∧ w1.cell? ⟨w.heap.size + 1, 1, none⟩ = some (.string ⟨#[102, 105, 120]⟩) ∧ w1.cell? ⟨w.heap.size + 1, 2, none⟩ = some (.bool false) ∧ w1.cell? ⟨w.heap.size + 1 + 1, 0, none⟩ = some (.string ⟨#[112]⟩) ∧ w1.cell? ⟨w.heap.size + 1 + 1, 1, none⟩ = some (.string ⟨#[109, 97, 105, 110]⟩) ∧ w1.cell? ⟨w.heap.size + 1 + 1, 2, none⟩ = some (.bool true) ∧ w1.cell? ⟨w.heap.size + 1 + 1 + 1, 0, none⟩ = some (.string ⟨#[112]⟩) ∧ w1.cell? ⟨w.heap.size + 1 + 1 + 1, 1, none⟩ = some (.int .i64 2) ∧ w1.cell? ⟨w.heap.size + 1 + 1 + 1, 2, none⟩ = some (.string ⟨#[109, 97, 105, 110]⟩) := ⟨(Below.refl _ _), d0, d1, d2, d3, d4, d5, d6, d7, d8⟩
  go_region_held3 (fun w' => Below w1.heap.size w1 w' ∧ w'.cell? ⟨w.heap.size + 1, 0, none⟩ = some (.string ⟨#[112]⟩) ∧ w'.cell? ⟨w.heap.size + 1, 1, none⟩ = some (.string ⟨#[102, 105, 120]⟩) ∧ w'.cell? ⟨w.heap.size + 1, 2, none⟩ = some (.bool false) ∧ w'.cell? ⟨w.heap.size + 1 + 1, 0, none⟩ = some (.string ⟨#[112]⟩) ∧ w'.cell? ⟨w.heap.size + 1 + 1, 1, none⟩ = some (.string ⟨#[109, 97, 105, 110]⟩) ∧ w'.cell? ⟨w.heap.size + 1 + 1, 2, none⟩ = some (.bool true) ∧ w'.cell? ⟨w.heap.size + 1 + 1 + 1, 0, none⟩ = some (.string ⟨#[112]⟩) ∧ w'.cell? ⟨w.heap.size + 1 + 1 + 1, 1, none⟩ = some (.int .i64 2) ∧ w'.cell? ⟨w.heap.size + 1 + 1 + 1, 2, none⟩ = some (.string ⟨#[109, 97, 105, 110]⟩))
    (first | exact hS | exact hS0 | exact keepW hz (by assumption) hbq)
    (first
      | (go_at_call 13; refine (L.out _ (by assumption) _ _ _ (by decide) (by decide)).mono ?_; rintro e w7 ⟨rfl, hbq⟩; dsimp only; simp only [aw_l1, aw_l2, aw_l3])
      | (go_at_call 17; refine (M.out _ _ _ _ _ _ _ _).mono ?_; rintro e w7 ⟨rfl, hbq⟩; dsimp only; simp only [aw_m1, aw_m2, aw_m3])
      | (go_at_call 15; refine (S1.out _ _ _ _ _).mono ?_; rintro e w7 ⟨rfl, hbq⟩; dsimp only)
      | (go_at_call 19; refine (X.out _ _ _).mono ?_; rintro e w7 ⟨rfl, hbq⟩; dsimp only; simp only [aw_x1, aw_x2]))
  all_goals
    repeat' ((fail_if_success at_builtin); (first | go_skip | go_guarded | go_step))
    go_ret
    exact ⟨rfl, hb1.trans (Below.mono (And.left (by assumption)) hb1.size)⟩
end Go.Proofs.YtlpeblgcniggmaaDoor
