/- Cache: the laws New, Restores. -/
import Derived.Test.YtpdlapdnjmoaoaaDoorCaA
import Derived.Test.YtpdlapdnjmoaoaaDoorCaRR
import Derived.Test.YtpdlapdnjmoaoaaDoorCaFw
import Derived.Test.YtpdlapdnjmoaoaaDoorCaS
namespace Go.Proofs.YtpdlapdnjmoaoaaDoor
open Go.RowKit
theorem ent_eql_self (a : Ent) (w : World) : (binOp .eql 42 (.agg #[.string a.sc.prj, .int .i64 a.sc.trust, .string a.sc.ref, .string a.key, .int .u64 a.dig, .int .i64 a.size, .int .i64 a.created, .int .i64 a.used]) (.agg #[.string a.sc.prj, .int .i64 a.sc.trust, .string a.sc.ref, .string a.key, .int .u64 a.dig, .int .i64 a.size, .int .i64 a.created, .int .i64 a.used])).run Tryd.prog w = .ok (.bool true) w := by
  have hS : Tryd.prog.underlying 42 = some (.struct (Tryd.prog.fieldsOf 42)) := by kernel_rfl
  have hp : Tryd.prog.stoodInHeld 42 = false := by kernel_rfl
  have hS2 : Tryd.prog.underlying 38 = some (.struct (Tryd.prog.fieldsOf 38)) := by kernel_rfl
  have hp2 : Tryd.prog.stoodInHeld 38 = false := by kernel_rfl
  have hsc : ∀ w, (Op.equalIn 9999 38 (.agg #[.string a.sc.prj, .int .i64 a.sc.trust, .string a.sc.ref]) (.agg #[.string a.sc.prj, .int .i64 a.sc.trust, .string a.sc.ref])).run Tryd.prog w = .ok true w := by
    intro w
    rw [show (9999 : Nat) = 9998 + 1 from rfl, run_equalIn_agg w 9998 38 _ _ hS2 hp2]
    simp only [Program.fieldsOf, Tryd.underlying38]
    go_simp
  rw [run_eql_struct, show (10000 : Nat) = 9999 + 1 from rfl, run_equalIn_agg w 9999 42 _ _ hS hp]
  simp only [Program.fieldsOf, Tryd.underlying42]
  go_simp
set_option maxRecDepth 100000 in
set_option maxHeartbeats 1000000 in
theorem new_law (z : Int) (w : World) (hR : Ready w) : Calls Tryd.prog 4 #[.int .i64 z] w (fun e w' => e = .returned (.bool true) ∧ Below w.heap.size w w') := by
  go_enter Tryd.func4, Tryd.ntmps4
  repeat' ((fail_if_success at_builtin); (first | go_skip | go_guarded | go_step))
  have C1 := fun w' => new_any z w'
  have C2 := fun w' => refNew_any z w'
  generalize (if inR z 0 1099511627776 = true then z else 0) = y at *
  generalize (if inR z 0 1099511627776 = true then (0 : Int) else 2) = r at *
  refine (C1 w).mono ?_
  rintro e w1 ⟨rfl, hb1⟩
  dsimp only
  repeat' ((fail_if_success at_builtin); (first | go_skip | go_guarded | go_step))
  have hC := CAx.fresh (w := w) (c := 0) hb1 y (l := []) rfl (seqE_nil _ _ none)
  generalize World.alloc w1 _ = w2 at *
  generalize w1.heap.size = b at *
  refine (C2 w2).mono ?_
  rintro e w3 ⟨rfl, hb3⟩
  dsimp only
  replace hC := hC.at hb3
  repeat' ((fail_if_success at_builtin); (first | go_skip | go_guarded | go_step))
  have hD := CAx.fresh (w := w) (c := 0) hC.below y (l := []) rfl (seqE_nil _ _ none)
  replace hC := hC.at ((Below.refl _ _).alloc (Nat.le_refl _) (.cells #[.int .i64 y, .slice none 0 0] 24))
  generalize World.alloc w3 _ = w4 at *
  generalize w3.heap.size = d at *
  have k0 := hC.c0
  have k1 : w4.cell? ⟨b, 1, none⟩ = some (.slice none 0 0) := hC.c1
  have kl := hC.lo
  have d0 := hD.c0
  have d1 : w4.cell? ⟨d, 1, none⟩ = some (.slice none 0 0) := hD.c1
  have dl := hD.lo
  have hbw := hC.below
  clear hC hD hb1 hb3
  go_simp
  repeat' ((fail_if_success at_builtin); (first | go_skip | go_guarded | go_step))
  refine (same_any y y [] [] none none 0 0 0 0 w4 rfl (seqE_nil _ _ _) rfl (seqE_nil _ _ _) (by omega) (by omega)).mono ?_
  rintro e w5 ⟨rfl, hb5⟩
  dsimp only
  rw [beq_self_eq_true, Bool.true_and, sameL_self]
  have hbw := hbw.trans (hb5.mono hbw.size)
  repeat' ((fail_if_success at_builtin); (first | go_skip | go_guarded | go_step))
  refine (awake_any w5 (hR.below hbw)).mono ?_
  rintro e w6 ⟨rfl, hb6⟩
  dsimp only
  repeat' ((fail_if_success at_builtin); (first | go_skip | go_guarded | go_step))
  go_ret
  exact ⟨rfl, hbw.trans (hb6.mono hbw.size)⟩
set_option maxRecDepth 100000 in
set_option maxHeartbeats 4000000 in
theorem restores_law (l : List Ent) (A : Option Addr) (n c : Nat) (k : ByteArray) (ps : List ByteArray) (A2 : Option Addr) (m c2 : Nat) (w : World) (hR : Ready w) (hn : n = l.length) (hs : Seq w w.heap.size 8 A n (entsC l)) (hl : n ≤ 9223372036854775807) (hx : ∀ x ∈ l, x.text) (hm : m = ps.length) (hs2 : Seq w w.heap.size 1 A2 m (ps.map Value.string)) (hl2 : m ≤ 9223372036854775807) (hk : k.size ≤ 9223372036854775807) :
    Calls Tryd.prog 7 #[.slice A n c, .string k, .slice A2 m c2] w (fun e w' => e = .returned (.bool true) ∧ Below w.heap.size w w') := by
  have C1 := few_any l A n c w hn hs hl hx
  have CA := fun w' (h : Below w.heap.size w w') => awake_any w' (hR.below h)
  have C2 := fun w' (h : Below w.heap.size w w') (h1 : n ≤ 1000000000) (h2 : m ≤ 1000000000) => restore_any l A n c k ps A2 m c2 w' hn ((hs.below h).more h.size) h1 hm ((hs2.below h).more h.size) h2
  have C3 := fun w' (h : Below w.heap.size w w') (h1 : n ≤ 1000000000) (h2 : m ≤ 1000000000) => refRestore_any l A n c k ps A2 m c2 w' hn ((hs.below h).more h.size) h1 hm ((hs2.below h).more h.size) h2
  generalize restoreS l k ps = o at *
  have hq := ent_eql_self (o.getD zeroE)
  have hfl := @few_len l
  rw [← hn] at hfl
  generalize fewE l = fw at *
  replace C1 := Lib.hid C1
  replace CA := Lib.hid CA
  replace C2 := Lib.hid C2
  replace C3 := Lib.hid C3
  replace hn := Lib.hid hn
  replace hm := Lib.hid hm
  clear hs hs2 hx
  go_enter Tryd.func7, Tryd.ntmps7
  repeat' ((fail_if_success at_builtin); (first | go_skip | go_guarded | go_step))
  refine C1.out.mono ?_
  rintro e w1 ⟨rfl, hb1⟩
  dsimp only
  cases fw with
  | false =>
    repeat' ((fail_if_success at_builtin); (first | go_skip | go_guarded | go_step))
    refine (CA.out _ hb1).mono ?_
    rintro e w2 ⟨rfl, hb2⟩
    dsimp only
    repeat' ((fail_if_success at_builtin); (first | go_skip | go_guarded | go_step))
    go_ret
    exact ⟨rfl, hb1.trans (hb2.mono hb1.size)⟩
  | true =>
    have h25 := hfl rfl
    by_cases g1 : 600 < k.size
    · have g1' : (600 : Int) < (k.size : Int) := by omega
      repeat' ((fail_if_success at_builtin); (first | go_skip | go_guarded | go_step))
      refine (CA.out _ hb1).mono ?_
      rintro e w2 ⟨rfl, hb2⟩
      dsimp only
      repeat' ((fail_if_success at_builtin); (first | go_skip | go_guarded | go_step))
      go_ret
      exact ⟨rfl, hb1.trans (hb2.mono hb1.size)⟩
    · have g1' : ¬ ((600 : Int) < (k.size : Int)) := by omega
      by_cases g2 : 10 < m
      · have g2' : (10 : Int) < (m : Int) := by omega
        repeat' ((fail_if_success at_builtin); (first | go_skip | go_guarded | go_step))
        refine (CA.out _ hb1).mono ?_
        rintro e w2 ⟨rfl, hb2⟩
        dsimp only
        repeat' ((fail_if_success at_builtin); (first | go_skip | go_guarded | go_step))
        go_ret
        exact ⟨rfl, hb1.trans (hb2.mono hb1.size)⟩
      · have g2' : ¬ ((10 : Int) < (m : Int)) := by omega
        repeat' ((fail_if_success at_builtin); (first | go_skip | go_guarded | go_step))
        refine (C2.out _ hb1 (by omega) (by omega)).mono ?_
        rintro e w2 ⟨rfl, hb2⟩
        dsimp only
        have hb2 := hb1.trans (hb2.mono hb1.size)
        repeat' ((fail_if_success at_builtin); (first | go_skip | go_guarded | go_step))
        generalize hw3 : World.alloc w2 _ = w3
        have hb3 : Below w2.heap.size w2 w3 := by rw [← hw3]; exact (Below.refl _ _).alloc (Nat.le_refl _) _
        have x3 : CellsE w3 w2.heap.size 0 (o.getD zeroE) := by rw [← hw3]; exact ⟨by simp [go_sem], by simp [go_sem], by simp [go_sem], by simp [go_sem], by simp [go_sem], by simp [go_sem], by simp [go_sem], by simp [go_sem]⟩
        have z3 : w2.heap.size < w3.heap.size := by rw [← hw3]; simp
        clear hw3
        have hb3 := hb2.trans (hb3.mono hb2.size)
        refine (C3.out _ hb3 (by omega) (by omega)).mono ?_
        rintro e w4 ⟨rfl, hb4⟩
        dsimp only
        have x4 := x3.map (fun j => hb4.cell (p := ⟨w2.heap.size, 0 + j, none⟩) z3)
        have z4 : w2.heap.size < w4.heap.size := Nat.lt_of_lt_of_le z3 hb4.size
        have hb4 := hb3.trans (hb4.mono hb3.size)
        generalize w2.heap.size = b2 at *
        clear x3 z3
        obtain ⟨g0, g1, g2, g3, g4, g5, g6, g7⟩ := x4
        simp only [Nat.zero_add] at g1 g2 g3 g4 g5 g6 g7
        have hc5 := hb4.trans (((Below.refl _ _).alloc (Nat.le_refl _) (.cells (ent8 (o.getD zeroE)) 42)).mono hb4.size)
        cases hos : o.isSome
        all_goals
          repeat' ((fail_if_success at_builtin); (first | go_skip | go_guarded | go_step))
          refine (CA.out _ hc5).mono ?_
          rintro e w7 ⟨rfl, hb7⟩
          dsimp only
          repeat' ((fail_if_success at_builtin); (first | go_skip | go_guarded | go_step))
          go_ret
          exact ⟨rfl, hc5.trans (hb7.mono hc5.size)⟩
end Go.Proofs.YtpdlapdnjmoaoaaDoor
