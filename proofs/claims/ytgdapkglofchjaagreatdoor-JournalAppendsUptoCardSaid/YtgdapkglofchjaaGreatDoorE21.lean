/- Joined: JnE. -/
import Derived.Test.YtgdapkglofchjaaGreatDoorE7
import Derived.Test.YtgdapkglofchjaaGreatDoorE20
set_option maxRecDepth 100000
set_option maxHeartbeats 4000000
set_option linter.unusedVariables false
namespace Go.Proofs.YtgdapkglofchjaaGreatDoor
open Go.RowKit
def RSame (f : Flds) : Prop := ∀ (g : Flds) (A1 : Option Addr) (c1 : Nat) (cs1 : List Value) (A2 : Option Addr) (c2 : Nat) (cs2 : List Value) (w : World) (B : Nat), B ≤ w.heap.size → Seq w B 4 A1 f.length cs1 → RepF w B f cs1 → Seq w B 4 A2 g.length cs2 → RepF w B g cs2 → f.size ≤ 1000000000 → g.size ≤ 1000000000 →
 Calls Tryz.prog 34 #[.slice A1 f.length c1, .slice A2 g.length c2] w fun e w' => e = .returned (.bool (eqF f g)) ∧ Below w.heap.size w w'
theorem rsame_body (f : Flds) (ih : ∀ i k x s sub, f.get? i = some (k, x, s, sub) → RSame sub) : RSame f := by
 intro g A1 c1 cs1 A2 c2 cs2 w B hB hs1 hr1 hs2 hr2 hsz hsz'
 have hlen := Flds.length_le_size f
 have hlen' := Flds.length_le_size g
 have Ih := Lib.hid ih; clear ih
 by_cases hfg : f.length = g.length
 ·have hn : ((f.length : Int) == (g.length : Int)) = true := by simp [hfg]
  have hn' : ((f.length : Int) != (g.length : Int)) = false := by simp [hfg]
  replace hfg := Lib.hid hfg
  go_enter Tryz.func34, Tryz.ntmps34
  repeat' (first | go_skip | go_guarded | go_step)
  go_loopw [5] (fun u5 wr => ∃ (i : Nat), i ≤ f.length ∧ u5 = .int .i64 (i : Int) ∧ Below w.heap.size w wr ∧ eqF f g = eqF (f.drop i) (g.drop i)) (fun u5 _ => f.length - (intOf u5).toNat)
  case atStart => exact ⟨0, by omega, rfl, Below.refl _ _, by rw [Flds.drop_zero, Flds.drop_zero]⟩
  case round =>
   obtain ⟨i, hi, rfl, hbr, hu⟩ := hrel
   have hfg' := hfg.out
   by_cases hlt : i < f.length
   ·obtain ⟨⟨k, x, s, sub⟩, hg⟩ := Flds.get?_lt f i hlt
    obtain ⟨⟨k', x', s', sub'⟩, hg'⟩ := Flds.get?_lt g i (by omega)
    obtain ⟨b1, o1, rfl, hb1, hcell1⟩ := hs1.2 (by omega)
    obtain ⟨b2, o2, rfl, hb2, hcell2⟩ := hs2.2 (by omega)
    obtain ⟨A3, c3, cs3, g1, g2, g3, g4, _, _, hs3, hr3⟩ := RepF.at_ hr1 hg
    obtain ⟨A4, c4, cs4, g5, g6, g7, g8, _, _, hs4, hr4⟩ := RepF.at_ hr2 hg'
    have e1 := (hbr.cell (p := ⟨b1, o1 + i * 4, none⟩) (by dsimp only; omega)).trans (hcell1 _ _ g1)
    have e2 := (hbr.cell (p := ⟨b1, o1 + (i * 4 + 1), none⟩) (by dsimp only; omega)).trans (hcell1 _ _ g2)
    have e3 := (hbr.cell (p := ⟨b1, o1 + (i * 4 + 2), none⟩) (by dsimp only; omega)).trans (hcell1 _ _ g3)
    have e4 := (hbr.cell (p := ⟨b1, o1 + (i * 4 + 3), none⟩) (by dsimp only; omega)).trans (hcell1 _ _ g4)
    have e5 := (hbr.cell (p := ⟨b2, o2 + i * 4, none⟩) (by dsimp only; omega)).trans (hcell2 _ _ g5)
    have e6 := (hbr.cell (p := ⟨b2, o2 + (i * 4 + 1), none⟩) (by dsimp only; omega)).trans (hcell2 _ _ g6)
    have e7 := (hbr.cell (p := ⟨b2, o2 + (i * 4 + 2), none⟩) (by dsimp only; omega)).trans (hcell2 _ _ g7)
    have e8 := (hbr.cell (p := ⟨b2, o2 + (i * 4 + 3), none⟩) (by dsimp only; omega)).trans (hcell2 _ _ g8)
    rw [← Nat.add_assoc] at e2 e3 e4 e6 e7 e8
    clear g1 g2 g3 g4 g5 g6 g7 g8 hcell1 hcell2 hr1 hr2 hs1 hs2
    have hbw1 : b1 < wr.heap.size := by have := hbr.size; omega
    have hbw2 : b2 < wr.heap.size := by have := hbr.size; omega
    have hsz1 := Flds.get?_size f i hg
    have hsz2 := Flds.get?_size g i hg'
    have C := fun (w2 : World) (hb : Below wr.heap.size wr w2) => Ih.out i k x s sub hg sub' A3 c3 cs3 A4 c4 cs4 w2 B (Nat.le_trans (Nat.le_trans hB hbr.size) hb.size) (hs3.below ((hbr.mono hB).trans (hb.mono (Nat.le_trans hB hbr.size)))) (hr3.below ((hbr.mono hB).trans (hb.mono (Nat.le_trans hB hbr.size)))) (hs4.below ((hbr.mono hB).trans (hb.mono (Nat.le_trans hB hbr.size)))) (hr4.below ((hbr.mono hB).trans (hb.mono (Nat.le_trans hB hbr.size)))) (by omega) (by omega)
    replace C := Lib.hid C
    clear hs3 hr3 hs4 hr4
    have he := eqF_at hg hg'
    clear hg hg'
    have f1 : (0 : Int) ≤ (i : Int) := by omega
    have f2 : (i : Int) < (f.length : Int) := by omega
    have f2' : (i : Int) < (g.length : Int) := by omega
    replace hsz1 := Lib.hid hsz1
    replace hsz2 := Lib.hid hsz2
    rw [he] at hu
    clear he hfg'
    replace hu := Lib.hid hu
    repeat' ((fail_if_success at_builtin); first | go_skip | go_guarded | go_step)
    by_cases hk : k = k'
    ·skip
     have q1 : (k == k') = true := by simpa using hk
     have p1 : (k != k') = false := by simpa using hk
     by_cases hx : x = x'
     ·skip
      have q2 : (x == x') = true := by simpa using hx
      have p2 : (x != x') = false := by simpa using hx
      by_cases hs : s.toList = s'.toList
      ·skip
       have q3 : (s.toList == s'.toList) = true := by simpa using hs
       have p3 : (s.toList != s'.toList) = false := by simpa using hs
       clear hk hx hs
       cases hq : eqF sub sub' with
       | true =>
        have hS0 : (Below wr.heap.size wr wr ∧ wr.cell? ⟨b1, o1 + i * 4, none⟩ = some (.int .i64 k) ∧ wr.cell? ⟨b1, o1 + i * 4 + 1, none⟩ = some (.int .i64 x) ∧ wr.cell? ⟨b1, o1 + i * 4 + 2, none⟩ = some (.string s) ∧ wr.cell? ⟨b1, o1 + i * 4 + 3, none⟩ = some (.slice A3 sub.length c3) ∧ wr.cell? ⟨b2, o2 + i * 4, none⟩ = some (.int .i64 k') ∧ wr.cell? ⟨b2, o2 + i * 4 + 1, none⟩ = some (.int .i64 x') ∧ wr.cell? ⟨b2, o2 + i * 4 + 2, none⟩ = some (.string s') ∧ wr.cell? ⟨b2, o2 + i * 4 + 3, none⟩ = some (.slice A4 sub'.length c4)) := ⟨Below.refl _ _, e1, e2, e3, e4, e5, e6, e7, e8⟩
        have keepS : ∀ v1 v2 : World, (Below wr.heap.size wr v1 ∧ v1.cell? ⟨b1, o1 + i * 4, none⟩ = some (.int .i64 k) ∧ v1.cell? ⟨b1, o1 + i * 4 + 1, none⟩ = some (.int .i64 x) ∧ v1.cell? ⟨b1, o1 + i * 4 + 2, none⟩ = some (.string s) ∧ v1.cell? ⟨b1, o1 + i * 4 + 3, none⟩ = some (.slice A3 sub.length c3) ∧ v1.cell? ⟨b2, o2 + i * 4, none⟩ = some (.int .i64 k') ∧ v1.cell? ⟨b2, o2 + i * 4 + 1, none⟩ = some (.int .i64 x') ∧ v1.cell? ⟨b2, o2 + i * 4 + 2, none⟩ = some (.string s') ∧ v1.cell? ⟨b2, o2 + i * 4 + 3, none⟩ = some (.slice A4 sub'.length c4)) → Below v1.heap.size v1 v2 → (Below wr.heap.size wr v2 ∧ v2.cell? ⟨b1, o1 + i * 4, none⟩ = some (.int .i64 k) ∧ v2.cell? ⟨b1, o1 + i * 4 + 1, none⟩ = some (.int .i64 x) ∧ v2.cell? ⟨b1, o1 + i * 4 + 2, none⟩ = some (.string s) ∧ v2.cell? ⟨b1, o1 + i * 4 + 3, none⟩ = some (.slice A3 sub.length c3) ∧ v2.cell? ⟨b2, o2 + i * 4, none⟩ = some (.int .i64 k') ∧ v2.cell? ⟨b2, o2 + i * 4 + 1, none⟩ = some (.int .i64 x') ∧ v2.cell? ⟨b2, o2 + i * 4 + 2, none⟩ = some (.string s') ∧ v2.cell? ⟨b2, o2 + i * 4 + 3, none⟩ = some (.slice A4 sub'.length c4)) := fun v1 v2 h hb => ⟨h.1.trans (hb.mono h.1.size), (hb.cell (p := ⟨b1, _, none⟩) (Nat.lt_of_lt_of_le hbw1 h.1.size)).trans h.2.1, (hb.cell (p := ⟨b1, _, none⟩) (Nat.lt_of_lt_of_le hbw1 h.1.size)).trans h.2.2.1, (hb.cell (p := ⟨b1, _, none⟩) (Nat.lt_of_lt_of_le hbw1 h.1.size)).trans h.2.2.2.1, (hb.cell (p := ⟨b1, _, none⟩) (Nat.lt_of_lt_of_le hbw1 h.1.size)).trans h.2.2.2.2.1, (hb.cell (p := ⟨b2, _, none⟩) (Nat.lt_of_lt_of_le hbw2 h.1.size)).trans h.2.2.2.2.2.1, (hb.cell (p := ⟨b2, _, none⟩) (Nat.lt_of_lt_of_le hbw2 h.1.size)).trans h.2.2.2.2.2.2.1, (hb.cell (p := ⟨b2, _, none⟩) (Nat.lt_of_lt_of_le hbw2 h.1.size)).trans h.2.2.2.2.2.2.2.1, (hb.cell (p := ⟨b2, _, none⟩) (Nat.lt_of_lt_of_le hbw2 h.1.size)).trans h.2.2.2.2.2.2.2.2⟩
        have hS1 : (Below wr.heap.size wr wr.drew ∧ wr.drew.cell? ⟨b1, o1 + i * 4, none⟩ = some (.int .i64 k) ∧ wr.drew.cell? ⟨b1, o1 + i * 4 + 1, none⟩ = some (.int .i64 x) ∧ wr.drew.cell? ⟨b1, o1 + i * 4 + 2, none⟩ = some (.string s) ∧ wr.drew.cell? ⟨b1, o1 + i * 4 + 3, none⟩ = some (.slice A3 sub.length c3) ∧ wr.drew.cell? ⟨b2, o2 + i * 4, none⟩ = some (.int .i64 k') ∧ wr.drew.cell? ⟨b2, o2 + i * 4 + 1, none⟩ = some (.int .i64 x') ∧ wr.drew.cell? ⟨b2, o2 + i * 4 + 2, none⟩ = some (.string s') ∧ wr.drew.cell? ⟨b2, o2 + i * 4 + 3, none⟩ = some (.slice A4 sub'.length c4)) := keepS _ _ hS0 ((Below.refl _ _).drew)
        replace keepS := Lib.hid keepS
        clear hS0
        go_upto_region 6 with (fail)
        refine wp_region_held_drew (S := fun w' => Below wr.heap.size wr w' ∧ w'.cell? ⟨b1, o1 + i * 4, none⟩ = some (.int .i64 k) ∧ w'.cell? ⟨b1, o1 + i * 4 + 1, none⟩ = some (.int .i64 x) ∧ w'.cell? ⟨b1, o1 + i * 4 + 2, none⟩ = some (.string s) ∧ w'.cell? ⟨b1, o1 + i * 4 + 3, none⟩ = some (.slice A3 sub.length c3) ∧ w'.cell? ⟨b2, o2 + i * 4, none⟩ = some (.int .i64 k') ∧ w'.cell? ⟨b2, o2 + i * 4 + 1, none⟩ = some (.int .i64 x') ∧ w'.cell? ⟨b2, o2 + i * 4 + 2, none⟩ = some (.string s') ∧ w'.cell? ⟨b2, o2 + i * 4 + 3, none⟩ = some (.slice A4 sub'.length c4)) (by kernel_rfl) ?_ (fun hHeld => ?_)
        ·(try dsimp only)
         exact hS1
        refine tkY 0 (v := ?v1) rfl (.inl ⟨by rfl, ?hy1⟩) ?hr1
        case hy1 => (intro w hSw; (try dsimp only at hSw); go_simp; try with_reducible rfl)
        simp only [Act.put, Z1, Z2, Z4, Z5, Z6]
        refine tkY 1 (v := ?v2) rfl (.inl ⟨by rfl, ?hy2⟩) ?hr2
        case hy2 => (intro w hSw; (try dsimp only at hSw); go_simp; try with_reducible rfl)
        simp only [Act.put, Z1, Z2, Z3, Z4, Z5, Z6]
        refine tkY 2 (v := ?v3) rfl (.inl ⟨by rfl, ?hy3⟩) ?hr3
        case hy3 => (intro w hSw; (try dsimp only at hSw); go_simp; try with_reducible rfl)
        simp only [Act.put, Z1, Z2, Z3, Z4, Z5, Z6]
        refine tkY 3 (v := ?v4) rfl (.inl ⟨by rfl, ?hy4⟩) ?hr4
        case hy4 => (intro w hSw; (try dsimp only at hSw); go_simp; try with_reducible rfl)
        simp only [Act.put, Z1, Z2, Z3, Z4, Z5, Z6]
        refine tkY 4 (v := ?v5) rfl (.inl ⟨by rfl, ?hy5⟩) ?hr5
        case hy5 => (intro w hSw; (try dsimp only at hSw); go_simp; try with_reducible rfl)
        simp only [Act.put, Z1, Z2, Z3, Z4, Z5, Z6]
        refine tkY 5 (v := ?v6) rfl (.inl ⟨by rfl, ?hy6⟩) ?hr6
        case hy6 => (intro w hSw; (try dsimp only at hSw); go_simp; try with_reducible rfl)
        simp only [Act.put, Z1, Z2, Z3, Z4, Z5, Z6]
        refine tkY 6 (v := ?v7) rfl (.inl ⟨by rfl, ?hy7⟩) ?hr7
        case hy7 => (intro w hSw; (try dsimp only at hSw); go_simp; try with_reducible rfl)
        simp only [Act.put, Z1, Z2, Z3, Z4, Z5, Z6]
        refine tkY 7 (v := ?v8) rfl (.inl ⟨by rfl, ?hy8⟩) ?hr8
        case hy8 => (intro w hSw; (try dsimp only at hSw); go_simp; try with_reducible rfl)
        simp only [Act.put, Z1, Z2, Z3, Z4, Z5, Z6]
        refine tkY 8 (v := ?v9) rfl (.inl ⟨by rfl, ?hy9⟩) ?hr9
        case hy9 => (intro w hSw; (try dsimp only at hSw); go_simp; try with_reducible rfl)
        simp only [Act.put, Z1, Z2, Z3, Z4, Z5, Z6]
        refine tkY 9 (v := ?v10) rfl (.inl ⟨by rfl, ?hy10⟩) ?hr10
        case hy10 => (intro w hSw; (try dsimp only at hSw); go_simp; try with_reducible rfl)
        simp only [Act.put, Z1, Z2, Z3, Z4, Z5, Z6]
        refine tkY 10 (v := ?v11) rfl (.inl ⟨by rfl, ?hy11⟩) ?hr11
        case hy11 => (intro w hSw; (try dsimp only at hSw); go_simp; try with_reducible rfl)
        simp only [Act.put, Z1, Z2, Z3, Z4, Z5, Z6]
        refine tkY 11 (v := ?v12) rfl (.inl ⟨by rfl, ?hy12⟩) ?hr12
        case hy12 => (intro w hSw; (try dsimp only at hSw); go_simp; try with_reducible rfl)
        simp only [Act.put, Z1, Z2, Z3, Z4, Z5, Z6]
        refine tkY 12 (v := ?v13) rfl (.inl ⟨by rfl, ?hy13⟩) ?hr13
        case hy13 => (intro w hSw; (try dsimp only at hSw); go_simp; try with_reducible rfl)
        simp only [Act.put, Z1, Z2, Z3, Z4, Z5, Z6]
        refine tkY 13 (v := ?v14) rfl (.inl ⟨by rfl, ?hy14⟩) ?hr14
        case hy14 => (intro w hSw; (try dsimp only at hSw); go_simp; try with_reducible rfl)
        simp only [Act.put, Z1, Z2, Z3, Z4, Z5, Z6]
        refine tkY 14 (v := ?v15) rfl (.inl ⟨by rfl, ?hy15⟩) ?hr15
        case hy15 => (intro w hSw; (try dsimp only at hSw); go_simp; try with_reducible rfl)
        simp only [Act.put, Z1, Z2, Z3, Z4, Z5, Z6]
        refine tkY 15 (v := ?v16) rfl (.inl ⟨by rfl, ?hy16⟩) ?hr16
        case hy16 => (intro w hSw; (try dsimp only at hSw); go_simp; try with_reducible rfl)
        simp only [Act.put, Z1, Z2, Z3, Z4, Z5, Z6]
        refine tkY 16 (v := ?v17) rfl (.inl ⟨by rfl, ?hy17⟩) ?hr17
        case hy17 => (intro w hSw; (try dsimp only at hSw); go_simp; try with_reducible rfl)
        simp only [Act.put, Z1, Z2, Z3, Z4, Z5, Z6]
        refine tkY 17 (v := ?v18) rfl (.inl ⟨by rfl, ?hy18⟩) ?hr18
        case hy18 => (intro w hSw; (try dsimp only at hSw); go_simp; try with_reducible rfl)
        simp only [Act.put, Z1, Z2, Z3, Z4, Z5, Z6]
        refine tkY 18 (v := ?v19) rfl (.inl ⟨by rfl, ?hy19⟩) ?hr19
        case hy19 => (intro w hSw; (try dsimp only at hSw); go_simp; try with_reducible rfl)
        simp only [Act.put, Z1, Z2, Z3, Z4, Z5, Z6]
        refine tkY 19 (v := ?v20) rfl (.inl ⟨by rfl, ?hy20⟩) ?hr20
        case hy20 => (intro w hSw; (try dsimp only at hSw); go_simp; try with_reducible rfl)
        simp only [Act.put, Z1, Z2, Z3, Z4, Z5, Z6]
        refine tkY 20 (v := ?v21) rfl (.inl ⟨by rfl, ?hy21⟩) ?hr21
        case hy21 => (intro w hSw; (try dsimp only at hSw); go_simp; try with_reducible rfl)
        simp only [Act.put, Z1, Z2, Z3, Z4, Z5, Z6]
        refine tkY 21 (v := ?v22) rfl (.inl ⟨by rfl, ?hy22⟩) ?hr22
        case hy22 => (intro w hSw; (try dsimp only at hSw); go_simp; try with_reducible rfl)
        simp only [Act.put, Z1, Z2, Z3, Z4, Z5, Z6]
        refine tkY 22 (v := ?v23) rfl (.inl ⟨by rfl, ?hy23⟩) ?hr23
        case hy23 => (intro w hSw; (try dsimp only at hSw); go_simp; try with_reducible rfl)
        simp only [Act.put, Z1, Z2, Z3, Z4, Z5, Z6]
        refine tkY 23 (v := ?v24) rfl (.inl ⟨by rfl, ?hy24⟩) ?hr24
        case hy24 => (intro w hSw; (try dsimp only at hSw); go_simp; try with_reducible rfl)
        simp only [Act.put, Z1, Z2, Z3, Z4, Z5, Z6]
        refine tkY 24 (v := ?v25) rfl (.inl ⟨by rfl, ?hy25⟩) ?hr25
        case hy25 => (intro w hSw; (try dsimp only at hSw); go_simp; try with_reducible rfl)
        simp only [Act.put, Z1, Z2, Z3, Z4, Z5, Z6]
        refine tkY 25 (v := ?v26) rfl (.inl ⟨by rfl, ?hy26⟩) ?hr26
        case hy26 => (intro w hSw; (try dsimp only at hSw); go_simp; try with_reducible rfl)
        simp only [Act.put, Z1, Z2, Z3, Z4, Z5, Z6]
        refine tkY 26 (v := ?v27) rfl (.inl ⟨by rfl, ?hy27⟩) ?hr27
        case hy27 => (intro w hSw; (try dsimp only at hSw); go_simp; try with_reducible rfl)
        simp only [Act.put, Z1, Z2, Z3, Z4, Z5, Z6]
        refine tkY 27 (v := ?v28) rfl (.inl ⟨by rfl, ?hy28⟩) ?hr28
        case hy28 => (intro w hSw; (try dsimp only at hSw); go_simp; try with_reducible rfl)
        simp only [Act.put, Z1, Z2, Z3, Z4, Z5, Z6]
        refine tkY 28 (v := ?v29) rfl (.inl ⟨by rfl, ?hy29⟩) ?hr29
        case hy29 => (intro w hSw; (try dsimp only at hSw); go_simp; try with_reducible rfl)
        simp only [Act.put, Z1, Z2, Z3, Z4, Z5, Z6]
        refine tkY 29 (v := ?v30) rfl (.inl ⟨by rfl, ?hy30⟩) ?hr30
        case hy30 => (intro w hSw; (try dsimp only at hSw); go_simp; try with_reducible rfl)
        simp only [Act.put, Z1, Z2, Z3, Z4, Z5, Z6]
        refine tkY 30 (v := ?v31) rfl (.inl ⟨by rfl, ?hy31⟩) ?hr31
        case hy31 => (intro w hSw; (try dsimp only at hSw); go_simp; try with_reducible rfl)
        simp only [Act.put, Z1, Z2, Z3, Z4, Z5, Z6]
        refine tkY 31 (v := ?v32) rfl (.inl ⟨by rfl, ?hy32⟩) ?hr32
        case hy32 => (intro w hSw; (try dsimp only at hSw); go_simp; try with_reducible rfl)
        simp only [Act.put, Z1, Z2, Z3, Z4, Z5, Z6]
        refine tkY 32 (v := ?v33) rfl (.inl ⟨by rfl, ?hy33⟩) ?hr33
        case hy33 => (intro w hSw; (try dsimp only at hSw); go_simp; try with_reducible rfl)
        simp only [Act.put, Z1, Z2, Z3, Z4, Z5, Z6]
        refine tkY 33 (v := ?v34) rfl (.inl ⟨by rfl, ?hy34⟩) ?hr34
        case hy34 => (intro w hSw; (try dsimp only at hSw); go_simp; try with_reducible rfl)
        simp only [Act.put, Z1, Z2, Z3, Z4, Z5, Z6]
        refine tkY 34 (v := ?v35) rfl (.inl ⟨by rfl, ?hy35⟩) ?hr35
        case hy35 => (intro w hSw; (try dsimp only at hSw); go_simp; try with_reducible rfl)
        simp only [Act.put, Z1, Z2, Z3, Z4, Z5, Z6]
        refine tkY 35 (v := ?v36) rfl (.inl ⟨by rfl, ?hy36⟩) ?hr36
        case hy36 => (intro w hSw; (try dsimp only at hSw); go_simp; try with_reducible rfl)
        simp only [Act.put, Z1, Z2, Z3, Z4, Z5, Z6]
        refine tkY 36 (v := ?v37) rfl (.inl ⟨by rfl, ?hy37⟩) ?hr37
        case hy37 => (intro w hSw; (try dsimp only at hSw); go_simp; try with_reducible rfl)
        simp only [Act.put, Z1, Z2, Z3, Z4, Z5, Z6]
        refine tkY 37 (v := ?v38) rfl (.inl ⟨by rfl, ?hy38⟩) ?hr38
        case hy38 => (intro w hSw; (try dsimp only at hSw); go_simp; try with_reducible rfl)
        simp only [Act.put, Z1, Z2, Z3, Z4, Z5, Z6]
        refine tkY 38 (v := ?v39) rfl (.inl ⟨by rfl, ?hy39⟩) ?hr39
        case hy39 => (intro w hSw; (try dsimp only at hSw); go_simp; try with_reducible rfl)
        simp only [Act.put, Z1, Z2, Z3, Z4, Z5, Z6]
        refine tkY 39 (v := ?v40) rfl (.inl ⟨by rfl, ?hy40⟩) ?hr40
        case hy40 => (intro w hSw; (try dsimp only at hSw); go_simp; try with_reducible rfl)
        simp only [Act.put, Z1, Z2, Z3, Z4, Z5, Z6]
        refine tkY 40 (v := ?v41) rfl (.inl ⟨by rfl, ?hy41⟩) ?hr41
        case hy41 => (intro w hSw; (try dsimp only at hSw); go_simp; try with_reducible rfl)
        simp only [Act.put, Z1, Z2, Z3, Z4, Z5, Z6]
        refine tkY 41 (v := ?v42) rfl (.inl ⟨by rfl, ?hy42⟩) ?hr42
        case hy42 => (intro w hSw; (try dsimp only at hSw); go_simp; try with_reducible rfl)
        simp only [Act.put, Z1, Z2, Z3, Z4, Z5, Z6]
        refine tkY 42 (v := ?v43) rfl (.inl ⟨by rfl, ?hy43⟩) ?hr43
        case hy43 => (intro w hSw; (try dsimp only at hSw); go_simp; try with_reducible rfl)
        simp only [Act.put, Z1, Z2, Z3, Z4, Z5, Z6]
        refine tkY 43 (v := ?v44) rfl (.inl ⟨by rfl, ?hy44⟩) ?hr44
        case hy44 => (intro w hSw; (try dsimp only at hSw); go_simp; try with_reducible rfl)
        simp only [Act.put, Z1, Z2, Z3, Z4, Z5, Z6]
        refine tkY 44 (v := ?v45) rfl (.inl ⟨by rfl, ?hy45⟩) ?hr45
        case hy45 => (intro w hSw; (try dsimp only at hSw); go_simp; try with_reducible rfl)
        simp only [Act.put, Z1, Z2, Z3, Z4, Z5, Z6]
        refine tkY 45 (v := ?v46) rfl (.inl ⟨by rfl, ?hy46⟩) ?hr46
        case hy46 => (intro w hSw; (try dsimp only at hSw); go_simp; try with_reducible rfl)
        simp only [Act.put, Z1, Z2, Z3, Z4, Z5, Z6]
        refine tkY 46 (v := ?v47) rfl (.inl ⟨by rfl, ?hy47⟩) ?hr47
        case hy47 => (intro w hSw; (try dsimp only at hSw); go_simp; try with_reducible rfl)
        simp only [Act.put, Z1, Z2, Z3, Z4, Z5, Z6]
        refine tkY 47 (v := ?v48) rfl (.inl ⟨by rfl, ?hy48⟩) ?hr48
        case hy48 => (intro w hSw; (try dsimp only at hSw); go_simp; try with_reducible rfl)
        simp only [Act.put, Z1, Z2, Z3, Z4, Z5, Z6]
        refine wpAnyH_ready (rs := [48]) (by kernel_rfl) (by simp) ?_
        refine AllReadyH.cons rfl (fun K hK => ?_) AllReadyH.nil
        go_simp
        go_at_call 34
        have CJ := C.out _ hHeld.1
        rw [hq] at CJ
        refine CJ.mono ?_
        clear CJ
        rintro e w7 ⟨rfl, hbq⟩
        dsimp only
        refine hK.out _ _ ?_ (fun hHeld => ?_)
        ·(try dsimp only)
         exact keepS.out _ _ hHeld hbq
        clear hK K
        try simp only [Act.put, Z1, Z2, Z3, Z4, Z5, Z6]
        refine tkY 49 (v := ?v49) rfl (.inl ⟨by rfl, ?hy49⟩) ?hr49
        case hy49 => (intro w hSw; (try dsimp only at hSw); go_simp; try with_reducible rfl)
        simp only [Act.put, Z1, Z2, Z3, Z4, Z5, Z6]
        refine tkY 50 (v := ?v50) rfl (.inl ⟨by rfl, ?hy50⟩) ?hr50
        case hy50 => (intro w hSw; (try dsimp only at hSw); go_simp; try with_reducible rfl)
        simp only [Act.put, Z1, Z2, Z3, Z4, Z5, Z6]
        refine wpAnyH_done (by kernel_rfl) ?_ _
        have hbW := hHeld.1
        clear hHeld hS1 keepS
        have hbx := hbr.trans (hbW.mono hbr.size)
        clear hbW e1 e2 e3 e4 e5 e6 e7 e8
        have f3 : IntKind.i64.wrap ((i : Int) + 1) = (i : Int) + 1 := IntWalk.i64_in _ (by omega)
        repeat' (first | go_skip | go_guarded | go_step)
        go_roundw
        case rel =>
         have hu' := hu.out
         unfold eq1 at hu'
         rw [q1, q2, q3, hq] at hu'
         exact ⟨i + 1, by omega, by congr 1, hbx, by simpa using hu'⟩
        case measure => simp [intOf]; omega
       | false =>
        have hS0 : (Below wr.heap.size wr wr ∧ wr.cell? ⟨b1, o1 + i * 4, none⟩ = some (.int .i64 k) ∧ wr.cell? ⟨b1, o1 + i * 4 + 1, none⟩ = some (.int .i64 x) ∧ wr.cell? ⟨b1, o1 + i * 4 + 2, none⟩ = some (.string s) ∧ wr.cell? ⟨b1, o1 + i * 4 + 3, none⟩ = some (.slice A3 sub.length c3) ∧ wr.cell? ⟨b2, o2 + i * 4, none⟩ = some (.int .i64 k') ∧ wr.cell? ⟨b2, o2 + i * 4 + 1, none⟩ = some (.int .i64 x') ∧ wr.cell? ⟨b2, o2 + i * 4 + 2, none⟩ = some (.string s') ∧ wr.cell? ⟨b2, o2 + i * 4 + 3, none⟩ = some (.slice A4 sub'.length c4)) := ⟨Below.refl _ _, e1, e2, e3, e4, e5, e6, e7, e8⟩
        have keepS : ∀ v1 v2 : World, (Below wr.heap.size wr v1 ∧ v1.cell? ⟨b1, o1 + i * 4, none⟩ = some (.int .i64 k) ∧ v1.cell? ⟨b1, o1 + i * 4 + 1, none⟩ = some (.int .i64 x) ∧ v1.cell? ⟨b1, o1 + i * 4 + 2, none⟩ = some (.string s) ∧ v1.cell? ⟨b1, o1 + i * 4 + 3, none⟩ = some (.slice A3 sub.length c3) ∧ v1.cell? ⟨b2, o2 + i * 4, none⟩ = some (.int .i64 k') ∧ v1.cell? ⟨b2, o2 + i * 4 + 1, none⟩ = some (.int .i64 x') ∧ v1.cell? ⟨b2, o2 + i * 4 + 2, none⟩ = some (.string s') ∧ v1.cell? ⟨b2, o2 + i * 4 + 3, none⟩ = some (.slice A4 sub'.length c4)) → Below v1.heap.size v1 v2 → (Below wr.heap.size wr v2 ∧ v2.cell? ⟨b1, o1 + i * 4, none⟩ = some (.int .i64 k) ∧ v2.cell? ⟨b1, o1 + i * 4 + 1, none⟩ = some (.int .i64 x) ∧ v2.cell? ⟨b1, o1 + i * 4 + 2, none⟩ = some (.string s) ∧ v2.cell? ⟨b1, o1 + i * 4 + 3, none⟩ = some (.slice A3 sub.length c3) ∧ v2.cell? ⟨b2, o2 + i * 4, none⟩ = some (.int .i64 k') ∧ v2.cell? ⟨b2, o2 + i * 4 + 1, none⟩ = some (.int .i64 x') ∧ v2.cell? ⟨b2, o2 + i * 4 + 2, none⟩ = some (.string s') ∧ v2.cell? ⟨b2, o2 + i * 4 + 3, none⟩ = some (.slice A4 sub'.length c4)) := fun v1 v2 h hb => ⟨h.1.trans (hb.mono h.1.size), (hb.cell (p := ⟨b1, _, none⟩) (Nat.lt_of_lt_of_le hbw1 h.1.size)).trans h.2.1, (hb.cell (p := ⟨b1, _, none⟩) (Nat.lt_of_lt_of_le hbw1 h.1.size)).trans h.2.2.1, (hb.cell (p := ⟨b1, _, none⟩) (Nat.lt_of_lt_of_le hbw1 h.1.size)).trans h.2.2.2.1, (hb.cell (p := ⟨b1, _, none⟩) (Nat.lt_of_lt_of_le hbw1 h.1.size)).trans h.2.2.2.2.1, (hb.cell (p := ⟨b2, _, none⟩) (Nat.lt_of_lt_of_le hbw2 h.1.size)).trans h.2.2.2.2.2.1, (hb.cell (p := ⟨b2, _, none⟩) (Nat.lt_of_lt_of_le hbw2 h.1.size)).trans h.2.2.2.2.2.2.1, (hb.cell (p := ⟨b2, _, none⟩) (Nat.lt_of_lt_of_le hbw2 h.1.size)).trans h.2.2.2.2.2.2.2.1, (hb.cell (p := ⟨b2, _, none⟩) (Nat.lt_of_lt_of_le hbw2 h.1.size)).trans h.2.2.2.2.2.2.2.2⟩
        have hS1 : (Below wr.heap.size wr wr.drew ∧ wr.drew.cell? ⟨b1, o1 + i * 4, none⟩ = some (.int .i64 k) ∧ wr.drew.cell? ⟨b1, o1 + i * 4 + 1, none⟩ = some (.int .i64 x) ∧ wr.drew.cell? ⟨b1, o1 + i * 4 + 2, none⟩ = some (.string s) ∧ wr.drew.cell? ⟨b1, o1 + i * 4 + 3, none⟩ = some (.slice A3 sub.length c3) ∧ wr.drew.cell? ⟨b2, o2 + i * 4, none⟩ = some (.int .i64 k') ∧ wr.drew.cell? ⟨b2, o2 + i * 4 + 1, none⟩ = some (.int .i64 x') ∧ wr.drew.cell? ⟨b2, o2 + i * 4 + 2, none⟩ = some (.string s') ∧ wr.drew.cell? ⟨b2, o2 + i * 4 + 3, none⟩ = some (.slice A4 sub'.length c4)) := keepS _ _ hS0 ((Below.refl _ _).drew)
        replace keepS := Lib.hid keepS
        clear hS0
        go_upto_region 6 with (fail)
        refine wp_region_held_drew (S := fun w' => Below wr.heap.size wr w' ∧ w'.cell? ⟨b1, o1 + i * 4, none⟩ = some (.int .i64 k) ∧ w'.cell? ⟨b1, o1 + i * 4 + 1, none⟩ = some (.int .i64 x) ∧ w'.cell? ⟨b1, o1 + i * 4 + 2, none⟩ = some (.string s) ∧ w'.cell? ⟨b1, o1 + i * 4 + 3, none⟩ = some (.slice A3 sub.length c3) ∧ w'.cell? ⟨b2, o2 + i * 4, none⟩ = some (.int .i64 k') ∧ w'.cell? ⟨b2, o2 + i * 4 + 1, none⟩ = some (.int .i64 x') ∧ w'.cell? ⟨b2, o2 + i * 4 + 2, none⟩ = some (.string s') ∧ w'.cell? ⟨b2, o2 + i * 4 + 3, none⟩ = some (.slice A4 sub'.length c4)) (by kernel_rfl) ?_ (fun hHeld => ?_)
        ·(try dsimp only)
         exact hS1
        refine tkY 0 (v := ?v51) rfl (.inl ⟨by rfl, ?hy51⟩) ?hr51
        case hy51 => (intro w hSw; (try dsimp only at hSw); go_simp; try with_reducible rfl)
        simp only [Act.put, Z1, Z2, Z4, Z5, Z6]
        refine tkY 1 (v := ?v52) rfl (.inl ⟨by rfl, ?hy52⟩) ?hr52
        case hy52 => (intro w hSw; (try dsimp only at hSw); go_simp; try with_reducible rfl)
        simp only [Act.put, Z1, Z2, Z3, Z4, Z5, Z6]
        refine tkY 2 (v := ?v53) rfl (.inl ⟨by rfl, ?hy53⟩) ?hr53
        case hy53 => (intro w hSw; (try dsimp only at hSw); go_simp; try with_reducible rfl)
        simp only [Act.put, Z1, Z2, Z3, Z4, Z5, Z6]
        refine tkY 3 (v := ?v54) rfl (.inl ⟨by rfl, ?hy54⟩) ?hr54
        case hy54 => (intro w hSw; (try dsimp only at hSw); go_simp; try with_reducible rfl)
        simp only [Act.put, Z1, Z2, Z3, Z4, Z5, Z6]
        refine tkY 4 (v := ?v55) rfl (.inl ⟨by rfl, ?hy55⟩) ?hr55
        case hy55 => (intro w hSw; (try dsimp only at hSw); go_simp; try with_reducible rfl)
        simp only [Act.put, Z1, Z2, Z3, Z4, Z5, Z6]
        refine tkY 5 (v := ?v56) rfl (.inl ⟨by rfl, ?hy56⟩) ?hr56
        case hy56 => (intro w hSw; (try dsimp only at hSw); go_simp; try with_reducible rfl)
        simp only [Act.put, Z1, Z2, Z3, Z4, Z5, Z6]
        refine tkY 6 (v := ?v57) rfl (.inl ⟨by rfl, ?hy57⟩) ?hr57
        case hy57 => (intro w hSw; (try dsimp only at hSw); go_simp; try with_reducible rfl)
        simp only [Act.put, Z1, Z2, Z3, Z4, Z5, Z6]
        refine tkY 7 (v := ?v58) rfl (.inl ⟨by rfl, ?hy58⟩) ?hr58
        case hy58 => (intro w hSw; (try dsimp only at hSw); go_simp; try with_reducible rfl)
        simp only [Act.put, Z1, Z2, Z3, Z4, Z5, Z6]
        refine tkY 8 (v := ?v59) rfl (.inl ⟨by rfl, ?hy59⟩) ?hr59
        case hy59 => (intro w hSw; (try dsimp only at hSw); go_simp; try with_reducible rfl)
        simp only [Act.put, Z1, Z2, Z3, Z4, Z5, Z6]
        refine tkY 9 (v := ?v60) rfl (.inl ⟨by rfl, ?hy60⟩) ?hr60
        case hy60 => (intro w hSw; (try dsimp only at hSw); go_simp; try with_reducible rfl)
        simp only [Act.put, Z1, Z2, Z3, Z4, Z5, Z6]
        refine tkY 10 (v := ?v61) rfl (.inl ⟨by rfl, ?hy61⟩) ?hr61
        case hy61 => (intro w hSw; (try dsimp only at hSw); go_simp; try with_reducible rfl)
        simp only [Act.put, Z1, Z2, Z3, Z4, Z5, Z6]
        refine tkY 11 (v := ?v62) rfl (.inl ⟨by rfl, ?hy62⟩) ?hr62
        case hy62 => (intro w hSw; (try dsimp only at hSw); go_simp; try with_reducible rfl)
        simp only [Act.put, Z1, Z2, Z3, Z4, Z5, Z6]
        refine tkY 12 (v := ?v63) rfl (.inl ⟨by rfl, ?hy63⟩) ?hr63
        case hy63 => (intro w hSw; (try dsimp only at hSw); go_simp; try with_reducible rfl)
        simp only [Act.put, Z1, Z2, Z3, Z4, Z5, Z6]
        refine tkY 13 (v := ?v64) rfl (.inl ⟨by rfl, ?hy64⟩) ?hr64
        case hy64 => (intro w hSw; (try dsimp only at hSw); go_simp; try with_reducible rfl)
        simp only [Act.put, Z1, Z2, Z3, Z4, Z5, Z6]
        refine tkY 14 (v := ?v65) rfl (.inl ⟨by rfl, ?hy65⟩) ?hr65
        case hy65 => (intro w hSw; (try dsimp only at hSw); go_simp; try with_reducible rfl)
        simp only [Act.put, Z1, Z2, Z3, Z4, Z5, Z6]
        refine tkY 15 (v := ?v66) rfl (.inl ⟨by rfl, ?hy66⟩) ?hr66
        case hy66 => (intro w hSw; (try dsimp only at hSw); go_simp; try with_reducible rfl)
        simp only [Act.put, Z1, Z2, Z3, Z4, Z5, Z6]
        refine tkY 16 (v := ?v67) rfl (.inl ⟨by rfl, ?hy67⟩) ?hr67
        case hy67 => (intro w hSw; (try dsimp only at hSw); go_simp; try with_reducible rfl)
        simp only [Act.put, Z1, Z2, Z3, Z4, Z5, Z6]
        refine tkY 17 (v := ?v68) rfl (.inl ⟨by rfl, ?hy68⟩) ?hr68
        case hy68 => (intro w hSw; (try dsimp only at hSw); go_simp; try with_reducible rfl)
        simp only [Act.put, Z1, Z2, Z3, Z4, Z5, Z6]
        refine tkY 18 (v := ?v69) rfl (.inl ⟨by rfl, ?hy69⟩) ?hr69
        case hy69 => (intro w hSw; (try dsimp only at hSw); go_simp; try with_reducible rfl)
        simp only [Act.put, Z1, Z2, Z3, Z4, Z5, Z6]
        refine tkY 19 (v := ?v70) rfl (.inl ⟨by rfl, ?hy70⟩) ?hr70
        case hy70 => (intro w hSw; (try dsimp only at hSw); go_simp; try with_reducible rfl)
        simp only [Act.put, Z1, Z2, Z3, Z4, Z5, Z6]
        refine tkY 20 (v := ?v71) rfl (.inl ⟨by rfl, ?hy71⟩) ?hr71
        case hy71 => (intro w hSw; (try dsimp only at hSw); go_simp; try with_reducible rfl)
        simp only [Act.put, Z1, Z2, Z3, Z4, Z5, Z6]
        refine tkY 21 (v := ?v72) rfl (.inl ⟨by rfl, ?hy72⟩) ?hr72
        case hy72 => (intro w hSw; (try dsimp only at hSw); go_simp; try with_reducible rfl)
        simp only [Act.put, Z1, Z2, Z3, Z4, Z5, Z6]
        refine tkY 22 (v := ?v73) rfl (.inl ⟨by rfl, ?hy73⟩) ?hr73
        case hy73 => (intro w hSw; (try dsimp only at hSw); go_simp; try with_reducible rfl)
        simp only [Act.put, Z1, Z2, Z3, Z4, Z5, Z6]
        refine tkY 23 (v := ?v74) rfl (.inl ⟨by rfl, ?hy74⟩) ?hr74
        case hy74 => (intro w hSw; (try dsimp only at hSw); go_simp; try with_reducible rfl)
        simp only [Act.put, Z1, Z2, Z3, Z4, Z5, Z6]
        refine tkY 24 (v := ?v75) rfl (.inl ⟨by rfl, ?hy75⟩) ?hr75
        case hy75 => (intro w hSw; (try dsimp only at hSw); go_simp; try with_reducible rfl)
        simp only [Act.put, Z1, Z2, Z3, Z4, Z5, Z6]
        refine tkY 25 (v := ?v76) rfl (.inl ⟨by rfl, ?hy76⟩) ?hr76
        case hy76 => (intro w hSw; (try dsimp only at hSw); go_simp; try with_reducible rfl)
        simp only [Act.put, Z1, Z2, Z3, Z4, Z5, Z6]
        refine tkY 26 (v := ?v77) rfl (.inl ⟨by rfl, ?hy77⟩) ?hr77
        case hy77 => (intro w hSw; (try dsimp only at hSw); go_simp; try with_reducible rfl)
        simp only [Act.put, Z1, Z2, Z3, Z4, Z5, Z6]
        refine tkY 27 (v := ?v78) rfl (.inl ⟨by rfl, ?hy78⟩) ?hr78
        case hy78 => (intro w hSw; (try dsimp only at hSw); go_simp; try with_reducible rfl)
        simp only [Act.put, Z1, Z2, Z3, Z4, Z5, Z6]
        refine tkY 28 (v := ?v79) rfl (.inl ⟨by rfl, ?hy79⟩) ?hr79
        case hy79 => (intro w hSw; (try dsimp only at hSw); go_simp; try with_reducible rfl)
        simp only [Act.put, Z1, Z2, Z3, Z4, Z5, Z6]
        refine tkY 29 (v := ?v80) rfl (.inl ⟨by rfl, ?hy80⟩) ?hr80
        case hy80 => (intro w hSw; (try dsimp only at hSw); go_simp; try with_reducible rfl)
        simp only [Act.put, Z1, Z2, Z3, Z4, Z5, Z6]
        refine tkY 30 (v := ?v81) rfl (.inl ⟨by rfl, ?hy81⟩) ?hr81
        case hy81 => (intro w hSw; (try dsimp only at hSw); go_simp; try with_reducible rfl)
        simp only [Act.put, Z1, Z2, Z3, Z4, Z5, Z6]
        refine tkY 31 (v := ?v82) rfl (.inl ⟨by rfl, ?hy82⟩) ?hr82
        case hy82 => (intro w hSw; (try dsimp only at hSw); go_simp; try with_reducible rfl)
        simp only [Act.put, Z1, Z2, Z3, Z4, Z5, Z6]
        refine tkY 32 (v := ?v83) rfl (.inl ⟨by rfl, ?hy83⟩) ?hr83
        case hy83 => (intro w hSw; (try dsimp only at hSw); go_simp; try with_reducible rfl)
        simp only [Act.put, Z1, Z2, Z3, Z4, Z5, Z6]
        refine tkY 33 (v := ?v84) rfl (.inl ⟨by rfl, ?hy84⟩) ?hr84
        case hy84 => (intro w hSw; (try dsimp only at hSw); go_simp; try with_reducible rfl)
        simp only [Act.put, Z1, Z2, Z3, Z4, Z5, Z6]
        refine tkY 34 (v := ?v85) rfl (.inl ⟨by rfl, ?hy85⟩) ?hr85
        case hy85 => (intro w hSw; (try dsimp only at hSw); go_simp; try with_reducible rfl)
        simp only [Act.put, Z1, Z2, Z3, Z4, Z5, Z6]
        refine tkY 35 (v := ?v86) rfl (.inl ⟨by rfl, ?hy86⟩) ?hr86
        case hy86 => (intro w hSw; (try dsimp only at hSw); go_simp; try with_reducible rfl)
        simp only [Act.put, Z1, Z2, Z3, Z4, Z5, Z6]
        refine tkY 36 (v := ?v87) rfl (.inl ⟨by rfl, ?hy87⟩) ?hr87
        case hy87 => (intro w hSw; (try dsimp only at hSw); go_simp; try with_reducible rfl)
        simp only [Act.put, Z1, Z2, Z3, Z4, Z5, Z6]
        refine tkY 37 (v := ?v88) rfl (.inl ⟨by rfl, ?hy88⟩) ?hr88
        case hy88 => (intro w hSw; (try dsimp only at hSw); go_simp; try with_reducible rfl)
        simp only [Act.put, Z1, Z2, Z3, Z4, Z5, Z6]
        refine tkY 38 (v := ?v89) rfl (.inl ⟨by rfl, ?hy89⟩) ?hr89
        case hy89 => (intro w hSw; (try dsimp only at hSw); go_simp; try with_reducible rfl)
        simp only [Act.put, Z1, Z2, Z3, Z4, Z5, Z6]
        refine tkY 39 (v := ?v90) rfl (.inl ⟨by rfl, ?hy90⟩) ?hr90
        case hy90 => (intro w hSw; (try dsimp only at hSw); go_simp; try with_reducible rfl)
        simp only [Act.put, Z1, Z2, Z3, Z4, Z5, Z6]
        refine tkY 40 (v := ?v91) rfl (.inl ⟨by rfl, ?hy91⟩) ?hr91
        case hy91 => (intro w hSw; (try dsimp only at hSw); go_simp; try with_reducible rfl)
        simp only [Act.put, Z1, Z2, Z3, Z4, Z5, Z6]
        refine tkY 41 (v := ?v92) rfl (.inl ⟨by rfl, ?hy92⟩) ?hr92
        case hy92 => (intro w hSw; (try dsimp only at hSw); go_simp; try with_reducible rfl)
        simp only [Act.put, Z1, Z2, Z3, Z4, Z5, Z6]
        refine tkY 42 (v := ?v93) rfl (.inl ⟨by rfl, ?hy93⟩) ?hr93
        case hy93 => (intro w hSw; (try dsimp only at hSw); go_simp; try with_reducible rfl)
        simp only [Act.put, Z1, Z2, Z3, Z4, Z5, Z6]
        refine tkY 43 (v := ?v94) rfl (.inl ⟨by rfl, ?hy94⟩) ?hr94
        case hy94 => (intro w hSw; (try dsimp only at hSw); go_simp; try with_reducible rfl)
        simp only [Act.put, Z1, Z2, Z3, Z4, Z5, Z6]
        refine tkY 44 (v := ?v95) rfl (.inl ⟨by rfl, ?hy95⟩) ?hr95
        case hy95 => (intro w hSw; (try dsimp only at hSw); go_simp; try with_reducible rfl)
        simp only [Act.put, Z1, Z2, Z3, Z4, Z5, Z6]
        refine tkY 45 (v := ?v96) rfl (.inl ⟨by rfl, ?hy96⟩) ?hr96
        case hy96 => (intro w hSw; (try dsimp only at hSw); go_simp; try with_reducible rfl)
        simp only [Act.put, Z1, Z2, Z3, Z4, Z5, Z6]
        refine tkY 46 (v := ?v97) rfl (.inl ⟨by rfl, ?hy97⟩) ?hr97
        case hy97 => (intro w hSw; (try dsimp only at hSw); go_simp; try with_reducible rfl)
        simp only [Act.put, Z1, Z2, Z3, Z4, Z5, Z6]
        refine tkY 47 (v := ?v98) rfl (.inl ⟨by rfl, ?hy98⟩) ?hr98
        case hy98 => (intro w hSw; (try dsimp only at hSw); go_simp; try with_reducible rfl)
        simp only [Act.put, Z1, Z2, Z3, Z4, Z5, Z6]
        refine wpAnyH_ready (rs := [48]) (by kernel_rfl) (by simp) ?_
        refine AllReadyH.cons rfl (fun K hK => ?_) AllReadyH.nil
        go_simp
        go_at_call 34
        have CJ := C.out _ hHeld.1
        rw [hq] at CJ
        refine CJ.mono ?_
        clear CJ
        rintro e w7 ⟨rfl, hbq⟩
        dsimp only
        refine hK.out _ _ ?_ (fun hHeld => ?_)
        ·(try dsimp only)
         exact keepS.out _ _ hHeld hbq
        clear hK K
        try simp only [Act.put, Z1, Z2, Z3, Z4, Z5, Z6]
        refine tkY 49 (v := ?v99) rfl (.inl ⟨by rfl, ?hy99⟩) ?hr99
        case hy99 => (intro w hSw; (try dsimp only at hSw); go_simp; try with_reducible rfl)
        simp only [Act.put, Z1, Z2, Z3, Z4, Z5, Z6]
        refine tkY 50 (v := ?v100) rfl (.inl ⟨by rfl, ?hy100⟩) ?hr100
        case hy100 => (intro w hSw; (try dsimp only at hSw); go_simp; try with_reducible rfl)
        simp only [Act.put, Z1, Z2, Z3, Z4, Z5, Z6]
        refine wpAnyH_done (by kernel_rfl) ?_ _
        have hbW := hHeld.1
        clear hHeld hS1 keepS
        have hbx := hbr.trans (hbW.mono hbr.size)
        clear hbW e1 e2 e3 e4 e5 e6 e7 e8
        repeat' (first | go_skip | go_guarded | go_step)
        go_ret
        have hu' := hu.out
        unfold eq1 at hu'
        rw [q1, q2, q3, hq] at hu'
        exact ⟨ret_b hu'.symm, hbx⟩
      ·skip
       have q3 : (s.toList == s'.toList) = false := by simpa using hs
       have p3 : (s.toList != s'.toList) = true := by simpa using hs
       clear hk hx hs
       have hS0 : (Below wr.heap.size wr wr ∧ wr.cell? ⟨b1, o1 + i * 4, none⟩ = some (.int .i64 k) ∧ wr.cell? ⟨b1, o1 + i * 4 + 1, none⟩ = some (.int .i64 x) ∧ wr.cell? ⟨b1, o1 + i * 4 + 2, none⟩ = some (.string s) ∧ wr.cell? ⟨b1, o1 + i * 4 + 3, none⟩ = some (.slice A3 sub.length c3) ∧ wr.cell? ⟨b2, o2 + i * 4, none⟩ = some (.int .i64 k') ∧ wr.cell? ⟨b2, o2 + i * 4 + 1, none⟩ = some (.int .i64 x') ∧ wr.cell? ⟨b2, o2 + i * 4 + 2, none⟩ = some (.string s') ∧ wr.cell? ⟨b2, o2 + i * 4 + 3, none⟩ = some (.slice A4 sub'.length c4)) := ⟨Below.refl _ _, e1, e2, e3, e4, e5, e6, e7, e8⟩
       have keepS : ∀ v1 v2 : World, (Below wr.heap.size wr v1 ∧ v1.cell? ⟨b1, o1 + i * 4, none⟩ = some (.int .i64 k) ∧ v1.cell? ⟨b1, o1 + i * 4 + 1, none⟩ = some (.int .i64 x) ∧ v1.cell? ⟨b1, o1 + i * 4 + 2, none⟩ = some (.string s) ∧ v1.cell? ⟨b1, o1 + i * 4 + 3, none⟩ = some (.slice A3 sub.length c3) ∧ v1.cell? ⟨b2, o2 + i * 4, none⟩ = some (.int .i64 k') ∧ v1.cell? ⟨b2, o2 + i * 4 + 1, none⟩ = some (.int .i64 x') ∧ v1.cell? ⟨b2, o2 + i * 4 + 2, none⟩ = some (.string s') ∧ v1.cell? ⟨b2, o2 + i * 4 + 3, none⟩ = some (.slice A4 sub'.length c4)) → Below v1.heap.size v1 v2 → (Below wr.heap.size wr v2 ∧ v2.cell? ⟨b1, o1 + i * 4, none⟩ = some (.int .i64 k) ∧ v2.cell? ⟨b1, o1 + i * 4 + 1, none⟩ = some (.int .i64 x) ∧ v2.cell? ⟨b1, o1 + i * 4 + 2, none⟩ = some (.string s) ∧ v2.cell? ⟨b1, o1 + i * 4 + 3, none⟩ = some (.slice A3 sub.length c3) ∧ v2.cell? ⟨b2, o2 + i * 4, none⟩ = some (.int .i64 k') ∧ v2.cell? ⟨b2, o2 + i * 4 + 1, none⟩ = some (.int .i64 x') ∧ v2.cell? ⟨b2, o2 + i * 4 + 2, none⟩ = some (.string s') ∧ v2.cell? ⟨b2, o2 + i * 4 + 3, none⟩ = some (.slice A4 sub'.length c4)) := fun v1 v2 h hb => ⟨h.1.trans (hb.mono h.1.size), (hb.cell (p := ⟨b1, _, none⟩) (Nat.lt_of_lt_of_le hbw1 h.1.size)).trans h.2.1, (hb.cell (p := ⟨b1, _, none⟩) (Nat.lt_of_lt_of_le hbw1 h.1.size)).trans h.2.2.1, (hb.cell (p := ⟨b1, _, none⟩) (Nat.lt_of_lt_of_le hbw1 h.1.size)).trans h.2.2.2.1, (hb.cell (p := ⟨b1, _, none⟩) (Nat.lt_of_lt_of_le hbw1 h.1.size)).trans h.2.2.2.2.1, (hb.cell (p := ⟨b2, _, none⟩) (Nat.lt_of_lt_of_le hbw2 h.1.size)).trans h.2.2.2.2.2.1, (hb.cell (p := ⟨b2, _, none⟩) (Nat.lt_of_lt_of_le hbw2 h.1.size)).trans h.2.2.2.2.2.2.1, (hb.cell (p := ⟨b2, _, none⟩) (Nat.lt_of_lt_of_le hbw2 h.1.size)).trans h.2.2.2.2.2.2.2.1, (hb.cell (p := ⟨b2, _, none⟩) (Nat.lt_of_lt_of_le hbw2 h.1.size)).trans h.2.2.2.2.2.2.2.2⟩
       have hS1 : (Below wr.heap.size wr wr.drew ∧ wr.drew.cell? ⟨b1, o1 + i * 4, none⟩ = some (.int .i64 k) ∧ wr.drew.cell? ⟨b1, o1 + i * 4 + 1, none⟩ = some (.int .i64 x) ∧ wr.drew.cell? ⟨b1, o1 + i * 4 + 2, none⟩ = some (.string s) ∧ wr.drew.cell? ⟨b1, o1 + i * 4 + 3, none⟩ = some (.slice A3 sub.length c3) ∧ wr.drew.cell? ⟨b2, o2 + i * 4, none⟩ = some (.int .i64 k') ∧ wr.drew.cell? ⟨b2, o2 + i * 4 + 1, none⟩ = some (.int .i64 x') ∧ wr.drew.cell? ⟨b2, o2 + i * 4 + 2, none⟩ = some (.string s') ∧ wr.drew.cell? ⟨b2, o2 + i * 4 + 3, none⟩ = some (.slice A4 sub'.length c4)) := keepS _ _ hS0 ((Below.refl _ _).drew)
       replace keepS := Lib.hid keepS
       clear hS0
       go_upto_region 6 with (fail)
       refine wp_region_held_drew (S := fun w' => Below wr.heap.size wr w' ∧ w'.cell? ⟨b1, o1 + i * 4, none⟩ = some (.int .i64 k) ∧ w'.cell? ⟨b1, o1 + i * 4 + 1, none⟩ = some (.int .i64 x) ∧ w'.cell? ⟨b1, o1 + i * 4 + 2, none⟩ = some (.string s) ∧ w'.cell? ⟨b1, o1 + i * 4 + 3, none⟩ = some (.slice A3 sub.length c3) ∧ w'.cell? ⟨b2, o2 + i * 4, none⟩ = some (.int .i64 k') ∧ w'.cell? ⟨b2, o2 + i * 4 + 1, none⟩ = some (.int .i64 x') ∧ w'.cell? ⟨b2, o2 + i * 4 + 2, none⟩ = some (.string s') ∧ w'.cell? ⟨b2, o2 + i * 4 + 3, none⟩ = some (.slice A4 sub'.length c4)) (by kernel_rfl) ?_ (fun hHeld => ?_)
       ·(try dsimp only)
        exact hS1
       refine tkY 0 (v := ?v101) rfl (.inl ⟨by rfl, ?hy101⟩) ?hr101
       case hy101 => (intro w hSw; (try dsimp only at hSw); go_simp; try with_reducible rfl)
       simp only [Act.put, Z1, Z2, Z4, Z5, Z6]
       refine tkY 1 (v := ?v102) rfl (.inl ⟨by rfl, ?hy102⟩) ?hr102
       case hy102 => (intro w hSw; (try dsimp only at hSw); go_simp; try with_reducible rfl)
       simp only [Act.put, Z1, Z2, Z3, Z4, Z5, Z6]
       refine tkY 2 (v := ?v103) rfl (.inl ⟨by rfl, ?hy103⟩) ?hr103
       case hy103 => (intro w hSw; (try dsimp only at hSw); go_simp; try with_reducible rfl)
       simp only [Act.put, Z1, Z2, Z3, Z4, Z5, Z6]
       refine tkY 3 (v := ?v104) rfl (.inl ⟨by rfl, ?hy104⟩) ?hr104
       case hy104 => (intro w hSw; (try dsimp only at hSw); go_simp; try with_reducible rfl)
       simp only [Act.put, Z1, Z2, Z3, Z4, Z5, Z6]
       refine tkY 4 (v := ?v105) rfl (.inl ⟨by rfl, ?hy105⟩) ?hr105
       case hy105 => (intro w hSw; (try dsimp only at hSw); go_simp; try with_reducible rfl)
       simp only [Act.put, Z1, Z2, Z3, Z4, Z5, Z6]
       refine tkY 5 (v := ?v106) rfl (.inl ⟨by rfl, ?hy106⟩) ?hr106
       case hy106 => (intro w hSw; (try dsimp only at hSw); go_simp; try with_reducible rfl)
       simp only [Act.put, Z1, Z2, Z3, Z4, Z5, Z6]
       refine tkY 6 (v := ?v107) rfl (.inl ⟨by rfl, ?hy107⟩) ?hr107
       case hy107 => (intro w hSw; (try dsimp only at hSw); go_simp; try with_reducible rfl)
       simp only [Act.put, Z1, Z2, Z3, Z4, Z5, Z6]
       refine tkY 7 (v := ?v108) rfl (.inl ⟨by rfl, ?hy108⟩) ?hr108
       case hy108 => (intro w hSw; (try dsimp only at hSw); go_simp; try with_reducible rfl)
       simp only [Act.put, Z1, Z2, Z3, Z4, Z5, Z6]
       refine tkY 8 (v := ?v109) rfl (.inl ⟨by rfl, ?hy109⟩) ?hr109
       case hy109 => (intro w hSw; (try dsimp only at hSw); go_simp; try with_reducible rfl)
       simp only [Act.put, Z1, Z2, Z3, Z4, Z5, Z6]
       refine tkY 9 (v := ?v110) rfl (.inl ⟨by rfl, ?hy110⟩) ?hr110
       case hy110 => (intro w hSw; (try dsimp only at hSw); go_simp; try with_reducible rfl)
       simp only [Act.put, Z1, Z2, Z3, Z4, Z5, Z6]
       refine tkY 10 (v := ?v111) rfl (.inl ⟨by rfl, ?hy111⟩) ?hr111
       case hy111 => (intro w hSw; (try dsimp only at hSw); go_simp; try with_reducible rfl)
       simp only [Act.put, Z1, Z2, Z3, Z4, Z5, Z6]
       refine tkY 11 (v := ?v112) rfl (.inl ⟨by rfl, ?hy112⟩) ?hr112
       case hy112 => (intro w hSw; (try dsimp only at hSw); go_simp; try with_reducible rfl)
       simp only [Act.put, Z1, Z2, Z3, Z4, Z5, Z6]
       refine tkY 12 (v := ?v113) rfl (.inl ⟨by rfl, ?hy113⟩) ?hr113
       case hy113 => (intro w hSw; (try dsimp only at hSw); go_simp; try with_reducible rfl)
       simp only [Act.put, Z1, Z2, Z3, Z4, Z5, Z6]
       refine tkY 13 (v := ?v114) rfl (.inl ⟨by rfl, ?hy114⟩) ?hr114
       case hy114 => (intro w hSw; (try dsimp only at hSw); go_simp; try with_reducible rfl)
       simp only [Act.put, Z1, Z2, Z3, Z4, Z5, Z6]
       refine tkY 14 (v := ?v115) rfl (.inl ⟨by rfl, ?hy115⟩) ?hr115
       case hy115 => (intro w hSw; (try dsimp only at hSw); go_simp; try with_reducible rfl)
       simp only [Act.put, Z1, Z2, Z3, Z4, Z5, Z6]
       refine tkY 15 (v := ?v116) rfl (.inl ⟨by rfl, ?hy116⟩) ?hr116
       case hy116 => (intro w hSw; (try dsimp only at hSw); go_simp; try with_reducible rfl)
       simp only [Act.put, Z1, Z2, Z3, Z4, Z5, Z6]
       refine tkY 16 (v := ?v117) rfl (.inl ⟨by rfl, ?hy117⟩) ?hr117
       case hy117 => (intro w hSw; (try dsimp only at hSw); go_simp; try with_reducible rfl)
       simp only [Act.put, Z1, Z2, Z3, Z4, Z5, Z6]
       refine tkY 17 (v := ?v118) rfl (.inl ⟨by rfl, ?hy118⟩) ?hr118
       case hy118 => (intro w hSw; (try dsimp only at hSw); go_simp; try with_reducible rfl)
       simp only [Act.put, Z1, Z2, Z3, Z4, Z5, Z6]
       refine tkY 18 (v := ?v119) rfl (.inl ⟨by rfl, ?hy119⟩) ?hr119
       case hy119 => (intro w hSw; (try dsimp only at hSw); go_simp; try with_reducible rfl)
       simp only [Act.put, Z1, Z2, Z3, Z4, Z5, Z6]
       refine tkY 19 (v := ?v120) rfl (.inl ⟨by rfl, ?hy120⟩) ?hr120
       case hy120 => (intro w hSw; (try dsimp only at hSw); go_simp; try with_reducible rfl)
       simp only [Act.put, Z1, Z2, Z3, Z4, Z5, Z6]
       refine tkY 20 (v := ?v121) rfl (.inl ⟨by rfl, ?hy121⟩) ?hr121
       case hy121 => (intro w hSw; (try dsimp only at hSw); go_simp; try with_reducible rfl)
       simp only [Act.put, Z1, Z2, Z3, Z4, Z5, Z6]
       refine tkY 21 (v := ?v122) rfl (.inl ⟨by rfl, ?hy122⟩) ?hr122
       case hy122 => (intro w hSw; (try dsimp only at hSw); go_simp; try with_reducible rfl)
       simp only [Act.put, Z1, Z2, Z3, Z4, Z5, Z6]
       refine tkY 22 (v := ?v123) rfl (.inl ⟨by rfl, ?hy123⟩) ?hr123
       case hy123 => (intro w hSw; (try dsimp only at hSw); go_simp; try with_reducible rfl)
       simp only [Act.put, Z1, Z2, Z3, Z4, Z5, Z6]
       refine tkY 23 (v := ?v124) rfl (.inl ⟨by rfl, ?hy124⟩) ?hr124
       case hy124 => (intro w hSw; (try dsimp only at hSw); go_simp; try with_reducible rfl)
       simp only [Act.put, Z1, Z2, Z3, Z4, Z5, Z6]
       refine tkY 24 (v := ?v125) rfl (.inl ⟨by rfl, ?hy125⟩) ?hr125
       case hy125 => (intro w hSw; (try dsimp only at hSw); go_simp; try with_reducible rfl)
       simp only [Act.put, Z1, Z2, Z3, Z4, Z5, Z6]
       refine tkY 25 (v := ?v126) rfl (.inl ⟨by rfl, ?hy126⟩) ?hr126
       case hy126 => (intro w hSw; (try dsimp only at hSw); go_simp; try with_reducible rfl)
       simp only [Act.put, Z1, Z2, Z3, Z4, Z5, Z6]
       refine tkY 26 (v := ?v127) rfl (.inl ⟨by rfl, ?hy127⟩) ?hr127
       case hy127 => (intro w hSw; (try dsimp only at hSw); go_simp; try with_reducible rfl)
       simp only [Act.put, Z1, Z2, Z3, Z4, Z5, Z6]
       refine tkY 27 (v := ?v128) rfl (.inl ⟨by rfl, ?hy128⟩) ?hr128
       case hy128 => (intro w hSw; (try dsimp only at hSw); go_simp; try with_reducible rfl)
       simp only [Act.put, Z1, Z2, Z3, Z4, Z5, Z6]
       refine tkY 28 (v := ?v129) rfl (.inl ⟨by rfl, ?hy129⟩) ?hr129
       case hy129 => (intro w hSw; (try dsimp only at hSw); go_simp; try with_reducible rfl)
       simp only [Act.put, Z1, Z2, Z3, Z4, Z5, Z6]
       refine tkY 29 (v := ?v130) rfl (.inl ⟨by rfl, ?hy130⟩) ?hr130
       case hy130 => (intro w hSw; (try dsimp only at hSw); go_simp; try with_reducible rfl)
       simp only [Act.put, Z1, Z2, Z3, Z4, Z5, Z6]
       refine tkY 30 (v := ?v131) rfl (.inl ⟨by rfl, ?hy131⟩) ?hr131
       case hy131 => (intro w hSw; (try dsimp only at hSw); go_simp; try with_reducible rfl)
       simp only [Act.put, Z1, Z2, Z3, Z4, Z5, Z6]
       refine tkY 31 (v := ?v132) rfl (.inl ⟨by rfl, ?hy132⟩) ?hr132
       case hy132 => (intro w hSw; (try dsimp only at hSw); go_simp; try with_reducible rfl)
       simp only [Act.put, Z1, Z2, Z3, Z4, Z5, Z6]
       refine tkY 32 (v := ?v133) rfl (.inl ⟨by rfl, ?hy133⟩) ?hr133
       case hy133 => (intro w hSw; (try dsimp only at hSw); go_simp; try with_reducible rfl)
       simp only [Act.put, Z1, Z2, Z3, Z4, Z5, Z6]
       refine tkY 33 (v := ?v134) rfl (.inl ⟨by rfl, ?hy134⟩) ?hr134
       case hy134 => (intro w hSw; (try dsimp only at hSw); go_simp; try with_reducible rfl)
       simp only [Act.put, Z1, Z2, Z3, Z4, Z5, Z6]
       refine tkY 34 (v := ?v135) rfl (.inl ⟨by rfl, ?hy135⟩) ?hr135
       case hy135 => (intro w hSw; (try dsimp only at hSw); go_simp; try with_reducible rfl)
       simp only [Act.put, Z1, Z2, Z3, Z4, Z5, Z6]
       refine tkY 35 (v := ?v136) rfl (.inl ⟨by rfl, ?hy136⟩) ?hr136
       case hy136 => (intro w hSw; (try dsimp only at hSw); go_simp; try with_reducible rfl)
       simp only [Act.put, Z1, Z2, Z3, Z4, Z5, Z6]
       refine tkY 36 (v := ?v137) rfl (.inl ⟨by rfl, ?hy137⟩) ?hr137
       case hy137 => (intro w hSw; (try dsimp only at hSw); go_simp; try with_reducible rfl)
       simp only [Act.put, Z1, Z2, Z3, Z4, Z5, Z6]
       refine tkY 37 (v := ?v138) rfl (.inl ⟨by rfl, ?hy138⟩) ?hr138
       case hy138 => (intro w hSw; (try dsimp only at hSw); go_simp; try with_reducible rfl)
       simp only [Act.put, Z1, Z2, Z3, Z4, Z5, Z6]
       refine tkN 38 rfl ?_
       simp only [Act.put, Z1, Z2, Z3, Z4, Z5, Z6]
       refine tkN 39 rfl ?_
       simp only [Act.put, Z1, Z2, Z3, Z4, Z5, Z6]
       refine tkN 40 rfl ?_
       simp only [Act.put, Z1, Z2, Z3, Z4, Z5, Z6]
       refine tkN 41 rfl ?_
       simp only [Act.put, Z1, Z2, Z3, Z4, Z5, Z6]
       refine tkN 42 rfl ?_
       simp only [Act.put, Z1, Z2, Z3, Z4, Z5, Z6]
       refine tkN 43 rfl ?_
       simp only [Act.put, Z1, Z2, Z3, Z4, Z5, Z6]
       refine tkN 44 rfl ?_
       simp only [Act.put, Z1, Z2, Z3, Z4, Z5, Z6]
       refine tkN 45 rfl ?_
       simp only [Act.put, Z1, Z2, Z3, Z4, Z5, Z6]
       refine tkN 46 rfl ?_
       simp only [Act.put, Z1, Z2, Z3, Z4, Z5, Z6]
       refine tkN 47 rfl ?_
       simp only [Act.put, Z1, Z2, Z3, Z4, Z5, Z6]
       refine tkN 48 rfl ?_
       simp only [Act.put, Z1, Z2, Z3, Z4, Z5, Z6]
       refine tkN 49 rfl ?_
       simp only [Act.put, Z1, Z2, Z3, Z4, Z5, Z6]
       refine tkY 50 (v := ?v139) rfl (.inl ⟨by rfl, ?hy139⟩) ?hr139
       case hy139 => (intro w hSw; (try dsimp only at hSw); go_simp; try with_reducible rfl)
       simp only [Act.put, Z1, Z2, Z3, Z4, Z5, Z6]
       refine wpAnyH_done (by kernel_rfl) ?_ _
       have hbW := hHeld.1
       clear hHeld hS1 keepS
       have hbx := hbr.trans (hbW.mono hbr.size)
       clear hbW e1 e2 e3 e4 e5 e6 e7 e8
       repeat' (first | go_skip | go_guarded | go_step)
       go_ret
       have hu' := hu.out
       unfold eq1 at hu'
       rw [q1, q2, q3] at hu'
       exact ⟨ret_b (by simpa using hu'.symm), hbx⟩
     ·skip
      have q2 : (x == x') = false := by simpa using hx
      have p2 : (x != x') = true := by simpa using hx
      clear hk hx
      have hS0 : (Below wr.heap.size wr wr ∧ wr.cell? ⟨b1, o1 + i * 4, none⟩ = some (.int .i64 k) ∧ wr.cell? ⟨b1, o1 + i * 4 + 1, none⟩ = some (.int .i64 x) ∧ wr.cell? ⟨b1, o1 + i * 4 + 2, none⟩ = some (.string s) ∧ wr.cell? ⟨b1, o1 + i * 4 + 3, none⟩ = some (.slice A3 sub.length c3) ∧ wr.cell? ⟨b2, o2 + i * 4, none⟩ = some (.int .i64 k') ∧ wr.cell? ⟨b2, o2 + i * 4 + 1, none⟩ = some (.int .i64 x') ∧ wr.cell? ⟨b2, o2 + i * 4 + 2, none⟩ = some (.string s') ∧ wr.cell? ⟨b2, o2 + i * 4 + 3, none⟩ = some (.slice A4 sub'.length c4)) := ⟨Below.refl _ _, e1, e2, e3, e4, e5, e6, e7, e8⟩
      have keepS : ∀ v1 v2 : World, (Below wr.heap.size wr v1 ∧ v1.cell? ⟨b1, o1 + i * 4, none⟩ = some (.int .i64 k) ∧ v1.cell? ⟨b1, o1 + i * 4 + 1, none⟩ = some (.int .i64 x) ∧ v1.cell? ⟨b1, o1 + i * 4 + 2, none⟩ = some (.string s) ∧ v1.cell? ⟨b1, o1 + i * 4 + 3, none⟩ = some (.slice A3 sub.length c3) ∧ v1.cell? ⟨b2, o2 + i * 4, none⟩ = some (.int .i64 k') ∧ v1.cell? ⟨b2, o2 + i * 4 + 1, none⟩ = some (.int .i64 x') ∧ v1.cell? ⟨b2, o2 + i * 4 + 2, none⟩ = some (.string s') ∧ v1.cell? ⟨b2, o2 + i * 4 + 3, none⟩ = some (.slice A4 sub'.length c4)) → Below v1.heap.size v1 v2 → (Below wr.heap.size wr v2 ∧ v2.cell? ⟨b1, o1 + i * 4, none⟩ = some (.int .i64 k) ∧ v2.cell? ⟨b1, o1 + i * 4 + 1, none⟩ = some (.int .i64 x) ∧ v2.cell? ⟨b1, o1 + i * 4 + 2, none⟩ = some (.string s) ∧ v2.cell? ⟨b1, o1 + i * 4 + 3, none⟩ = some (.slice A3 sub.length c3) ∧ v2.cell? ⟨b2, o2 + i * 4, none⟩ = some (.int .i64 k') ∧ v2.cell? ⟨b2, o2 + i * 4 + 1, none⟩ = some (.int .i64 x') ∧ v2.cell? ⟨b2, o2 + i * 4 + 2, none⟩ = some (.string s') ∧ v2.cell? ⟨b2, o2 + i * 4 + 3, none⟩ = some (.slice A4 sub'.length c4)) := fun v1 v2 h hb => ⟨h.1.trans (hb.mono h.1.size), (hb.cell (p := ⟨b1, _, none⟩) (Nat.lt_of_lt_of_le hbw1 h.1.size)).trans h.2.1, (hb.cell (p := ⟨b1, _, none⟩) (Nat.lt_of_lt_of_le hbw1 h.1.size)).trans h.2.2.1, (hb.cell (p := ⟨b1, _, none⟩) (Nat.lt_of_lt_of_le hbw1 h.1.size)).trans h.2.2.2.1, (hb.cell (p := ⟨b1, _, none⟩) (Nat.lt_of_lt_of_le hbw1 h.1.size)).trans h.2.2.2.2.1, (hb.cell (p := ⟨b2, _, none⟩) (Nat.lt_of_lt_of_le hbw2 h.1.size)).trans h.2.2.2.2.2.1, (hb.cell (p := ⟨b2, _, none⟩) (Nat.lt_of_lt_of_le hbw2 h.1.size)).trans h.2.2.2.2.2.2.1, (hb.cell (p := ⟨b2, _, none⟩) (Nat.lt_of_lt_of_le hbw2 h.1.size)).trans h.2.2.2.2.2.2.2.1, (hb.cell (p := ⟨b2, _, none⟩) (Nat.lt_of_lt_of_le hbw2 h.1.size)).trans h.2.2.2.2.2.2.2.2⟩
      have hS1 : (Below wr.heap.size wr wr.drew ∧ wr.drew.cell? ⟨b1, o1 + i * 4, none⟩ = some (.int .i64 k) ∧ wr.drew.cell? ⟨b1, o1 + i * 4 + 1, none⟩ = some (.int .i64 x) ∧ wr.drew.cell? ⟨b1, o1 + i * 4 + 2, none⟩ = some (.string s) ∧ wr.drew.cell? ⟨b1, o1 + i * 4 + 3, none⟩ = some (.slice A3 sub.length c3) ∧ wr.drew.cell? ⟨b2, o2 + i * 4, none⟩ = some (.int .i64 k') ∧ wr.drew.cell? ⟨b2, o2 + i * 4 + 1, none⟩ = some (.int .i64 x') ∧ wr.drew.cell? ⟨b2, o2 + i * 4 + 2, none⟩ = some (.string s') ∧ wr.drew.cell? ⟨b2, o2 + i * 4 + 3, none⟩ = some (.slice A4 sub'.length c4)) := keepS _ _ hS0 ((Below.refl _ _).drew)
      replace keepS := Lib.hid keepS
      clear hS0
      go_upto_region 6 with (fail)
      refine wp_region_held_drew (S := fun w' => Below wr.heap.size wr w' ∧ w'.cell? ⟨b1, o1 + i * 4, none⟩ = some (.int .i64 k) ∧ w'.cell? ⟨b1, o1 + i * 4 + 1, none⟩ = some (.int .i64 x) ∧ w'.cell? ⟨b1, o1 + i * 4 + 2, none⟩ = some (.string s) ∧ w'.cell? ⟨b1, o1 + i * 4 + 3, none⟩ = some (.slice A3 sub.length c3) ∧ w'.cell? ⟨b2, o2 + i * 4, none⟩ = some (.int .i64 k') ∧ w'.cell? ⟨b2, o2 + i * 4 + 1, none⟩ = some (.int .i64 x') ∧ w'.cell? ⟨b2, o2 + i * 4 + 2, none⟩ = some (.string s') ∧ w'.cell? ⟨b2, o2 + i * 4 + 3, none⟩ = some (.slice A4 sub'.length c4)) (by kernel_rfl) ?_ (fun hHeld => ?_)
      ·(try dsimp only)
       exact hS1
      refine tkY 0 (v := ?v140) rfl (.inl ⟨by rfl, ?hy140⟩) ?hr140
      case hy140 => (intro w hSw; (try dsimp only at hSw); go_simp; try with_reducible rfl)
      simp only [Act.put, Z1, Z2, Z4, Z5, Z6]
      refine tkY 1 (v := ?v141) rfl (.inl ⟨by rfl, ?hy141⟩) ?hr141
      case hy141 => (intro w hSw; (try dsimp only at hSw); go_simp; try with_reducible rfl)
      simp only [Act.put, Z1, Z2, Z3, Z4, Z5, Z6]
      refine tkY 2 (v := ?v142) rfl (.inl ⟨by rfl, ?hy142⟩) ?hr142
      case hy142 => (intro w hSw; (try dsimp only at hSw); go_simp; try with_reducible rfl)
      simp only [Act.put, Z1, Z2, Z3, Z4, Z5, Z6]
      refine tkY 3 (v := ?v143) rfl (.inl ⟨by rfl, ?hy143⟩) ?hr143
      case hy143 => (intro w hSw; (try dsimp only at hSw); go_simp; try with_reducible rfl)
      simp only [Act.put, Z1, Z2, Z3, Z4, Z5, Z6]
      refine tkY 4 (v := ?v144) rfl (.inl ⟨by rfl, ?hy144⟩) ?hr144
      case hy144 => (intro w hSw; (try dsimp only at hSw); go_simp; try with_reducible rfl)
      simp only [Act.put, Z1, Z2, Z3, Z4, Z5, Z6]
      refine tkY 5 (v := ?v145) rfl (.inl ⟨by rfl, ?hy145⟩) ?hr145
      case hy145 => (intro w hSw; (try dsimp only at hSw); go_simp; try with_reducible rfl)
      simp only [Act.put, Z1, Z2, Z3, Z4, Z5, Z6]
      refine tkY 6 (v := ?v146) rfl (.inl ⟨by rfl, ?hy146⟩) ?hr146
      case hy146 => (intro w hSw; (try dsimp only at hSw); go_simp; try with_reducible rfl)
      simp only [Act.put, Z1, Z2, Z3, Z4, Z5, Z6]
      refine tkY 7 (v := ?v147) rfl (.inl ⟨by rfl, ?hy147⟩) ?hr147
      case hy147 => (intro w hSw; (try dsimp only at hSw); go_simp; try with_reducible rfl)
      simp only [Act.put, Z1, Z2, Z3, Z4, Z5, Z6]
      refine tkY 8 (v := ?v148) rfl (.inl ⟨by rfl, ?hy148⟩) ?hr148
      case hy148 => (intro w hSw; (try dsimp only at hSw); go_simp; try with_reducible rfl)
      simp only [Act.put, Z1, Z2, Z3, Z4, Z5, Z6]
      refine tkY 9 (v := ?v149) rfl (.inl ⟨by rfl, ?hy149⟩) ?hr149
      case hy149 => (intro w hSw; (try dsimp only at hSw); go_simp; try with_reducible rfl)
      simp only [Act.put, Z1, Z2, Z3, Z4, Z5, Z6]
      refine tkY 10 (v := ?v150) rfl (.inl ⟨by rfl, ?hy150⟩) ?hr150
      case hy150 => (intro w hSw; (try dsimp only at hSw); go_simp; try with_reducible rfl)
      simp only [Act.put, Z1, Z2, Z3, Z4, Z5, Z6]
      refine tkY 11 (v := ?v151) rfl (.inl ⟨by rfl, ?hy151⟩) ?hr151
      case hy151 => (intro w hSw; (try dsimp only at hSw); go_simp; try with_reducible rfl)
      simp only [Act.put, Z1, Z2, Z3, Z4, Z5, Z6]
      refine tkY 12 (v := ?v152) rfl (.inl ⟨by rfl, ?hy152⟩) ?hr152
      case hy152 => (intro w hSw; (try dsimp only at hSw); go_simp; try with_reducible rfl)
      simp only [Act.put, Z1, Z2, Z3, Z4, Z5, Z6]
      refine tkY 13 (v := ?v153) rfl (.inl ⟨by rfl, ?hy153⟩) ?hr153
      case hy153 => (intro w hSw; (try dsimp only at hSw); go_simp; try with_reducible rfl)
      simp only [Act.put, Z1, Z2, Z3, Z4, Z5, Z6]
      refine tkY 14 (v := ?v154) rfl (.inl ⟨by rfl, ?hy154⟩) ?hr154
      case hy154 => (intro w hSw; (try dsimp only at hSw); go_simp; try with_reducible rfl)
      simp only [Act.put, Z1, Z2, Z3, Z4, Z5, Z6]
      refine tkY 15 (v := ?v155) rfl (.inl ⟨by rfl, ?hy155⟩) ?hr155
      case hy155 => (intro w hSw; (try dsimp only at hSw); go_simp; try with_reducible rfl)
      simp only [Act.put, Z1, Z2, Z3, Z4, Z5, Z6]
      refine tkY 16 (v := ?v156) rfl (.inl ⟨by rfl, ?hy156⟩) ?hr156
      case hy156 => (intro w hSw; (try dsimp only at hSw); go_simp; try with_reducible rfl)
      simp only [Act.put, Z1, Z2, Z3, Z4, Z5, Z6]
      refine tkY 17 (v := ?v157) rfl (.inl ⟨by rfl, ?hy157⟩) ?hr157
      case hy157 => (intro w hSw; (try dsimp only at hSw); go_simp; try with_reducible rfl)
      simp only [Act.put, Z1, Z2, Z3, Z4, Z5, Z6]
      refine tkY 18 (v := ?v158) rfl (.inl ⟨by rfl, ?hy158⟩) ?hr158
      case hy158 => (intro w hSw; (try dsimp only at hSw); go_simp; try with_reducible rfl)
      simp only [Act.put, Z1, Z2, Z3, Z4, Z5, Z6]
      refine tkY 19 (v := ?v159) rfl (.inl ⟨by rfl, ?hy159⟩) ?hr159
      case hy159 => (intro w hSw; (try dsimp only at hSw); go_simp; try with_reducible rfl)
      simp only [Act.put, Z1, Z2, Z3, Z4, Z5, Z6]
      refine tkY 20 (v := ?v160) rfl (.inl ⟨by rfl, ?hy160⟩) ?hr160
      case hy160 => (intro w hSw; (try dsimp only at hSw); go_simp; try with_reducible rfl)
      simp only [Act.put, Z1, Z2, Z3, Z4, Z5, Z6]
      refine tkY 21 (v := ?v161) rfl (.inl ⟨by rfl, ?hy161⟩) ?hr161
      case hy161 => (intro w hSw; (try dsimp only at hSw); go_simp; try with_reducible rfl)
      simp only [Act.put, Z1, Z2, Z3, Z4, Z5, Z6]
      refine tkY 22 (v := ?v162) rfl (.inl ⟨by rfl, ?hy162⟩) ?hr162
      case hy162 => (intro w hSw; (try dsimp only at hSw); go_simp; try with_reducible rfl)
      simp only [Act.put, Z1, Z2, Z3, Z4, Z5, Z6]
      refine tkY 23 (v := ?v163) rfl (.inl ⟨by rfl, ?hy163⟩) ?hr163
      case hy163 => (intro w hSw; (try dsimp only at hSw); go_simp; try with_reducible rfl)
      simp only [Act.put, Z1, Z2, Z3, Z4, Z5, Z6]
      refine tkY 24 (v := ?v164) rfl (.inl ⟨by rfl, ?hy164⟩) ?hr164
      case hy164 => (intro w hSw; (try dsimp only at hSw); go_simp; try with_reducible rfl)
      simp only [Act.put, Z1, Z2, Z3, Z4, Z5, Z6]
      refine tkN 25 rfl ?_
      simp only [Act.put, Z1, Z2, Z3, Z4, Z5, Z6]
      refine tkN 26 rfl ?_
      simp only [Act.put, Z1, Z2, Z3, Z4, Z5, Z6]
      refine tkN 27 rfl ?_
      simp only [Act.put, Z1, Z2, Z3, Z4, Z5, Z6]
      refine tkN 28 rfl ?_
      simp only [Act.put, Z1, Z2, Z3, Z4, Z5, Z6]
      refine tkN 29 rfl ?_
      simp only [Act.put, Z1, Z2, Z3, Z4, Z5, Z6]
      refine tkN 30 rfl ?_
      simp only [Act.put, Z1, Z2, Z3, Z4, Z5, Z6]
      refine tkN 31 rfl ?_
      simp only [Act.put, Z1, Z2, Z3, Z4, Z5, Z6]
      refine tkN 32 rfl ?_
      simp only [Act.put, Z1, Z2, Z3, Z4, Z5, Z6]
      refine tkN 33 rfl ?_
      simp only [Act.put, Z1, Z2, Z3, Z4, Z5, Z6]
      refine tkN 34 rfl ?_
      simp only [Act.put, Z1, Z2, Z3, Z4, Z5, Z6]
      refine tkN 35 rfl ?_
      simp only [Act.put, Z1, Z2, Z3, Z4, Z5, Z6]
      refine tkY 36 (v := ?v165) rfl (.inl ⟨by rfl, ?hy165⟩) ?hr165
      case hy165 => (intro w hSw; (try dsimp only at hSw); go_simp; try with_reducible rfl)
      simp only [Act.put, Z1, Z2, Z3, Z4, Z5, Z6]
      refine tkY 37 (v := ?v166) rfl (.inl ⟨by rfl, ?hy166⟩) ?hr166
      case hy166 => (intro w hSw; (try dsimp only at hSw); go_simp; try with_reducible rfl)
      simp only [Act.put, Z1, Z2, Z3, Z4, Z5, Z6]
      refine tkN 38 rfl ?_
      simp only [Act.put, Z1, Z2, Z3, Z4, Z5, Z6]
      refine tkN 39 rfl ?_
      simp only [Act.put, Z1, Z2, Z3, Z4, Z5, Z6]
      refine tkN 40 rfl ?_
      simp only [Act.put, Z1, Z2, Z3, Z4, Z5, Z6]
      refine tkN 41 rfl ?_
      simp only [Act.put, Z1, Z2, Z3, Z4, Z5, Z6]
      refine tkN 42 rfl ?_
      simp only [Act.put, Z1, Z2, Z3, Z4, Z5, Z6]
      refine tkN 43 rfl ?_
      simp only [Act.put, Z1, Z2, Z3, Z4, Z5, Z6]
      refine tkN 44 rfl ?_
      simp only [Act.put, Z1, Z2, Z3, Z4, Z5, Z6]
      refine tkN 45 rfl ?_
      simp only [Act.put, Z1, Z2, Z3, Z4, Z5, Z6]
      refine tkN 46 rfl ?_
      simp only [Act.put, Z1, Z2, Z3, Z4, Z5, Z6]
      refine tkN 47 rfl ?_
      simp only [Act.put, Z1, Z2, Z3, Z4, Z5, Z6]
      refine tkN 48 rfl ?_
      simp only [Act.put, Z1, Z2, Z3, Z4, Z5, Z6]
      refine tkN 49 rfl ?_
      simp only [Act.put, Z1, Z2, Z3, Z4, Z5, Z6]
      refine tkY 50 (v := ?v167) rfl (.inl ⟨by rfl, ?hy167⟩) ?hr167
      case hy167 => (intro w hSw; (try dsimp only at hSw); go_simp; try with_reducible rfl)
      simp only [Act.put, Z1, Z2, Z3, Z4, Z5, Z6]
      refine wpAnyH_done (by kernel_rfl) ?_ _
      have hbW := hHeld.1
      clear hHeld hS1 keepS
      have hbx := hbr.trans (hbW.mono hbr.size)
      clear hbW e1 e2 e3 e4 e5 e6 e7 e8
      repeat' (first | go_skip | go_guarded | go_step)
      go_ret
      have hu' := hu.out
      unfold eq1 at hu'
      rw [q1, q2] at hu'
      exact ⟨ret_b (by simpa using hu'.symm), hbx⟩
    ·skip
     have q1 : (k == k') = false := by simpa using hk
     have p1 : (k != k') = true := by simpa using hk
     clear hk
     have hS0 : (Below wr.heap.size wr wr ∧ wr.cell? ⟨b1, o1 + i * 4, none⟩ = some (.int .i64 k) ∧ wr.cell? ⟨b1, o1 + i * 4 + 1, none⟩ = some (.int .i64 x) ∧ wr.cell? ⟨b1, o1 + i * 4 + 2, none⟩ = some (.string s) ∧ wr.cell? ⟨b1, o1 + i * 4 + 3, none⟩ = some (.slice A3 sub.length c3) ∧ wr.cell? ⟨b2, o2 + i * 4, none⟩ = some (.int .i64 k') ∧ wr.cell? ⟨b2, o2 + i * 4 + 1, none⟩ = some (.int .i64 x') ∧ wr.cell? ⟨b2, o2 + i * 4 + 2, none⟩ = some (.string s') ∧ wr.cell? ⟨b2, o2 + i * 4 + 3, none⟩ = some (.slice A4 sub'.length c4)) := ⟨Below.refl _ _, e1, e2, e3, e4, e5, e6, e7, e8⟩
     have keepS : ∀ v1 v2 : World, (Below wr.heap.size wr v1 ∧ v1.cell? ⟨b1, o1 + i * 4, none⟩ = some (.int .i64 k) ∧ v1.cell? ⟨b1, o1 + i * 4 + 1, none⟩ = some (.int .i64 x) ∧ v1.cell? ⟨b1, o1 + i * 4 + 2, none⟩ = some (.string s) ∧ v1.cell? ⟨b1, o1 + i * 4 + 3, none⟩ = some (.slice A3 sub.length c3) ∧ v1.cell? ⟨b2, o2 + i * 4, none⟩ = some (.int .i64 k') ∧ v1.cell? ⟨b2, o2 + i * 4 + 1, none⟩ = some (.int .i64 x') ∧ v1.cell? ⟨b2, o2 + i * 4 + 2, none⟩ = some (.string s') ∧ v1.cell? ⟨b2, o2 + i * 4 + 3, none⟩ = some (.slice A4 sub'.length c4)) → Below v1.heap.size v1 v2 → (Below wr.heap.size wr v2 ∧ v2.cell? ⟨b1, o1 + i * 4, none⟩ = some (.int .i64 k) ∧ v2.cell? ⟨b1, o1 + i * 4 + 1, none⟩ = some (.int .i64 x) ∧ v2.cell? ⟨b1, o1 + i * 4 + 2, none⟩ = some (.string s) ∧ v2.cell? ⟨b1, o1 + i * 4 + 3, none⟩ = some (.slice A3 sub.length c3) ∧ v2.cell? ⟨b2, o2 + i * 4, none⟩ = some (.int .i64 k') ∧ v2.cell? ⟨b2, o2 + i * 4 + 1, none⟩ = some (.int .i64 x') ∧ v2.cell? ⟨b2, o2 + i * 4 + 2, none⟩ = some (.string s') ∧ v2.cell? ⟨b2, o2 + i * 4 + 3, none⟩ = some (.slice A4 sub'.length c4)) := fun v1 v2 h hb => ⟨h.1.trans (hb.mono h.1.size), (hb.cell (p := ⟨b1, _, none⟩) (Nat.lt_of_lt_of_le hbw1 h.1.size)).trans h.2.1, (hb.cell (p := ⟨b1, _, none⟩) (Nat.lt_of_lt_of_le hbw1 h.1.size)).trans h.2.2.1, (hb.cell (p := ⟨b1, _, none⟩) (Nat.lt_of_lt_of_le hbw1 h.1.size)).trans h.2.2.2.1, (hb.cell (p := ⟨b1, _, none⟩) (Nat.lt_of_lt_of_le hbw1 h.1.size)).trans h.2.2.2.2.1, (hb.cell (p := ⟨b2, _, none⟩) (Nat.lt_of_lt_of_le hbw2 h.1.size)).trans h.2.2.2.2.2.1, (hb.cell (p := ⟨b2, _, none⟩) (Nat.lt_of_lt_of_le hbw2 h.1.size)).trans h.2.2.2.2.2.2.1, (hb.cell (p := ⟨b2, _, none⟩) (Nat.lt_of_lt_of_le hbw2 h.1.size)).trans h.2.2.2.2.2.2.2.1, (hb.cell (p := ⟨b2, _, none⟩) (Nat.lt_of_lt_of_le hbw2 h.1.size)).trans h.2.2.2.2.2.2.2.2⟩
     have hS1 : (Below wr.heap.size wr wr.drew ∧ wr.drew.cell? ⟨b1, o1 + i * 4, none⟩ = some (.int .i64 k) ∧ wr.drew.cell? ⟨b1, o1 + i * 4 + 1, none⟩ = some (.int .i64 x) ∧ wr.drew.cell? ⟨b1, o1 + i * 4 + 2, none⟩ = some (.string s) ∧ wr.drew.cell? ⟨b1, o1 + i * 4 + 3, none⟩ = some (.slice A3 sub.length c3) ∧ wr.drew.cell? ⟨b2, o2 + i * 4, none⟩ = some (.int .i64 k') ∧ wr.drew.cell? ⟨b2, o2 + i * 4 + 1, none⟩ = some (.int .i64 x') ∧ wr.drew.cell? ⟨b2, o2 + i * 4 + 2, none⟩ = some (.string s') ∧ wr.drew.cell? ⟨b2, o2 + i * 4 + 3, none⟩ = some (.slice A4 sub'.length c4)) := keepS _ _ hS0 ((Below.refl _ _).drew)
     replace keepS := Lib.hid keepS
     clear hS0
     go_upto_region 6 with (fail)
     refine wp_region_held_drew (S := fun w' => Below wr.heap.size wr w' ∧ w'.cell? ⟨b1, o1 + i * 4, none⟩ = some (.int .i64 k) ∧ w'.cell? ⟨b1, o1 + i * 4 + 1, none⟩ = some (.int .i64 x) ∧ w'.cell? ⟨b1, o1 + i * 4 + 2, none⟩ = some (.string s) ∧ w'.cell? ⟨b1, o1 + i * 4 + 3, none⟩ = some (.slice A3 sub.length c3) ∧ w'.cell? ⟨b2, o2 + i * 4, none⟩ = some (.int .i64 k') ∧ w'.cell? ⟨b2, o2 + i * 4 + 1, none⟩ = some (.int .i64 x') ∧ w'.cell? ⟨b2, o2 + i * 4 + 2, none⟩ = some (.string s') ∧ w'.cell? ⟨b2, o2 + i * 4 + 3, none⟩ = some (.slice A4 sub'.length c4)) (by kernel_rfl) ?_ (fun hHeld => ?_)
     ·(try dsimp only)
      exact hS1
     refine tkY 0 (v := ?v168) rfl (.inl ⟨by rfl, ?hy168⟩) ?hr168
     case hy168 => (intro w hSw; (try dsimp only at hSw); go_simp; try with_reducible rfl)
     simp only [Act.put, Z1, Z2, Z4, Z5, Z6]
     refine tkY 1 (v := ?v169) rfl (.inl ⟨by rfl, ?hy169⟩) ?hr169
     case hy169 => (intro w hSw; (try dsimp only at hSw); go_simp; try with_reducible rfl)
     simp only [Act.put, Z1, Z2, Z3, Z4, Z5, Z6]
     refine tkY 2 (v := ?v170) rfl (.inl ⟨by rfl, ?hy170⟩) ?hr170
     case hy170 => (intro w hSw; (try dsimp only at hSw); go_simp; try with_reducible rfl)
     simp only [Act.put, Z1, Z2, Z3, Z4, Z5, Z6]
     refine tkY 3 (v := ?v171) rfl (.inl ⟨by rfl, ?hy171⟩) ?hr171
     case hy171 => (intro w hSw; (try dsimp only at hSw); go_simp; try with_reducible rfl)
     simp only [Act.put, Z1, Z2, Z3, Z4, Z5, Z6]
     refine tkY 4 (v := ?v172) rfl (.inl ⟨by rfl, ?hy172⟩) ?hr172
     case hy172 => (intro w hSw; (try dsimp only at hSw); go_simp; try with_reducible rfl)
     simp only [Act.put, Z1, Z2, Z3, Z4, Z5, Z6]
     refine tkY 5 (v := ?v173) rfl (.inl ⟨by rfl, ?hy173⟩) ?hr173
     case hy173 => (intro w hSw; (try dsimp only at hSw); go_simp; try with_reducible rfl)
     simp only [Act.put, Z1, Z2, Z3, Z4, Z5, Z6]
     refine tkY 6 (v := ?v174) rfl (.inl ⟨by rfl, ?hy174⟩) ?hr174
     case hy174 => (intro w hSw; (try dsimp only at hSw); go_simp; try with_reducible rfl)
     simp only [Act.put, Z1, Z2, Z3, Z4, Z5, Z6]
     refine tkY 7 (v := ?v175) rfl (.inl ⟨by rfl, ?hy175⟩) ?hr175
     case hy175 => (intro w hSw; (try dsimp only at hSw); go_simp; try with_reducible rfl)
     simp only [Act.put, Z1, Z2, Z3, Z4, Z5, Z6]
     refine tkY 8 (v := ?v176) rfl (.inl ⟨by rfl, ?hy176⟩) ?hr176
     case hy176 => (intro w hSw; (try dsimp only at hSw); go_simp; try with_reducible rfl)
     simp only [Act.put, Z1, Z2, Z3, Z4, Z5, Z6]
     refine tkY 9 (v := ?v177) rfl (.inl ⟨by rfl, ?hy177⟩) ?hr177
     case hy177 => (intro w hSw; (try dsimp only at hSw); go_simp; try with_reducible rfl)
     simp only [Act.put, Z1, Z2, Z3, Z4, Z5, Z6]
     refine tkY 10 (v := ?v178) rfl (.inl ⟨by rfl, ?hy178⟩) ?hr178
     case hy178 => (intro w hSw; (try dsimp only at hSw); go_simp; try with_reducible rfl)
     simp only [Act.put, Z1, Z2, Z3, Z4, Z5, Z6]
     refine tkY 11 (v := ?v179) rfl (.inl ⟨by rfl, ?hy179⟩) ?hr179
     case hy179 => (intro w hSw; (try dsimp only at hSw); go_simp; try with_reducible rfl)
     simp only [Act.put, Z1, Z2, Z3, Z4, Z5, Z6]
     refine tkN 12 rfl ?_
     simp only [Act.put, Z1, Z2, Z3, Z4, Z5, Z6]
     refine tkN 13 rfl ?_
     simp only [Act.put, Z1, Z2, Z3, Z4, Z5, Z6]
     refine tkN 14 rfl ?_
     simp only [Act.put, Z1, Z2, Z3, Z4, Z5, Z6]
     refine tkN 15 rfl ?_
     simp only [Act.put, Z1, Z2, Z3, Z4, Z5, Z6]
     refine tkN 16 rfl ?_
     simp only [Act.put, Z1, Z2, Z3, Z4, Z5, Z6]
     refine tkN 17 rfl ?_
     simp only [Act.put, Z1, Z2, Z3, Z4, Z5, Z6]
     refine tkN 18 rfl ?_
     simp only [Act.put, Z1, Z2, Z3, Z4, Z5, Z6]
     refine tkN 19 rfl ?_
     simp only [Act.put, Z1, Z2, Z3, Z4, Z5, Z6]
     refine tkN 20 rfl ?_
     simp only [Act.put, Z1, Z2, Z3, Z4, Z5, Z6]
     refine tkN 21 rfl ?_
     simp only [Act.put, Z1, Z2, Z3, Z4, Z5, Z6]
     refine tkN 22 rfl ?_
     simp only [Act.put, Z1, Z2, Z3, Z4, Z5, Z6]
     refine tkY 23 (v := ?v180) rfl (.inl ⟨by rfl, ?hy180⟩) ?hr180
     case hy180 => (intro w hSw; (try dsimp only at hSw); go_simp; try with_reducible rfl)
     simp only [Act.put, Z1, Z2, Z3, Z4, Z5, Z6]
     refine tkY 24 (v := ?v181) rfl (.inl ⟨by rfl, ?hy181⟩) ?hr181
     case hy181 => (intro w hSw; (try dsimp only at hSw); go_simp; try with_reducible rfl)
     simp only [Act.put, Z1, Z2, Z3, Z4, Z5, Z6]
     refine tkN 25 rfl ?_
     simp only [Act.put, Z1, Z2, Z3, Z4, Z5, Z6]
     refine tkN 26 rfl ?_
     simp only [Act.put, Z1, Z2, Z3, Z4, Z5, Z6]
     refine tkN 27 rfl ?_
     simp only [Act.put, Z1, Z2, Z3, Z4, Z5, Z6]
     refine tkN 28 rfl ?_
     simp only [Act.put, Z1, Z2, Z3, Z4, Z5, Z6]
     refine tkN 29 rfl ?_
     simp only [Act.put, Z1, Z2, Z3, Z4, Z5, Z6]
     refine tkN 30 rfl ?_
     simp only [Act.put, Z1, Z2, Z3, Z4, Z5, Z6]
     refine tkN 31 rfl ?_
     simp only [Act.put, Z1, Z2, Z3, Z4, Z5, Z6]
     refine tkN 32 rfl ?_
     simp only [Act.put, Z1, Z2, Z3, Z4, Z5, Z6]
     refine tkN 33 rfl ?_
     simp only [Act.put, Z1, Z2, Z3, Z4, Z5, Z6]
     refine tkN 34 rfl ?_
     simp only [Act.put, Z1, Z2, Z3, Z4, Z5, Z6]
     refine tkN 35 rfl ?_
     simp only [Act.put, Z1, Z2, Z3, Z4, Z5, Z6]
     refine tkY 36 (v := ?v182) rfl (.inl ⟨by rfl, ?hy182⟩) ?hr182
     case hy182 => (intro w hSw; (try dsimp only at hSw); go_simp; try with_reducible rfl)
     simp only [Act.put, Z1, Z2, Z3, Z4, Z5, Z6]
     refine tkY 37 (v := ?v183) rfl (.inl ⟨by rfl, ?hy183⟩) ?hr183
     case hy183 => (intro w hSw; (try dsimp only at hSw); go_simp; try with_reducible rfl)
     simp only [Act.put, Z1, Z2, Z3, Z4, Z5, Z6]
     refine tkN 38 rfl ?_
     simp only [Act.put, Z1, Z2, Z3, Z4, Z5, Z6]
     refine tkN 39 rfl ?_
     simp only [Act.put, Z1, Z2, Z3, Z4, Z5, Z6]
     refine tkN 40 rfl ?_
     simp only [Act.put, Z1, Z2, Z3, Z4, Z5, Z6]
     refine tkN 41 rfl ?_
     simp only [Act.put, Z1, Z2, Z3, Z4, Z5, Z6]
     refine tkN 42 rfl ?_
     simp only [Act.put, Z1, Z2, Z3, Z4, Z5, Z6]
     refine tkN 43 rfl ?_
     simp only [Act.put, Z1, Z2, Z3, Z4, Z5, Z6]
     refine tkN 44 rfl ?_
     simp only [Act.put, Z1, Z2, Z3, Z4, Z5, Z6]
     refine tkN 45 rfl ?_
     simp only [Act.put, Z1, Z2, Z3, Z4, Z5, Z6]
     refine tkN 46 rfl ?_
     simp only [Act.put, Z1, Z2, Z3, Z4, Z5, Z6]
     refine tkN 47 rfl ?_
     simp only [Act.put, Z1, Z2, Z3, Z4, Z5, Z6]
     refine tkN 48 rfl ?_
     simp only [Act.put, Z1, Z2, Z3, Z4, Z5, Z6]
     refine tkN 49 rfl ?_
     simp only [Act.put, Z1, Z2, Z3, Z4, Z5, Z6]
     refine tkY 50 (v := ?v184) rfl (.inl ⟨by rfl, ?hy184⟩) ?hr184
     case hy184 => (intro w hSw; (try dsimp only at hSw); go_simp; try with_reducible rfl)
     simp only [Act.put, Z1, Z2, Z3, Z4, Z5, Z6]
     refine wpAnyH_done (by kernel_rfl) ?_ _
     have hbW := hHeld.1
     clear hHeld hS1 keepS
     have hbx := hbr.trans (hbW.mono hbr.size)
     clear hbW e1 e2 e3 e4 e5 e6 e7 e8
     repeat' (first | go_skip | go_guarded | go_step)
     go_ret
     have hu' := hu.out
     unfold eq1 at hu'
     rw [q1] at hu'
     exact ⟨ret_b (by simpa using hu'.symm), hbx⟩
   ·repeat' (first | go_skip | go_guarded | go_step)
    go_ret
    rw [hu, eqF_end (by omega) (by omega)]
    exact ⟨rfl, hbr⟩
 ·have hn : ((f.length : Int) == (g.length : Int)) = false := by simp; omega
  have hn' : ((f.length : Int) != (g.length : Int)) = true := by simp; omega
  rw [eqF_len hfg]
  clear hfg
  go_enter Tryz.func34, Tryz.ntmps34
  repeat' (first | go_skip | go_guarded | go_step)
  go_ret
  exact ⟨rfl, Below.refl _ _⟩
theorem rsame_any_all : ∀ (f : Flds) (i : Nat) (k x : Int) (s : ByteArray) (sub : Flds), f.get? i = some (k, x, s, sub) → RSame sub
 | .nil, i, _, _, _, _, h => by simp [Flds.get?] at h
 | .cons k x s sub r, 0, _, _, _, _, h => by
  simp only [Flds.get?, Option.some.injEq, Prod.mk.injEq] at h
  obtain ⟨rfl, rfl, rfl, rfl⟩ := h
  exact rsame_body sub (rsame_any_all sub)
 | .cons _ _ _ _ r, i + 1, k, x, s, sub, h => rsame_any_all r i k x s sub h
theorem rsame_any (f : Flds) : RSame f := rsame_body f (rsame_any_all f)
end Go.Proofs.YtgdapkglofchjaaGreatDoor
