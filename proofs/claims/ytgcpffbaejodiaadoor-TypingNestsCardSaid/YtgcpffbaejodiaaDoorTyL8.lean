/- Typing: the law about nesting. -/
import Derived.Test.YtgcpffbaejodiaaDoorTyL1
namespace Go.Proofs.YtgcpffbaejodiaaDoor
open Go.RowKit
/-- n lists around int -/
def nest : Nat → VT
  | 0 => .base 3
  | n + 1 => .of 5 (nest n)
theorem nest_ok : ∀ n, (nest n).Ok
  | 0 => ⟨by decide, by decide, by decide⟩
  | n + 1 => ⟨.inl rfl, nest_ok n⟩
theorem nest_depth : ∀ n, (nest n).depth = n + 1
  | 0 => rfl
  | n + 1 => by show (nest n).depth + 1 = n + 1 + 1; rw [nest_depth n]
theorem nest_len : ∀ n, (VT.text (nest n)).length = 6 * n + 3
  | 0 => rfl
  | n + 1 => by
    show (VT.nameK 5 ++ 40 :: (VT.text (nest n) ++ [41])).length = _
    simp only [List.length_append, List.length_cons, List.length_nil, nest_len n]
    show 4 + _ = _
    omega
theorem nest_text (n : Nat) : VT.text (nest (n + 1)) = ([108, 105, 115, 116, 40] ++ VT.text (nest n)) ++ [41] := by
  show VT.nameK 5 ++ 40 :: (VT.text (nest n) ++ [41]) = _
  simp [VT.nameK]
theorem nest_parse {n : Nat} (h : n ≤ 600) : parseE (VT.text (nest n)) = if n < 16 then 0 else 13 := by
  have hl := nest_len n
  have hn : ¬ 4096 < (VT.text (nest n)).length := by omega
  have hp := VT.parse_text (nest_ok n)
  have hd := nest_depth n
  by_cases h16 : n < 16
  · rw [if_pos h16, parseE_some hn hp (by omega)]
  · rw [if_neg h16, parseE_deep hn hp (by omega)]
theorem nest_valid (n : Nat) : validT (ofV (nest n)) = if n < 16 then 0 else 13 := by
  rw [valid_of (nest_ok n), nest_depth]
  by_cases h16 : n < 16
  · rw [if_pos h16, if_pos (by omega)]
  · rw [if_neg h16, if_neg (by omega)]
set_option maxRecDepth 100000 in
set_option maxHeartbeats 6000000 in
theorem nests_law (N : Nat) (w : World) (hN : N ≤ 255) : Calls Tryd.prog 10 #[.int .u8 (N : Int)] w fun e w' => e = .returned (.bool true) ∧ Below w.heap.size w w' := by
  have hcv : IntKind.i64.wrap (N : Int) = (N : Int) := IntWalk.i64_in _ (by omega)
  go_enter Tryd.func10, Tryd.ntmps10
  go_upto_region 2 with (fail)
  generalize hx_ : World.alloc w _ = wo1
  have hO1 : OwnB w wo1 [(w.heap.size, [.int .i64 3, .slice none 0 0])] := by rw [← hx_]; exact (OwnB.refl w).new #[.int .i64 3, .slice none 0 0] _ (g := w.heap.size)
  clear hx_
  have c0_0 : wo1.cell? ⟨w.heap.size, 0, none⟩ = some (.int .i64 3) := hO1.c 0 0
  have c0_1 : wo1.cell? ⟨w.heap.size, 1, none⟩ = some (.slice none 0 0) := hO1.c 0 1
  have cf0 := hO1.fr 0
  have hsz : w.heap.size < wo1.heap.size := hO1.lt 0
  repeat' ((fail_if_success at_builtin); (first | go_skip | go_guarded | go_step))
  go_loopw [4, 5] (fun u4 u5 wr => ∃ (i : Nat) (A : Option Addr) (n c : Nat), i ≤ N ∧ u5 = .int .i64 (i : Int) ∧ u4 = .string (strS (VT.text (nest i))) ∧ OwnB w wr [(w.heap.size, [.int .i64 ((nest i).kind : Int), .slice A n c])] ∧ RV wr (fun b => w.heap.size < b ∧ b < wr.heap.size) (nest i) [.int .i64 ((nest i).kind : Int), .slice A n c]) (fun _ u5 _ => N - (intOf u5).toNat)
  case atStart => exact ⟨0, none, 0, 0, Nat.zero_le _, rfl, rfl, hO1, rv_scalar _ _ 3⟩
  case round =>
    clear c0_0 c0_1 cf0 hO1 hsz
    obtain ⟨i, A, n, c, hi, rfl, rfl, hO2, hr⟩ := hrel
    have hlen := nest_len i
    have hlo := hO2.lt 0
    have c0_0 : wr.cell? ⟨w.heap.size, 0, none⟩ = some (.int .i64 ((nest i).kind : Int)) := hO2.c 0 0
    have c0_1 : wr.cell? ⟨w.heap.size, 1, none⟩ = some (.slice A n c) := hO2.c 0 1
    have cf0 := hO2.fr 0
    have i1 : (0 : Int) ≤ (i : Int) := by omega
    have i2 : IntKind.i64.wrap ((i : Int) + 1) = ((i + 1 : Nat) : Int) := by rw [IntWalk.i64_in _ (by omega)]; omega
    by_cases hlt : i < N
    · have i3 : (i : Int) < (N : Int) := by omega
      have htx := nest_text i
      replace htx := Lib.hid htx
      have hm_ : ∀ ob, OwnB w (wr.alloc ob) [(w.heap.size, [.int .i64 ((nest i).kind : Int), .slice A n c])] := fun ob => hO2.kept ((Below.refl _ _).alloc (Nat.le_refl _) _)
      have m0_0 : ∀ ob, (wr.alloc ob).cell? ⟨w.heap.size, 0, none⟩ = some (.int .i64 ((nest i).kind : Int)) := fun ob => (hm_ ob).c 0 0
      have m0_1 : ∀ ob, (wr.alloc ob).cell? ⟨w.heap.size, 1, none⟩ = some (.slice A n c) := fun ob => (hm_ ob).c 0 1
      have mf0 : ∀ ob j, (wr.alloc ob).frozen? ⟨w.heap.size, j, none⟩ = false := fun ob => (hm_ ob).fr 0
      clear hm_
      have htl : (VT.text (nest i)).length ≤ 2000 := by omega
      generalize htt : VT.text (nest i) = tt at *
      have sz1 : ¬ 9223372036854775807 < 5 + tt.length := by omega
      have sz2 : ¬ 9223372036854775807 < 5 + tt.length + 1 := by omega
      replace htt := Lib.hid htt
      go_upto_region 6 with (fail)
      clear m0_0 m0_1 mf0
      have hO3 := (hO2.store 0 rfl 0 (.int .i64 5)).store 0 rfl 1 (.slice (some ⟨wr.heap.size, 0, none⟩) 1 1)
      have hr3 := RV.set2 (g := w.heap.size) (.int .i64 5) (.slice (some ⟨wr.heap.size, 0, none⟩) 1 1) (fun b h => by have := h.1; omega) hr
      have hs3 : ((wr.setCell ⟨w.heap.size, 0, none⟩ (.int .i64 5)).setCell ⟨w.heap.size, 1, none⟩ (.slice (some ⟨wr.heap.size, 0, none⟩) 1 1)).heap.size = wr.heap.size := by simp [World.setCell]
      generalize hx_ : World.setCell (World.setCell wr _ _) _ _ = w3 at hO3 hr3 hs3 ⊢
      clear hx_
      have hC4 := CellsAt.new w3 #[.int .i64 ((nest i).kind : Int), .slice A n c] 24
      rw [hs3] at hC4
      have hO4 := hO3.kept ((Below.refl _ _).alloc (Nat.le_refl _) (.cells #[.int .i64 ((nest i).kind : Int), .slice A n c] 24))
      have hr4 := RV.at_ hr3 (fun b h => by rw [hs3]; exact h.2) ((Below.refl _ _).alloc (Nat.le_refl _) (.cells #[.int .i64 ((nest i).kind : Int), .slice A n c] 24))
      have hs4 : (w3.alloc (.cells #[.int .i64 ((nest i).kind : Int), .slice A n c] 24)).heap.size = wr.heap.size + 1 := by simp [hs3]
      generalize hx_ : World.alloc w3 _ = w4 at hC4 hO4 hr4 hs4 ⊢
      clear hx_ hO3 hr3 hO2 hr c0_0 c0_1 cf0
      repeat' ((fail_if_success at_builtin); (first | go_skip | go_guarded | go_step))
      go_roundw
      case rel =>
        refine ⟨i + 1, some ⟨wr.heap.size, 0, none⟩, 1, 1, by omega, by first | rfl | go_num, ?_, hO4, ?_⟩
        · rw [htx.out, ← strS_app, ← strS_app]
        · exact rv_mk hC4 ⟨by omega, by omega⟩ (hr4.imp (fun b h => ⟨h.1, by have := h.2; omega⟩))
      case measure => (try go_num); (try simp [intOf]); (try omega)
    · obtain rfl : i = N := by omega
      have i3 : ¬ (i : Int) < (i : Int) := by omega
      by_cases h16 : i < 16
      · have hpe := nest_parse (n := i) (by omega)
        have hva := nest_valid i
        rw [if_pos h16] at hpe hva
        have g16 : (i : Int) < 16 := by omega
        replace hpe := Lib.hid hpe
        replace hva := Lib.hid hva
        repeat' ((fail_if_success at_builtin); (first | go_skip | go_guarded | go_step))
        have CJ := tparse_any (strS (VT.text (nest i))) wr
        rw [strS_list, hpe.out] at CJ
        refine CJ.mono ?_
        clear CJ
        rintro e w4 ⟨A5, n5, c5, rfl, hX, hb4⟩
        dsimp only
        clear hX
        have hr4 := RV.at_ hr (fun b h => h.2) hb4
        have hs4 := hb4.size
        have hO3 : OwnB w w4 [(w.heap.size, [.int .i64 ((nest i).kind : Int), .slice A n c])] := hO2.kept hb4
        clear c0_0 c0_1 cf0 hO2
        have c0_0 : w4.cell? ⟨w.heap.size, 0, none⟩ = some (.int .i64 ((nest i).kind : Int)) := hO3.c 0 0
        have c0_1 : w4.cell? ⟨w.heap.size, 1, none⟩ = some (.slice A n c) := hO3.c 0 1
        have cf0 := hO3.fr 0
        go_upto_region 11 with (fail)
        generalize hx_ : World.alloc w4 _ = wo4
        have hO4 : OwnB w wo4 [(w4.heap.size, [.int .i64 ((parseV (VT.text (nest i))).kind : Int), .slice A5 n5 c5]), (w.heap.size, [.int .i64 ((nest i).kind : Int), .slice A n c])] := by rw [← hx_]; exact hO3.new #[.int .i64 ((parseV (VT.text (nest i))).kind : Int), .slice A5 n5 c5] _ (g := w4.heap.size)
        have hbn : Below w4.heap.size w4 wo4 := by rw [← hx_]; exact (Below.refl _ _).alloc (Nat.le_refl _) _
        clear hx_ c0_0 c0_1 cf0 hO3
        have c0_0 : wo4.cell? ⟨w4.heap.size, 0, none⟩ = some (.int .i64 ((parseV (VT.text (nest i))).kind : Int)) := hO4.c 0 0
        have c0_1 : wo4.cell? ⟨w4.heap.size, 1, none⟩ = some (.slice A5 n5 c5) := hO4.c 0 1
        have cf0 := hO4.fr 0
        have c1_0 : wo4.cell? ⟨w.heap.size, 0, none⟩ = some (.int .i64 ((nest i).kind : Int)) := hO4.c 1 0
        have c1_1 : wo4.cell? ⟨w.heap.size, 1, none⟩ = some (.slice A n c) := hO4.c 1 1
        have cf1 := hO4.fr 1
        have hr5 : RVB wo4 wo4.heap.size (nest i) [.int .i64 ((nest i).kind : Int), .slice A n c] := RVB.at_ (hr4.imp (fun b h => Nat.lt_of_lt_of_le h.2 hs4)) hbn
        have hty := Lib.hid (RV.ty hr5)
        clear hr hr4 hr5 hbn
        repeat' ((fail_if_success at_builtin); (first | go_skip | go_guarded | go_step))
        refine (tvalid_any _ (ofV (nest i)) _ A n c _ hty.out).mono ?_
        rintro e w6 ⟨rfl, hb6⟩
        rw [hva.out]
        dsimp only
        have hO5 : OwnB w w6 [(w4.heap.size, [.int .i64 ((parseV (VT.text (nest i))).kind : Int), .slice A5 n5 c5]), (w.heap.size, [.int .i64 ((nest i).kind : Int), .slice A n c])] := hO4.kept hb6
        clear c0_0 c0_1 cf0 c1_0 c1_1 cf1 hO4
        have c0_0 : w6.cell? ⟨w4.heap.size, 0, none⟩ = some (.int .i64 ((parseV (VT.text (nest i))).kind : Int)) := hO5.c 0 0
        have c0_1 : w6.cell? ⟨w4.heap.size, 1, none⟩ = some (.slice A5 n5 c5) := hO5.c 0 1
        have cf0 := hO5.fr 0
        have c1_0 : w6.cell? ⟨w.heap.size, 0, none⟩ = some (.int .i64 ((nest i).kind : Int)) := hO5.c 1 0
        have c1_1 : w6.cell? ⟨w.heap.size, 1, none⟩ = some (.slice A n c) := hO5.c 1 1
        have cf1 := hO5.fr 1
        repeat' ((fail_if_success at_builtin); (first | go_skip | go_guarded | go_step))
        refine (awake_any _).mono ?_
        rintro e w7 ⟨rfl, hb7⟩
        dsimp only
        have hO6 : OwnB w w7 [(w4.heap.size, [.int .i64 ((parseV (VT.text (nest i))).kind : Int), .slice A5 n5 c5]), (w.heap.size, [.int .i64 ((nest i).kind : Int), .slice A n c])] := hO5.kept hb7
        clear c0_0 c0_1 cf0 c1_0 c1_1 cf1 hO5
        have c0_0 : w7.cell? ⟨w4.heap.size, 0, none⟩ = some (.int .i64 ((parseV (VT.text (nest i))).kind : Int)) := hO6.c 0 0
        have c0_1 : w7.cell? ⟨w4.heap.size, 1, none⟩ = some (.slice A5 n5 c5) := hO6.c 0 1
        have cf0 := hO6.fr 0
        have c1_0 : w7.cell? ⟨w.heap.size, 0, none⟩ = some (.int .i64 ((nest i).kind : Int)) := hO6.c 1 0
        have c1_1 : w7.cell? ⟨w.heap.size, 1, none⟩ = some (.slice A n c) := hO6.c 1 1
        have cf1 := hO6.fr 1
        have hb := hO6.below
        repeat' ((fail_if_success at_builtin); (first | go_skip | go_guarded | go_step))
        go_ret
        exact ⟨rfl, hb⟩
      · have hpe := nest_parse (n := i) (by omega)
        have hva := nest_valid i
        rw [if_neg h16] at hpe hva
        have g16 : ¬ (i : Int) < 16 := by omega
        replace hpe := Lib.hid hpe
        replace hva := Lib.hid hva
        repeat' ((fail_if_success at_builtin); (first | go_skip | go_guarded | go_step))
        have CJ := tparse_any (strS (VT.text (nest i))) wr
        rw [strS_list, hpe.out] at CJ
        refine CJ.mono ?_
        clear CJ
        rintro e w4 ⟨A5, n5, c5, rfl, hX, hb4⟩
        dsimp only
        clear hX
        have hr4 := RV.at_ hr (fun b h => h.2) hb4
        have hs4 := hb4.size
        have hO3 : OwnB w w4 [(w.heap.size, [.int .i64 ((nest i).kind : Int), .slice A n c])] := hO2.kept hb4
        clear c0_0 c0_1 cf0 hO2
        have c0_0 : w4.cell? ⟨w.heap.size, 0, none⟩ = some (.int .i64 ((nest i).kind : Int)) := hO3.c 0 0
        have c0_1 : w4.cell? ⟨w.heap.size, 1, none⟩ = some (.slice A n c) := hO3.c 0 1
        have cf0 := hO3.fr 0
        go_upto_region 11 with (fail)
        generalize hx_ : World.alloc w4 _ = wo4
        have hO4 : OwnB w wo4 [(w4.heap.size, [.int .i64 ((parseV (VT.text (nest i))).kind : Int), .slice A5 n5 c5]), (w.heap.size, [.int .i64 ((nest i).kind : Int), .slice A n c])] := by rw [← hx_]; exact hO3.new #[.int .i64 ((parseV (VT.text (nest i))).kind : Int), .slice A5 n5 c5] _ (g := w4.heap.size)
        have hbn : Below w4.heap.size w4 wo4 := by rw [← hx_]; exact (Below.refl _ _).alloc (Nat.le_refl _) _
        clear hx_ c0_0 c0_1 cf0 hO3
        have c0_0 : wo4.cell? ⟨w4.heap.size, 0, none⟩ = some (.int .i64 ((parseV (VT.text (nest i))).kind : Int)) := hO4.c 0 0
        have c0_1 : wo4.cell? ⟨w4.heap.size, 1, none⟩ = some (.slice A5 n5 c5) := hO4.c 0 1
        have cf0 := hO4.fr 0
        have c1_0 : wo4.cell? ⟨w.heap.size, 0, none⟩ = some (.int .i64 ((nest i).kind : Int)) := hO4.c 1 0
        have c1_1 : wo4.cell? ⟨w.heap.size, 1, none⟩ = some (.slice A n c) := hO4.c 1 1
        have cf1 := hO4.fr 1
        have hr5 : RVB wo4 wo4.heap.size (nest i) [.int .i64 ((nest i).kind : Int), .slice A n c] := RVB.at_ (hr4.imp (fun b h => Nat.lt_of_lt_of_le h.2 hs4)) hbn
        have hty := Lib.hid (RV.ty hr5)
        clear hr hr4 hr5 hbn
        repeat' ((fail_if_success at_builtin); (first | go_skip | go_guarded | go_step))
        refine (tvalid_any _ (ofV (nest i)) _ A n c _ hty.out).mono ?_
        rintro e w6 ⟨rfl, hb6⟩
        rw [hva.out]
        dsimp only
        have hO5 : OwnB w w6 [(w4.heap.size, [.int .i64 ((parseV (VT.text (nest i))).kind : Int), .slice A5 n5 c5]), (w.heap.size, [.int .i64 ((nest i).kind : Int), .slice A n c])] := hO4.kept hb6
        clear c0_0 c0_1 cf0 c1_0 c1_1 cf1 hO4
        have c0_0 : w6.cell? ⟨w4.heap.size, 0, none⟩ = some (.int .i64 ((parseV (VT.text (nest i))).kind : Int)) := hO5.c 0 0
        have c0_1 : w6.cell? ⟨w4.heap.size, 1, none⟩ = some (.slice A5 n5 c5) := hO5.c 0 1
        have cf0 := hO5.fr 0
        have c1_0 : w6.cell? ⟨w.heap.size, 0, none⟩ = some (.int .i64 ((nest i).kind : Int)) := hO5.c 1 0
        have c1_1 : w6.cell? ⟨w.heap.size, 1, none⟩ = some (.slice A n c) := hO5.c 1 1
        have cf1 := hO5.fr 1
        repeat' ((fail_if_success at_builtin); (first | go_skip | go_guarded | go_step))
        refine (awake_any _).mono ?_
        rintro e w7 ⟨rfl, hb7⟩
        dsimp only
        have hO6 : OwnB w w7 [(w4.heap.size, [.int .i64 ((parseV (VT.text (nest i))).kind : Int), .slice A5 n5 c5]), (w.heap.size, [.int .i64 ((nest i).kind : Int), .slice A n c])] := hO5.kept hb7
        clear c0_0 c0_1 cf0 c1_0 c1_1 cf1 hO5
        have c0_0 : w7.cell? ⟨w4.heap.size, 0, none⟩ = some (.int .i64 ((parseV (VT.text (nest i))).kind : Int)) := hO6.c 0 0
        have c0_1 : w7.cell? ⟨w4.heap.size, 1, none⟩ = some (.slice A5 n5 c5) := hO6.c 0 1
        have cf0 := hO6.fr 0
        have c1_0 : w7.cell? ⟨w.heap.size, 0, none⟩ = some (.int .i64 ((nest i).kind : Int)) := hO6.c 1 0
        have c1_1 : w7.cell? ⟨w.heap.size, 1, none⟩ = some (.slice A n c) := hO6.c 1 1
        have cf1 := hO6.fr 1
        have hb := hO6.below
        repeat' ((fail_if_success at_builtin); (first | go_skip | go_guarded | go_step))
        go_ret
        exact ⟨rfl, hb⟩
end Go.Proofs.YtgcpffbaejodiaaDoor
