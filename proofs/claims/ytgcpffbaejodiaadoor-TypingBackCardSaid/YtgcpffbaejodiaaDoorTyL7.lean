/- Typing: the law about texts and back. -/
import Derived.Test.YtgcpffbaejodiaaDoorTyL1
namespace Go.Proofs.YtgcpffbaejodiaaDoor
open Go.RowKit
theorem parse_show {t : Ty} {v : VT} (h : okV t = some v) : parseV (showS t) = v ∧ parseE (showS t) = 0 := by
  obtain ⟨_, h1, h2, _⟩ := okV_some h
  have hs : showS t = VT.text v := by unfold showS; rw [h]
  have hl := text_len v
  have hn : ¬ 4096 < (VT.text v).length := by omega
  rw [hs]
  exact ⟨parseV_some hn (VT.parse_text h1) h2, parseE_some hn (VT.parse_text h1) h2⟩
theorem show_parse {s : List UInt8} (h : parseE s = 0) : showS (ofV (parseV s)) = s := by
  by_cases hl : 4096 < s.length
  · rw [parseE_long hl] at h; cases h
  · cases hp : VT.parse s with
    | none => rw [parseE_none hl hp] at h; cases h
    | some v =>
      by_cases hd : v.depth ≤ 16
      · rw [parseV_some hl hp hd]
        unfold showS
        rw [okV_of (VT.parse_ok hp) hd]
        exact (VT.text_parse hp).1
      · rw [parseE_deep hl hp hd] at h; cases h
set_option maxRecDepth 100000 in
set_option maxHeartbeats 6000000 in
theorem back_law (g : Nat) (t : Ty) (k : Int) (A : Option Addr) (n c : Nat) (s : ByteArray) (w : World) (h : RTf g w (fun b => b < w.heap.size) t [.int .i64 k, .slice A n c]) :
    Calls Tryd.prog 9 #[.agg #[.int .i64 k, .slice A n c], .string s] w fun e w' => e = .returned (.bool true) ∧ Below w.heap.size w w' := by
  go_enter Tryd.func9, Tryd.ntmps9
  go_upto_region 1 with (fail)
  generalize hx_ : World.alloc w _ = wo1
  have hO1 : OwnB w wo1 [(w.heap.size, [.int .i64 k, .slice A n c])] := by rw [← hx_]; exact (OwnB.refl w).new #[.int .i64 k, .slice A n c] _ (g := w.heap.size)
  clear hx_
  have c0_0 : wo1.cell? ⟨w.heap.size, 0, none⟩ = some (.int .i64 k) := hO1.c 0 0
  have c0_1 : wo1.cell? ⟨w.heap.size, 1, none⟩ = some (.slice A n c) := hO1.c 0 1
  have cf0 := hO1.fr 0
  have h1 := Lib.hid (RTf.at_ h hO1.below)
  repeat' ((fail_if_success at_builtin); (first | go_skip | go_guarded | go_step))
  refine (tvalid_any g t k A n c _ h1.out).mono ?_
  rintro e w2 ⟨rfl, hb2⟩
  dsimp only
  have hO2 : OwnB w w2 [(w.heap.size, [.int .i64 k, .slice A n c])] := hO1.kept hb2
  clear c0_0 c0_1 cf0 hO1
  have c0_0 : w2.cell? ⟨w.heap.size, 0, none⟩ = some (.int .i64 k) := hO2.c 0 0
  have c0_1 : w2.cell? ⟨w.heap.size, 1, none⟩ = some (.slice A n c) := hO2.c 0 1
  have cf0 := hO2.fr 0
  have hbz := hO2.below
  cases hok : okV t with
  | none =>
    have hz := okV_none hok
    have hz2 : (validT t == 0) = false := by simpa using hz
    generalize validT t = vt at *
    clear hok h1 h
    repeat' ((fail_if_success at_builtin); (first | go_skip | go_guarded | go_step))
    refine (tparse_any s _).mono ?_
    rintro e y2 ⟨A6, n6, c6, rfl, hY, hby⟩
    dsimp only
    have hO3 : OwnB w y2 [(w.heap.size, [.int .i64 k, .slice A n c])] := hO2.kept hby
    clear c0_0 c0_1 cf0 hO2
    have c0_0 : y2.cell? ⟨w.heap.size, 0, none⟩ = some (.int .i64 k) := hO3.c 0 0
    have c0_1 : y2.cell? ⟨w.heap.size, 1, none⟩ = some (.slice A n c) := hO3.c 0 1
    have cf0 := hO3.fr 0
    generalize hpe : parseE s.data.toList = pe at *
    go_upto_region 6 with (fail)
    generalize hx_ : World.alloc y2 _ = wo4
    have hO4 : OwnB w wo4 [(y2.heap.size, [.int .i64 ((parseV s.data.toList).kind : Int), .slice A6 n6 c6]), (w.heap.size, [.int .i64 k, .slice A n c])] := by rw [← hx_]; exact hO3.new #[.int .i64 ((parseV s.data.toList).kind : Int), .slice A6 n6 c6] _ (g := y2.heap.size)
    have hbn : Below y2.heap.size y2 wo4 := by rw [← hx_]; exact (Below.refl _ _).alloc (Nat.le_refl _) _
    clear hx_ c0_0 c0_1 cf0 hO3
    have c0_0 : wo4.cell? ⟨y2.heap.size, 0, none⟩ = some (.int .i64 ((parseV s.data.toList).kind : Int)) := hO4.c 0 0
    have c0_1 : wo4.cell? ⟨y2.heap.size, 1, none⟩ = some (.slice A6 n6 c6) := hO4.c 0 1
    have cf0 := hO4.fr 0
    have c1_0 : wo4.cell? ⟨w.heap.size, 0, none⟩ = some (.int .i64 k) := hO4.c 1 0
    have c1_1 : wo4.cell? ⟨w.heap.size, 1, none⟩ = some (.slice A n c) := hO4.c 1 1
    have cf1 := hO4.fr 1
    replace hY : RVB y2 y2.heap.size _ _ := hY.imp (fun b h => h.2)
    replace hY := RVB.at_ hY hbn
    clear hbn
    by_cases hz : pe = 0
    · have hsp := show_parse (s := s.data.toList) (by rw [hpe, hz])
      subst hz
      have CJ := tshow_any _ (ofV (parseV s.data.toList)) _ A6 n6 c6 _ (RV.ty hY)
      rw [hsp, strS_data] at CJ
      replace CJ := Lib.hid CJ
      clear hsp hY hpe
      repeat' ((fail_if_success at_builtin); (first | go_skip | go_guarded | go_step))
      refine CJ.out.mono ?_
      clear CJ
      rintro e y4 ⟨rfl, hb4⟩
      dsimp only
      have hO5 : OwnB w y4 [(y2.heap.size, [.int .i64 ((parseV s.data.toList).kind : Int), .slice A6 n6 c6]), (w.heap.size, [.int .i64 k, .slice A n c])] := hO4.kept hb4
      clear c0_0 c0_1 cf0 c1_0 c1_1 cf1 hO4
      have c0_0 : y4.cell? ⟨y2.heap.size, 0, none⟩ = some (.int .i64 ((parseV s.data.toList).kind : Int)) := hO5.c 0 0
      have c0_1 : y4.cell? ⟨y2.heap.size, 1, none⟩ = some (.slice A6 n6 c6) := hO5.c 0 1
      have cf0 := hO5.fr 0
      have c1_0 : y4.cell? ⟨w.heap.size, 0, none⟩ = some (.int .i64 k) := hO5.c 1 0
      have c1_1 : y4.cell? ⟨w.heap.size, 1, none⟩ = some (.slice A n c) := hO5.c 1 1
      have cf1 := hO5.fr 1
      repeat' ((fail_if_success at_builtin); (first | go_skip | go_guarded | go_step))
      refine (awake_any _).mono ?_
      rintro e y5 ⟨rfl, hb5⟩
      dsimp only
      have hO6 : OwnB w y5 [(y2.heap.size, [.int .i64 ((parseV s.data.toList).kind : Int), .slice A6 n6 c6]), (w.heap.size, [.int .i64 k, .slice A n c])] := hO5.kept hb5
      clear c0_0 c0_1 cf0 c1_0 c1_1 cf1 hO5
      have c0_0 : y5.cell? ⟨y2.heap.size, 0, none⟩ = some (.int .i64 ((parseV s.data.toList).kind : Int)) := hO6.c 0 0
      have c0_1 : y5.cell? ⟨y2.heap.size, 1, none⟩ = some (.slice A6 n6 c6) := hO6.c 0 1
      have cf0 := hO6.fr 0
      have c1_0 : y5.cell? ⟨w.heap.size, 0, none⟩ = some (.int .i64 k) := hO6.c 1 0
      have c1_1 : y5.cell? ⟨w.heap.size, 1, none⟩ = some (.slice A n c) := hO6.c 1 1
      have cf1 := hO6.fr 1
      have hb := hO6.below
      repeat' ((fail_if_success at_builtin); (first | go_skip | go_guarded | go_step))
      go_ret
      exact ⟨rfl, hb⟩
    · have hz2 : (pe == 0) = false := by simpa using hz
      have hz3 : (pe != 0) = true := by simpa using hz
      clear hY hpe
      repeat' ((fail_if_success at_builtin); (first | go_skip | go_guarded | go_step))
      refine (awake_any _).mono ?_
      rintro e y5 ⟨rfl, hb5⟩
      dsimp only
      have hO5 : OwnB w y5 [(y2.heap.size, [.int .i64 ((parseV s.data.toList).kind : Int), .slice A6 n6 c6]), (w.heap.size, [.int .i64 k, .slice A n c])] := hO4.kept hb5
      clear c0_0 c0_1 cf0 c1_0 c1_1 cf1 hO4
      have c0_0 : y5.cell? ⟨y2.heap.size, 0, none⟩ = some (.int .i64 ((parseV s.data.toList).kind : Int)) := hO5.c 0 0
      have c0_1 : y5.cell? ⟨y2.heap.size, 1, none⟩ = some (.slice A6 n6 c6) := hO5.c 0 1
      have cf0 := hO5.fr 0
      have c1_0 : y5.cell? ⟨w.heap.size, 0, none⟩ = some (.int .i64 k) := hO5.c 1 0
      have c1_1 : y5.cell? ⟨w.heap.size, 1, none⟩ = some (.slice A n c) := hO5.c 1 1
      have cf1 := hO5.fr 1
      have hb := hO5.below
      repeat' ((fail_if_success at_builtin); (first | go_skip | go_guarded | go_step))
      go_ret
      exact ⟨rfl, hb⟩
  | some v =>
    obtain ⟨hz, hvo, hvd, rfl⟩ := okV_some hok
    obtain ⟨hp1, hp2⟩ := parse_show hok
    have h2 := Lib.hid (RTf.at_ h hbz)
    rw [hz]
    clear hz h1
    repeat' ((fail_if_success at_builtin); (first | go_skip | go_guarded | go_step))
    refine (tshow_any g (ofV v) k A n c _ h2.out).mono ?_
    rintro e w3 ⟨rfl, hb3⟩
    dsimp only
    have hO3 : OwnB w w3 [(w.heap.size, [.int .i64 k, .slice A n c])] := hO2.kept hb3
    clear c0_0 c0_1 cf0 hO2
    have c0_0 : w3.cell? ⟨w.heap.size, 0, none⟩ = some (.int .i64 k) := hO3.c 0 0
    have c0_1 : w3.cell? ⟨w.heap.size, 1, none⟩ = some (.slice A n c) := hO3.c 0 1
    have cf0 := hO3.fr 0
    repeat' ((fail_if_success at_builtin); (first | go_skip | go_guarded | go_step))
    have CJ := tparse_any (strS (showS (ofV v))) w3
    rw [strS_list, hp1, hp2] at CJ
    refine CJ.mono ?_
    clear CJ
    rintro e w4 ⟨A5, n5, c5, rfl, hX, hb4⟩
    dsimp only
    have hO4 : OwnB w w4 [(w.heap.size, [.int .i64 k, .slice A n c])] := hO3.kept hb4
    clear c0_0 c0_1 cf0 hO3
    have c0_0 : w4.cell? ⟨w.heap.size, 0, none⟩ = some (.int .i64 k) := hO4.c 0 0
    have c0_1 : w4.cell? ⟨w.heap.size, 1, none⟩ = some (.slice A n c) := hO4.c 0 1
    have cf0 := hO4.fr 0
    go_upto_region 3 with (fail)
    generalize hx_ : World.alloc w4 _ = wo5
    have hO5 : OwnB w wo5 [(w4.heap.size, [.int .i64 (v.kind : Int), .slice A5 n5 c5]), (w.heap.size, [.int .i64 k, .slice A n c])] := by rw [← hx_]; exact hO4.new #[.int .i64 (v.kind : Int), .slice A5 n5 c5] _ (g := w4.heap.size)
    have hbn : Below w4.heap.size w4 wo5 := by rw [← hx_]; exact (Below.refl _ _).alloc (Nat.le_refl _) _
    clear hx_ c0_0 c0_1 cf0 hO4
    have c0_0 : wo5.cell? ⟨w4.heap.size, 0, none⟩ = some (.int .i64 (v.kind : Int)) := hO5.c 0 0
    have c0_1 : wo5.cell? ⟨w4.heap.size, 1, none⟩ = some (.slice A5 n5 c5) := hO5.c 0 1
    have cf0 := hO5.fr 0
    have c1_0 : wo5.cell? ⟨w.heap.size, 0, none⟩ = some (.int .i64 k) := hO5.c 1 0
    have c1_1 : wo5.cell? ⟨w.heap.size, 1, none⟩ = some (.slice A n c) := hO5.c 1 1
    have cf1 := hO5.fr 1
    replace hX : RVB w4 w4.heap.size _ _ := hX.imp (fun b h => h.2)
    replace hX := RVB.at_ hX hbn
    have hb5 := hO5.below
    have h5 : RVB wo5 wo5.heap.size v [.int .i64 k, .slice A n c] := RTf.valid (RTf.at_ h hb5)
    replace hX := Lib.hid hX
    replace h5 := Lib.hid h5
    clear hbn hp1 hp2 h2 hok
    repeat' ((fail_if_success at_builtin); (first | go_skip | go_guarded | go_step))
    have CJ := same_any v v _ A5 n5 c5 k A n c _ hvo hvo hX.out h5.out
    rw [decide_eq_true rfl] at CJ
    refine CJ.mono ?_
    clear CJ
    rintro e w6 ⟨rfl, hb6⟩
    dsimp only
    clear hX h5 h
    have hO6 : OwnB w w6 [(w4.heap.size, [.int .i64 (v.kind : Int), .slice A5 n5 c5]), (w.heap.size, [.int .i64 k, .slice A n c])] := hO5.kept hb6
    clear c0_0 c0_1 cf0 c1_0 c1_1 cf1 hO5
    have c0_0 : w6.cell? ⟨w4.heap.size, 0, none⟩ = some (.int .i64 (v.kind : Int)) := hO6.c 0 0
    have c0_1 : w6.cell? ⟨w4.heap.size, 1, none⟩ = some (.slice A5 n5 c5) := hO6.c 0 1
    have cf0 := hO6.fr 0
    have c1_0 : w6.cell? ⟨w.heap.size, 0, none⟩ = some (.int .i64 k) := hO6.c 1 0
    have c1_1 : w6.cell? ⟨w.heap.size, 1, none⟩ = some (.slice A n c) := hO6.c 1 1
    have cf1 := hO6.fr 1
    repeat' ((fail_if_success at_builtin); (first | go_skip | go_guarded | go_step))
    refine (tparse_any s _).mono ?_
    rintro e y2 ⟨A6, n6, c6, rfl, hY, hby⟩
    dsimp only
    have hO7 : OwnB w y2 [(w4.heap.size, [.int .i64 (v.kind : Int), .slice A5 n5 c5]), (w.heap.size, [.int .i64 k, .slice A n c])] := hO6.kept hby
    clear c0_0 c0_1 cf0 c1_0 c1_1 cf1 hO6
    have c0_0 : y2.cell? ⟨w4.heap.size, 0, none⟩ = some (.int .i64 (v.kind : Int)) := hO7.c 0 0
    have c0_1 : y2.cell? ⟨w4.heap.size, 1, none⟩ = some (.slice A5 n5 c5) := hO7.c 0 1
    have cf0 := hO7.fr 0
    have c1_0 : y2.cell? ⟨w.heap.size, 0, none⟩ = some (.int .i64 k) := hO7.c 1 0
    have c1_1 : y2.cell? ⟨w.heap.size, 1, none⟩ = some (.slice A n c) := hO7.c 1 1
    have cf1 := hO7.fr 1
    generalize hpe : parseE s.data.toList = pe at *
    go_upto_region 6 with (fail)
    generalize hx_ : World.alloc y2 _ = wo8
    have hO8 : OwnB w wo8 [(y2.heap.size, [.int .i64 ((parseV s.data.toList).kind : Int), .slice A6 n6 c6]), (w4.heap.size, [.int .i64 (v.kind : Int), .slice A5 n5 c5]), (w.heap.size, [.int .i64 k, .slice A n c])] := by rw [← hx_]; exact hO7.new #[.int .i64 ((parseV s.data.toList).kind : Int), .slice A6 n6 c6] _ (g := y2.heap.size)
    have hbn : Below y2.heap.size y2 wo8 := by rw [← hx_]; exact (Below.refl _ _).alloc (Nat.le_refl _) _
    clear hx_ c0_0 c0_1 cf0 c1_0 c1_1 cf1 hO7
    have c0_0 : wo8.cell? ⟨y2.heap.size, 0, none⟩ = some (.int .i64 ((parseV s.data.toList).kind : Int)) := hO8.c 0 0
    have c0_1 : wo8.cell? ⟨y2.heap.size, 1, none⟩ = some (.slice A6 n6 c6) := hO8.c 0 1
    have cf0 := hO8.fr 0
    have c1_0 : wo8.cell? ⟨w4.heap.size, 0, none⟩ = some (.int .i64 (v.kind : Int)) := hO8.c 1 0
    have c1_1 : wo8.cell? ⟨w4.heap.size, 1, none⟩ = some (.slice A5 n5 c5) := hO8.c 1 1
    have cf1 := hO8.fr 1
    have c2_0 : wo8.cell? ⟨w.heap.size, 0, none⟩ = some (.int .i64 k) := hO8.c 2 0
    have c2_1 : wo8.cell? ⟨w.heap.size, 1, none⟩ = some (.slice A n c) := hO8.c 2 1
    have cf2 := hO8.fr 2
    replace hY : RVB y2 y2.heap.size _ _ := hY.imp (fun b h => h.2)
    replace hY := RVB.at_ hY hbn
    clear hbn
    by_cases hz : pe = 0
    · have hsp := show_parse (s := s.data.toList) (by rw [hpe, hz])
      subst hz
      have CJ := tshow_any _ (ofV (parseV s.data.toList)) _ A6 n6 c6 _ (RV.ty hY)
      rw [hsp, strS_data] at CJ
      replace CJ := Lib.hid CJ
      clear hsp hY hpe
      repeat' ((fail_if_success at_builtin); (first | go_skip | go_guarded | go_step))
      refine CJ.out.mono ?_
      clear CJ
      rintro e y4 ⟨rfl, hb4⟩
      dsimp only
      have hO9 : OwnB w y4 [(y2.heap.size, [.int .i64 ((parseV s.data.toList).kind : Int), .slice A6 n6 c6]), (w4.heap.size, [.int .i64 (v.kind : Int), .slice A5 n5 c5]), (w.heap.size, [.int .i64 k, .slice A n c])] := hO8.kept hb4
      clear c0_0 c0_1 cf0 c1_0 c1_1 cf1 c2_0 c2_1 cf2 hO8
      have c0_0 : y4.cell? ⟨y2.heap.size, 0, none⟩ = some (.int .i64 ((parseV s.data.toList).kind : Int)) := hO9.c 0 0
      have c0_1 : y4.cell? ⟨y2.heap.size, 1, none⟩ = some (.slice A6 n6 c6) := hO9.c 0 1
      have cf0 := hO9.fr 0
      have c1_0 : y4.cell? ⟨w4.heap.size, 0, none⟩ = some (.int .i64 (v.kind : Int)) := hO9.c 1 0
      have c1_1 : y4.cell? ⟨w4.heap.size, 1, none⟩ = some (.slice A5 n5 c5) := hO9.c 1 1
      have cf1 := hO9.fr 1
      have c2_0 : y4.cell? ⟨w.heap.size, 0, none⟩ = some (.int .i64 k) := hO9.c 2 0
      have c2_1 : y4.cell? ⟨w.heap.size, 1, none⟩ = some (.slice A n c) := hO9.c 2 1
      have cf2 := hO9.fr 2
      repeat' ((fail_if_success at_builtin); (first | go_skip | go_guarded | go_step))
      refine (awake_any _).mono ?_
      rintro e y5 ⟨rfl, hb5⟩
      dsimp only
      have hO10 : OwnB w y5 [(y2.heap.size, [.int .i64 ((parseV s.data.toList).kind : Int), .slice A6 n6 c6]), (w4.heap.size, [.int .i64 (v.kind : Int), .slice A5 n5 c5]), (w.heap.size, [.int .i64 k, .slice A n c])] := hO9.kept hb5
      clear c0_0 c0_1 cf0 c1_0 c1_1 cf1 c2_0 c2_1 cf2 hO9
      have c0_0 : y5.cell? ⟨y2.heap.size, 0, none⟩ = some (.int .i64 ((parseV s.data.toList).kind : Int)) := hO10.c 0 0
      have c0_1 : y5.cell? ⟨y2.heap.size, 1, none⟩ = some (.slice A6 n6 c6) := hO10.c 0 1
      have cf0 := hO10.fr 0
      have c1_0 : y5.cell? ⟨w4.heap.size, 0, none⟩ = some (.int .i64 (v.kind : Int)) := hO10.c 1 0
      have c1_1 : y5.cell? ⟨w4.heap.size, 1, none⟩ = some (.slice A5 n5 c5) := hO10.c 1 1
      have cf1 := hO10.fr 1
      have c2_0 : y5.cell? ⟨w.heap.size, 0, none⟩ = some (.int .i64 k) := hO10.c 2 0
      have c2_1 : y5.cell? ⟨w.heap.size, 1, none⟩ = some (.slice A n c) := hO10.c 2 1
      have cf2 := hO10.fr 2
      have hb := hO10.below
      repeat' ((fail_if_success at_builtin); (first | go_skip | go_guarded | go_step))
      go_ret
      exact ⟨rfl, hb⟩
    · have hz2 : (pe == 0) = false := by simpa using hz
      have hz3 : (pe != 0) = true := by simpa using hz
      clear hY hpe
      repeat' ((fail_if_success at_builtin); (first | go_skip | go_guarded | go_step))
      refine (awake_any _).mono ?_
      rintro e y5 ⟨rfl, hb5⟩
      dsimp only
      have hO9 : OwnB w y5 [(y2.heap.size, [.int .i64 ((parseV s.data.toList).kind : Int), .slice A6 n6 c6]), (w4.heap.size, [.int .i64 (v.kind : Int), .slice A5 n5 c5]), (w.heap.size, [.int .i64 k, .slice A n c])] := hO8.kept hb5
      clear c0_0 c0_1 cf0 c1_0 c1_1 cf1 c2_0 c2_1 cf2 hO8
      have c0_0 : y5.cell? ⟨y2.heap.size, 0, none⟩ = some (.int .i64 ((parseV s.data.toList).kind : Int)) := hO9.c 0 0
      have c0_1 : y5.cell? ⟨y2.heap.size, 1, none⟩ = some (.slice A6 n6 c6) := hO9.c 0 1
      have cf0 := hO9.fr 0
      have c1_0 : y5.cell? ⟨w4.heap.size, 0, none⟩ = some (.int .i64 (v.kind : Int)) := hO9.c 1 0
      have c1_1 : y5.cell? ⟨w4.heap.size, 1, none⟩ = some (.slice A5 n5 c5) := hO9.c 1 1
      have cf1 := hO9.fr 1
      have c2_0 : y5.cell? ⟨w.heap.size, 0, none⟩ = some (.int .i64 k) := hO9.c 2 0
      have c2_1 : y5.cell? ⟨w.heap.size, 1, none⟩ = some (.slice A n c) := hO9.c 2 1
      have cf2 := hO9.fr 2
      have hb := hO9.below
      repeat' ((fail_if_success at_builtin); (first | go_skip | go_guarded | go_step))
      go_ret
      exact ⟨rfl, hb⟩
end Go.Proofs.YtgcpffbaejodiaaDoor
