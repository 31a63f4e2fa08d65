/- Typing: opened. -/
import Derived.Test.YtgcpffbaejodiaaDoorTyPure
import Derived.Test.YtgcpffbaejodiaaDoorTySh
import Derived.Test.YtgcpffbaejodiaaDoorShelf
namespace Go.Proofs.YtgcpffbaejodiaaDoor
open Go.RowKit
/-- what opened returns -/
def openedR (s : List UInt8) : Value := match VT.opened s with
 | some (k, e) => .tuple #[.int .i64 (k : Int), .string (strS e)]
 | none => .tuple #[.int .i64 8, .string (strS [])]
set_option maxRecDepth 100000 in
set_option maxHeartbeats 4000000 in
theorem opened_any (s : ByteArray) (w : World) (hs : s.size ≤ 100000) : Calls Tryd.prog 48 #[.string s] w fun e w' => e = .returned (openedR s.data.toList) ∧ Below w.heap.size w w' := by
 have hsl := list_size s
 unfold openedR
 go_enter Tryd.func48, Tryd.ntmps48
 go_upto_region 1 with (fail)
 repeat' ((fail_if_success at_builtin); (first | go_skip | go_guarded | go_step))
 generalize hx_ : World.alloc w _ = wo1
 have hO1 : OwnB w wo1 [(w.heap.size, [.int .i64 5, .int .i64 6])] := by rw [← hx_]; exact (OwnB.refl w).new #[.int .i64 5, .int .i64 6] _ (g := w.heap.size)
 clear hx_
 have c0_0 := hO1.c 0 0
 have c0_1 := hO1.c 0 1
 have cf0 := hO1.fr 0
 go_loopw [12] (fun u12 wr => ∃ i : Int, (i = 0 ∨ i = 1 ∨ i = 2) ∧ u12 = .int .i64 i ∧ OwnB w wr [(w.heap.size, [.int .i64 5, .int .i64 6])] ∧ (1 ≤ i → VT.openK 5 s.data.toList = none) ∧ (2 ≤ i → VT.openK 6 s.data.toList = none)) (fun u12 _ => 2 - (intOf u12).toNat)
 case atStart => exact ⟨0, .inl rfl, rfl, hO1, fun h => absurd h (by decide), fun h => absurd h (by decide)⟩
 case round =>
  clear c0_0 c0_1 cf0 hO1
  obtain ⟨i, hi, rfl, hO1, h5, h6⟩ := hrel
  have c0_0 := hO1.c 0 0
  have c0_1 := hO1.c 0 1
  have cf0 := hO1.fr 0
  rcases hi with rfl | rfl | rfl
  ·
   repeat' ((fail_if_success at_builtin); (first | go_skip | go_guarded | go_step))
   refine (name_any (5 : Int) _).mono ?_
   rintro e w2 ⟨rfl, hb2⟩
   rw [show nameZ (5 : Int) = VT.nameK 5 from rfl]
   dsimp only
   have hO2 := hO1.kept hb2
   have sz1 : ¬ 9223372036854775807 < (VT.nameK 5).length + 1 := by decide
   have hpd : (strS (VT.nameK 5) ++ (⟨#[40]⟩ : ByteArray)).data.toList = VT.nameK 5 ++ [40] := by rw [show (⟨#[40]⟩ : ByteArray) = strS [40] from rfl, strS_app]
   have hok := VT.openK_lib 5 s.data.toList
   replace hpd := Lib.hid hpd
   replace hok := Lib.hid hok
   generalize hnm : VT.nameK 5 = nm at *
   repeat' ((fail_if_success at_builtin); (first | go_skip | go_guarded | go_step))
   refine (Tryd.strings_CutPrefix s _ _).mono ?_
   rintro e w3 ⟨rfl, rfl⟩
   rw [hpd.out]
   dsimp only
   have htl := Lib.trimPrefix_le s.data.toList (nm ++ [40])
   generalize hr0 : Lib.trimPrefix s.data.toList (nm ++ [40]) = r0 at *
   generalize hp0 : Lib.hasPrefix s.data.toList (nm ++ [40]) = p0 at *
   replace hr0 := Lib.hid hr0
   replace hp0 := Lib.hid hp0
   replace hnm := Lib.hid hnm
   cases p0 with
   | false =>
    have hno : VT.openK 5 s.data.toList = none := by rw [hok.out, if_neg (by decide)]
    replace hno := Lib.hid hno
    clear hok
    repeat' ((fail_if_success at_builtin); (first | go_skip | go_guarded | go_step))
    go_roundw
    case rel => exact ⟨1, .inr (.inl rfl), rfl, hO2, fun _ => hno.out, fun h => absurd h (by decide)⟩
    case measure => decide
   | true =>
    rw [show (⟨r0.toArray⟩ : ByteArray) = strS r0 from rfl]
    have hsz : (strS r0).size ≤ 9223372036854775807 := by rw [strS_size]; omega
    repeat' ((fail_if_success at_builtin); (first | go_skip | go_guarded | go_step))
    refine (Tryd.strings_CutSuffix (strS r0) _ _ hsz).mono ?_
    rintro e w4 ⟨rfl, rfl⟩
    rw [strS_list, show (⟨#[41]⟩ : ByteArray).data.toList = [41] from rfl]
    dsimp only
    generalize hr1 : Lib.trimSuffix r0 [41] = r1 at *
    generalize hp1 : Lib.hasSuffix r0 [41] = p1 at *
    replace hr1 := Lib.hid hr1
    replace hp1 := Lib.hid hp1
    cases p1 with
    | false =>
     have hno : VT.openK 5 s.data.toList = none := by rw [hok.out, if_pos rfl, if_neg (by decide)]
     replace hno := Lib.hid hno
     clear hok
     repeat' ((fail_if_success at_builtin); (first | go_skip | go_guarded | go_step))
     go_roundw
     case rel => exact ⟨1, .inr (.inl rfl), rfl, hO2, fun _ => hno.out, fun h => absurd h (by decide)⟩
     case measure => decide
    | true =>
     have hyes : VT.openK 5 s.data.toList = some r1 := by rw [hok.out, if_pos rfl, if_pos rfl]
     have hfin : VT.opened s.data.toList = some (5, r1) := VT.opened_five hyes
     replace hfin := Lib.hid hfin
     clear hok hyes
     have hb := hO2.below
     repeat' ((fail_if_success at_builtin); (first | go_skip | go_guarded | go_step))
     go_ret2
     exact ⟨ret_v (by rw [hfin.out]; rfl), hb⟩
  ·
   have h5 := h5 (by decide)
   replace h5 := Lib.hid h5
   repeat' ((fail_if_success at_builtin); (first | go_skip | go_guarded | go_step))
   refine (name_any (6 : Int) _).mono ?_
   rintro e w2 ⟨rfl, hb2⟩
   rw [show nameZ (6 : Int) = VT.nameK 6 from rfl]
   dsimp only
   have hO2 := hO1.kept hb2
   have sz1 : ¬ 9223372036854775807 < (VT.nameK 6).length + 1 := by decide
   have hpd : (strS (VT.nameK 6) ++ (⟨#[40]⟩ : ByteArray)).data.toList = VT.nameK 6 ++ [40] := by rw [show (⟨#[40]⟩ : ByteArray) = strS [40] from rfl, strS_app]
   have hok := VT.openK_lib 6 s.data.toList
   replace hpd := Lib.hid hpd
   replace hok := Lib.hid hok
   generalize hnm : VT.nameK 6 = nm at *
   repeat' ((fail_if_success at_builtin); (first | go_skip | go_guarded | go_step))
   refine (Tryd.strings_CutPrefix s _ _).mono ?_
   rintro e w3 ⟨rfl, rfl⟩
   rw [hpd.out]
   dsimp only
   have htl := Lib.trimPrefix_le s.data.toList (nm ++ [40])
   generalize hr0 : Lib.trimPrefix s.data.toList (nm ++ [40]) = r0 at *
   generalize hp0 : Lib.hasPrefix s.data.toList (nm ++ [40]) = p0 at *
   replace hr0 := Lib.hid hr0
   replace hp0 := Lib.hid hp0
   replace hnm := Lib.hid hnm
   cases p0 with
   | false =>
    have hno : VT.openK 6 s.data.toList = none := by rw [hok.out, if_neg (by decide)]
    replace hno := Lib.hid hno
    clear hok
    repeat' ((fail_if_success at_builtin); (first | go_skip | go_guarded | go_step))
    go_roundw
    case rel => exact ⟨2, .inr (.inr rfl), rfl, hO2, fun _ => h5.out, fun _ => hno.out⟩
    case measure => decide
   | true =>
    rw [show (⟨r0.toArray⟩ : ByteArray) = strS r0 from rfl]
    have hsz : (strS r0).size ≤ 9223372036854775807 := by rw [strS_size]; omega
    repeat' ((fail_if_success at_builtin); (first | go_skip | go_guarded | go_step))
    refine (Tryd.strings_CutSuffix (strS r0) _ _ hsz).mono ?_
    rintro e w4 ⟨rfl, rfl⟩
    rw [strS_list, show (⟨#[41]⟩ : ByteArray).data.toList = [41] from rfl]
    dsimp only
    generalize hr1 : Lib.trimSuffix r0 [41] = r1 at *
    generalize hp1 : Lib.hasSuffix r0 [41] = p1 at *
    replace hr1 := Lib.hid hr1
    replace hp1 := Lib.hid hp1
    cases p1 with
    | false =>
     have hno : VT.openK 6 s.data.toList = none := by rw [hok.out, if_pos rfl, if_neg (by decide)]
     replace hno := Lib.hid hno
     clear hok
     repeat' ((fail_if_success at_builtin); (first | go_skip | go_guarded | go_step))
     go_roundw
     case rel => exact ⟨2, .inr (.inr rfl), rfl, hO2, fun _ => h5.out, fun _ => hno.out⟩
     case measure => decide
    | true =>
     have hyes : VT.openK 6 s.data.toList = some r1 := by rw [hok.out, if_pos rfl, if_pos rfl]
     have hfin : VT.opened s.data.toList = some (6, r1) := VT.opened_six h5.out hyes
     replace hfin := Lib.hid hfin
     clear hok hyes
     have hb := hO2.below
     repeat' ((fail_if_success at_builtin); (first | go_skip | go_guarded | go_step))
     go_ret2
     exact ⟨ret_v (by rw [hfin.out]; rfl), hb⟩
  ·
   have hfin : VT.opened s.data.toList = none := VT.opened_none (h5 (by decide)) (h6 (by decide))
   replace hfin := Lib.hid hfin
   have hb := hO1.below
   clear h5 h6
   repeat' ((fail_if_success at_builtin); (first | go_skip | go_guarded | go_step))
   go_ret2
   exact ⟨ret_v (by rw [hfin.out]; rfl), hb⟩
end Go.Proofs.YtgcpffbaejodiaaDoor
