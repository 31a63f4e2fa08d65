/- Typing: Show. -/
import Derived.Test.YtgcpffbaejodiaaDoorTyBoth
import Derived.Test.YtgcpffbaejodiaaDoorCmpW
namespace Go.Proofs.YtgcpffbaejodiaaDoor
open Go.RowKit
theorem strS_app (a b : List UInt8) : strS a ++ strS b = strS (a ++ b) := by
  apply ByteArray.ext
  simp
/-- the text of a type -/
def showS (t : Ty) : List UInt8 := match okV t with
  | some v => VT.text v
  | none => []
theorem nameK_len (k : Nat) : (VT.nameK k).length ≤ 6 := by
  unfold VT.nameK
  split <;> decide
theorem text_len : ∀ v : VT, (VT.text v).length ≤ 8 * v.depth
  | .base k => by
    have := nameK_len k
    show (VT.nameK k).length ≤ 8 * 1
    omega
  | .of k e => by
    have := nameK_len k
    have := text_len e
    show (VT.nameK k ++ 40 :: (VT.text e ++ [41])).length ≤ 8 * (e.depth + 1)
    simp only [List.length_append, List.length_cons, List.length_nil]
    omega
theorem kind_le : ∀ {v : VT}, v.Ok → v.kind ≤ 7
  | .base _, h => h.1
  | .of k _, h => by have := h.1; show k ≤ 7; omega
theorem nameZ_nat {k : Nat} (h : k ≤ 7) : nameZ (k : Int) = VT.nameK k := by unfold nameZ; rw [if_pos (by omega)]; rfl
theorem text_base (k : Nat) : VT.text (.base k) = VT.nameK k := rfl
theorem text_of (k : Nat) (e : VT) : VT.text (.of k e) = VT.nameK k ++ 40 :: (VT.text e ++ [41]) := rfl
set_option maxRecDepth 100000 in
set_option maxHeartbeats 4000000 in
theorem tshow_any (g : Nat) (t : Ty) (k : Int) (A : Option Addr) (n c : Nat) (w : World) (h : RTf g w (fun b => b < w.heap.size) t [.int .i64 k, .slice A n c]) :
    Calls Tryd.prog 28 #[.agg #[.int .i64 k, .slice A n c]] w fun e w' => e = .returned (.string (strS (showS t))) ∧ Below w.heap.size w w' := by
  obtain ⟨fin, hfin⟩ : ∃ fin, fin = showS t := ⟨_, rfl⟩
  replace hfin := Lib.hid hfin
  go_enter Tryd.func28, Tryd.ntmps28
  go_upto_region 1 with (fail)
  generalize hx_ : World.alloc w _ = wo1
  have hO1 : OwnB w wo1 [(w.heap.size, [.int .i64 k, .slice A n c])] := by rw [← hx_]; exact (OwnB.refl w).new #[.int .i64 k, .slice A n c] _ (g := w.heap.size)
  clear hx_
  have c0_0 : wo1.cell? ⟨w.heap.size, 0, none⟩ = some (.int .i64 k) := hO1.c 0 0
  have c0_1 : wo1.cell? ⟨w.heap.size, 1, none⟩ = some (.slice A n c) := hO1.c 0 1
  have cf0 := hO1.fr 0
  have h1 := Lib.hid (RTf.at_ h hO1.below)
  repeat' ((fail_if_success at_builtin); (first | go_skip | go_guarded | go_step))
  refine (tvalid_any g t k A n c _ h1.out).mono ?_
  rintro e w2 ⟨rfl, hb2⟩
  dsimp only
  have hO2 : OwnB w w2 [(w.heap.size, [.int .i64 k, .slice A n c])] := hO1.kept hb2
  clear c0_0 c0_1 cf0 hO1
  have c0_0 : w2.cell? ⟨w.heap.size, 0, none⟩ = some (.int .i64 k) := hO2.c 0 0
  have c0_1 : w2.cell? ⟨w.heap.size, 1, none⟩ = some (.slice A n c) := hO2.c 0 1
  have cf0 := hO2.fr 0
  cases hok : okV t with
  | none =>
    have hz := okV_none hok
    have hz2 : (validT t == 0) = false := by simpa using hz
    have hf : fin = [] := by rw [hfin.out]; unfold showS; rw [hok]
    replace hf := Lib.hid hf
    have hb := hO2.below
    clear hz hok
    generalize validT t = vt at *
    repeat' ((fail_if_success at_builtin); (first | go_skip | go_guarded | go_step))
    go_ret
    exact ⟨retS (by rw [← hfin.out, hf.out]), hb⟩
  | some v =>
    have hf : fin = VT.text v := by rw [hfin.out]; unfold showS; rw [hok]
    obtain ⟨hz, hvo, hvd, rfl⟩ := okV_some hok
    have hr := RTf.valid h
    obtain ⟨A', n', c', hcs⟩ := hr.form
    injection hcs with e1 e2
    injection e1 with _ e1
    injection e2 with e2 _
    injection e2 with e2 e3 e4
    subst e1 e2 e3 e4
    rw [hz]
    clear hz hok h1 h
    repeat' ((fail_if_success at_builtin); (first | go_skip | go_guarded | go_step))
    go_loopw [3, 4] (fun u3 u4 wr => ∃ (x : VT) (acc : List UInt8) (m : Nat) (A : Option Addr) (n c : Nat), x.Ok ∧ u3 = .string (strS acc) ∧ u4 = .string (strS (List.replicate m 41)) ∧ OwnB w wr [(w.heap.size, [.int .i64 (x.kind : Int), .slice A n c])] ∧ RVB w w.heap.size x [.int .i64 (x.kind : Int), .slice A n c] ∧ fin = acc ++ (VT.text x ++ List.replicate m 41) ∧ acc.length + 7 * x.depth ≤ 112 ∧ m + x.depth ≤ 16) (fun _ u4 _ => 16 - slen u4)
    case atStart => exact ⟨v, [], 0, A, n, c, hvo, rfl, rfl, hO2, hr, by simp [hf], by simp <;> omega, by omega⟩
    case round =>
      clear c0_0 c0_1 cf0 hO2 hr hf
      obtain ⟨x, acc, m, A, n, c, hxo, rfl, rfl, hO3, hr, hu, hl1, hl2⟩ := hrel
      have c0_0 : wr.cell? ⟨w.heap.size, 0, none⟩ = some (.int .i64 (x.kind : Int)) := hO3.c 0 0
      have c0_1 : wr.cell? ⟨w.heap.size, 1, none⟩ = some (.slice A n c) := hO3.c 0 1
      have cf0 := hO3.fr 0
      have hdp := VT.depth_pos x
      have hkl := kind_le hxo
      have hzn := nameZ_nat hkl
      replace hzn := Lib.hid hzn
      have hnl := nameK_len x.kind
      repeat' ((fail_if_success at_builtin); (first | go_skip | go_guarded | go_step))
      refine (nested_any (x.kind : Int) _).mono ?_
      rintro e w4 ⟨rfl, hb4⟩
      dsimp only
      have hO4 : OwnB w w4 [(w.heap.size, [.int .i64 (x.kind : Int), .slice A n c])] := hO3.kept hb4
      clear c0_0 c0_1 cf0 hO3
      have c0_0 : w4.cell? ⟨w.heap.size, 0, none⟩ = some (.int .i64 (x.kind : Int)) := hO4.c 0 0
      have c0_1 : w4.cell? ⟨w.heap.size, 1, none⟩ = some (.slice A n c) := hO4.c 0 1
      have cf0 := hO4.fr 0
      cases x with
      | base k =>
        have hho := holds_base hxo
        rw [show (VT.base k).kind = k from rfl, hho]
        rw [text_base] at hu
        clear hho
        repeat' ((fail_if_success at_builtin); (first | go_skip | go_guarded | go_step))
        refine (name_any (k : Int) _).mono ?_
        rintro e w5 ⟨rfl, hb5⟩
        rw [show nameZ (k : Int) = VT.nameK k from hzn.out]
        dsimp only
        have hnl : (VT.nameK k).length ≤ 6 := hnl
        generalize VT.nameK k = nm at *
        have hb := hO4.below.trans (hb5.mono hO4.below.size)
        have sz1 : ¬ 9223372036854775807 < acc.length + nm.length := by omega
        have sz2 : ¬ 9223372036854775807 < acc.length + nm.length + m := by omega
        have sz3 : ¬ 9223372036854775807 < acc.length + (nm.length + m) := by omega
        replace hu := Lib.hid hu
        repeat' ((fail_if_success at_builtin); (first | go_skip | go_guarded | go_step))
        go_ret
        exact ⟨retS (by rw [← hfin.out, hu.out, strS_app, strS_app, List.append_assoc]), hb⟩
      | of k e =>
        have hho := holds_of hxo
        rw [show (VT.of k e).kind = k from rfl, hho]
        rw [text_of] at hu
        clear hho
        have hde : (VT.of k e).depth = e.depth + 1 := rfl
        obtain ⟨_, rfl, hc1, b, oo, A1, n1, c1, rfl, hbS, y0, y1, hre⟩ := rv_of hr
        repeat' ((fail_if_success at_builtin); (first | go_skip | go_guarded | go_step))
        refine (name_any (k : Int) _).mono ?_
        rintro e5 w5 ⟨rfl, hb5⟩
        rw [show nameZ (k : Int) = VT.nameK k from hzn.out]
        dsimp only
        have hnl : (VT.nameK k).length ≤ 6 := hnl
        generalize VT.nameK k = nm at *
        have hO5 : OwnB w w5 [(w.heap.size, [.int .i64 (k : Int), .slice (some ⟨b, oo, none⟩) 1 c])] := hO4.kept hb5
        clear c0_0 c0_1 cf0 hO4
        have c0_0 : w5.cell? ⟨w.heap.size, 0, none⟩ = some (.int .i64 (k : Int)) := hO5.c 0 0
        have c0_1 : w5.cell? ⟨w.heap.size, 1, none⟩ = some (.slice (some ⟨b, oo, none⟩) 1 c) := hO5.c 0 1
        have cf0 := hO5.fr 0
        have z0 : w5.cell? ⟨b, oo, none⟩ = some (.int .i64 (e.kind : Int)) := (hO5.below.cell (p := ⟨b, oo, none⟩) hbS).trans y0
        have z1 : w5.cell? ⟨b, oo + 1, none⟩ = some (.slice A1 n1 c1) := (hO5.below.cell (p := ⟨b, oo + 1, none⟩) hbS).trans y1
        have sz1 : ¬ 9223372036854775807 < nm.length + 1 := by omega
        have sz2 : ¬ 9223372036854775807 < acc.length + (nm.length + 1) := by omega
        have sz3 : ¬ 9223372036854775807 < m + 1 := by omega
        have hu2 : fin = (acc ++ (nm ++ [40])) ++ (VT.text e ++ List.replicate (m + 1) 41) := by rw [hu, List.replicate_succ]; simp
        replace hu2 := Lib.hid hu2
        clear hu y0 y1 hr
        repeat' ((fail_if_success at_builtin); (first | go_skip | go_guarded | go_step))
        generalize hx_ : World.setCell (World.setCell _ _ _) _ _ = wo6
        have hO6 : OwnB w wo6 [(w.heap.size, [.int .i64 (e.kind : Int), .slice A1 n1 c1])] := by rw [← hx_]; exact (hO5.store 0 rfl 0 _).store 0 rfl 1 _
        clear hx_ c0_0 c0_1 cf0 hO5
        have c0_0 : wo6.cell? ⟨w.heap.size, 0, none⟩ = some (.int .i64 (e.kind : Int)) := hO6.c 0 0
        have c0_1 : wo6.cell? ⟨w.heap.size, 1, none⟩ = some (.slice A1 n1 c1) := hO6.c 0 1
        have cf0 := hO6.fr 0
        repeat' ((fail_if_success at_builtin); (first | go_skip | go_guarded | go_step))
        go_roundw
        case rel => exact ⟨e, acc ++ (nm ++ [40]), m + 1, A1, n1, c1, hxo.2, by rw [← strS_app, ← strS_app], by rw [List.replicate_succ', ← strS_app], hO6, hre, hu2.out, by simp <;> omega, by omega⟩
        case measure =>
          show 16 - (strS (List.replicate m 41) ++ (⟨#[41]⟩ : ByteArray)).size < 16 - (strS (List.replicate m 41)).size
          rw [ByteArray.size_append, strS_size, List.length_replicate]
          show 16 - (m + 1) < 16 - m
          omega
end Go.Proofs.YtgcpffbaejodiaaDoor
