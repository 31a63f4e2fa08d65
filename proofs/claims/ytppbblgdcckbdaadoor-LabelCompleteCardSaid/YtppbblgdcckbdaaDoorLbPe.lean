/- Label: the document's Permits, Can, Implies. -/
import Derived.Test.YtppbblgdcckbdaaDoorLbC
namespace Go.Proofs.YtppbblgdcckbdaaDoor
open Go.RowKit
theorem permF_snoc (nm : List UInt8) (t : Prt) : ∀ (a : List Prt) (c : Cs), permF nm c (a ++ [t]) = if t.form ≠ 0 ∧ t.name = nm then meetC (permF nm c a) t else permF nm c a
  | [], c => rfl
  | x :: a, c => by
    show (if x.form ≠ 0 ∧ x.name = nm then permF nm (meetC c x) (a ++ [t]) else permF nm c (a ++ [t])) = if t.form ≠ 0 ∧ t.name = nm then meetC (if x.form ≠ 0 ∧ x.name = nm then permF nm (meetC c x) a else permF nm c a) t else (if x.form ≠ 0 ∧ x.name = nm then permF nm (meetC c x) a else permF nm c a)
    split
    · exact permF_snoc nm t a _
    · exact permF_snoc nm t a _
theorem beq_strS (a b : List UInt8) : ((strS a).toList == (strS b).toList) = (a == b) := by rw [strS_toList, strS_toList]
set_option maxRecDepth 100000 in
set_option maxHeartbeats 4000000 in
theorem permits_any (l : List ByteArray) (nm : List UInt8) (A : Option Addr) (n c : Nat) (w : World) (hn : n = l.length) (hs : Seq w w.heap.size 1 A n (cellsS l)) (hl : n ≤ 1000000) (hm : ∀ q ∈ l, q.size ≤ 1000000) :
    Calls Tryd.prog 34 #[.slice A n c, .string (strS nm)] w fun e w' => e = .returned (.agg (cval (permC (PA l) nm))) ∧ Below w.heap.size w w' := by
  replace hs := Lib.hid hs
  replace hn := Lib.hid hn
  replace hm := Lib.hid hm
  go_enter Tryd.func34, Tryd.ntmps34
  go_upto_region 2 with (fail)
  generalize hx_ : World.alloc (World.alloc w _) _ = wo1
  have hO1 : OwnB w wo1 [(w.heap.size + 1, [.bool true, .bool true, .int .i64 0, .int .i64 9007199254740992]), (w.heap.size, [.bool false, .bool false, .int .i64 0, .int .i64 0])] := by rw [← hx_]; exact ((OwnB.refl w).new #[.bool false, .bool false, .int .i64 0, .int .i64 0] _).new #[.bool true, .bool true, .int .i64 0, .int .i64 9007199254740992] _ (g := w.heap.size + 1)
  clear hx_
  have c0_0 : wo1.cell? ⟨w.heap.size + 1, 0, none⟩ = some (.bool true) := hO1.c 0 0
  have c0_1 : wo1.cell? ⟨w.heap.size + 1, 1, none⟩ = some (.bool true) := hO1.c 0 1
  have c0_2 : wo1.cell? ⟨w.heap.size + 1, 2, none⟩ = some (.int .i64 0) := hO1.c 0 2
  have c0_3 : wo1.cell? ⟨w.heap.size + 1, 3, none⟩ = some (.int .i64 9007199254740992) := hO1.c 0 3
  have cf0 := hO1.fr 0
  have c1_0 : wo1.cell? ⟨w.heap.size, 0, none⟩ = some (.bool false) := hO1.c 1 0
  have c1_1 : wo1.cell? ⟨w.heap.size, 1, none⟩ = some (.bool false) := hO1.c 1 1
  have c1_2 : wo1.cell? ⟨w.heap.size, 2, none⟩ = some (.int .i64 0) := hO1.c 1 2
  have c1_3 : wo1.cell? ⟨w.heap.size, 3, none⟩ = some (.int .i64 0) := hO1.c 1 3
  have cf1 := hO1.fr 1
  clear c0_0 c0_1 c0_2 c0_3 cf0 c1_0 c1_1 c1_2 c1_3 cf1
  repeat' ((fail_if_success at_builtin); (first | go_skip | go_guarded | go_step))
  go_loopw [6] (fun u6 wr => ∃ i : Nat, i ≤ n ∧ u6 = .int .i64 (i : Int) ∧ OwnB w wr [(w.heap.size + 1, (cval (permF nm c0 (PA (l.take i)))).toList), (w.heap.size, [.bool false, .bool false, .int .i64 0, .int .i64 0])]) (fun u6 _ => n - (intOf u6).toNat)
  case atStart => exact ⟨0, by omega, rfl, by rw [List.take_zero]; exact hO1⟩
  case round =>
    clear hO1
    obtain ⟨i, hi, rfl, hO⟩ := hrel
    generalize hX : permF nm c0 (PA (l.take i)) = X at hO
    obtain ⟨ab, pl, lo, hi2⟩ := X
    have hO1 : OwnB w wr [(w.heap.size + 1, [.bool ab, .bool pl, .int .i64 (lo : Int), .int .i64 (hi2 : Int)]), (w.heap.size, [.bool false, .bool false, .int .i64 0, .int .i64 0])] := hO
    have c0_0 : wr.cell? ⟨w.heap.size + 1, 0, none⟩ = some (.bool ab) := hO1.c 0 0
    have c0_1 : wr.cell? ⟨w.heap.size + 1, 1, none⟩ = some (.bool pl) := hO1.c 0 1
    have c0_2 : wr.cell? ⟨w.heap.size + 1, 2, none⟩ = some (.int .i64 (lo : Int)) := hO1.c 0 2
    have c0_3 : wr.cell? ⟨w.heap.size + 1, 3, none⟩ = some (.int .i64 (hi2 : Int)) := hO1.c 0 3
    have cf0 := hO1.fr 0
    have c1_0 : wr.cell? ⟨w.heap.size, 0, none⟩ = some (.bool false) := hO1.c 1 0
    have c1_1 : wr.cell? ⟨w.heap.size, 1, none⟩ = some (.bool false) := hO1.c 1 1
    have c1_2 : wr.cell? ⟨w.heap.size, 2, none⟩ = some (.int .i64 0) := hO1.c 1 2
    have c1_3 : wr.cell? ⟨w.heap.size, 3, none⟩ = some (.int .i64 0) := hO1.c 1 3
    have cf1 := hO1.fr 1
    by_cases hlt : i < n
    · have i0 : (0 : Int) ≤ (i : Int) := by omega
      have i1 : (i : Int) < (n : Int) := by omega
      have i2 : IntKind.i64.wrap ((i : Int) + 1) = (i : Int) + 1 := IntWalk.i64_in _ (by omega)
      obtain ⟨q, hq⟩ : ∃ q, l[i]? = some q := ⟨_, List.getElem?_eq_getElem (by have := hn.out; omega)⟩
      obtain ⟨bl, off, rfl, hbl, hcq⟩ := strs_at hs.out hlt hq
      have hq6 := hm.out q (List.mem_of_getElem? hq)
      have hsn := permF_snoc nm (readL q.data.toList) (PA (l.take i)) c0
      rw [← PA_snoc hq, hX] at hsn
      have cq := (hO1.below.cell (p := ⟨bl, off + i, none⟩) hbl).trans hcq
      clear hcq hX
      repeat' ((fail_if_success at_builtin); (first | go_skip | go_guarded | go_step))
      refine (read_any q wr (by omega)).mono ?_
      rintro e w2 ⟨rfl, hb2⟩
      dsimp only
      obtain ⟨p, hp⟩ : ∃ p, p = readL q.data.toList := ⟨_, rfl⟩
      have hnl : p.name.length ≤ q.size := by rw [hp]; have := read_len q.data.toList; rw [list_size] at this; exact this
      have hp5 : p.form ≤ 5 := by rw [hp]; exact read_form _
      rw [← hp] at hsn ⊢
      clear hp
      obtain ⟨pf, pn, pm⟩ := p
      replace hnl : pn.length ≤ q.size := hnl
      replace hp5 : pf ≤ 5 := hp5
      have hO2 : OwnB w w2 [(w.heap.size + 1, [.bool ab, .bool pl, .int .i64 (lo : Int), .int .i64 (hi2 : Int)]), (w.heap.size, [.bool false, .bool false, .int .i64 0, .int .i64 0])] := hO1.kept hb2
      clear c0_0 c0_1 c0_2 c0_3 cf0 c1_0 c1_1 c1_2 c1_3 cf1 hO1
      have c0_0 : w2.cell? ⟨w.heap.size + 1, 0, none⟩ = some (.bool ab) := hO2.c 0 0
      have c0_1 : w2.cell? ⟨w.heap.size + 1, 1, none⟩ = some (.bool pl) := hO2.c 0 1
      have c0_2 : w2.cell? ⟨w.heap.size + 1, 2, none⟩ = some (.int .i64 (lo : Int)) := hO2.c 0 2
      have c0_3 : w2.cell? ⟨w.heap.size + 1, 3, none⟩ = some (.int .i64 (hi2 : Int)) := hO2.c 0 3
      have cf0 := hO2.fr 0
      have c1_0 : w2.cell? ⟨w.heap.size, 0, none⟩ = some (.bool false) := hO2.c 1 0
      have c1_1 : w2.cell? ⟨w.heap.size, 1, none⟩ = some (.bool false) := hO2.c 1 1
      have c1_2 : w2.cell? ⟨w.heap.size, 2, none⟩ = some (.int .i64 0) := hO2.c 1 2
      have c1_3 : w2.cell? ⟨w.heap.size, 3, none⟩ = some (.int .i64 0) := hO2.c 1 3
      have cf1 := hO2.fr 1
      go_upto_region 6 with (fail)
      generalize hx_ : World.alloc w2 _ = wo3
      have hO3 : OwnB w wo3 [(w2.heap.size, [.int .i64 (pf : Int), .string (strS pn), .int .i64 (pm : Int)]), (w.heap.size + 1, [.bool ab, .bool pl, .int .i64 (lo : Int), .int .i64 (hi2 : Int)]), (w.heap.size, [.bool false, .bool false, .int .i64 0, .int .i64 0])] := by rw [← hx_]; exact hO2.new #[.int .i64 (pf : Int), .string (strS pn), .int .i64 (pm : Int)] _
      clear hx_ c0_0 c0_1 c0_2 c0_3 cf0 c1_0 c1_1 c1_2 c1_3 cf1 hO2
      have c0_0 : wo3.cell? ⟨w2.heap.size, 0, none⟩ = some (.int .i64 (pf : Int)) := hO3.c 0 0
      have c0_1 : wo3.cell? ⟨w2.heap.size, 1, none⟩ = some (.string (strS pn)) := hO3.c 0 1
      have c0_2 : wo3.cell? ⟨w2.heap.size, 2, none⟩ = some (.int .i64 (pm : Int)) := hO3.c 0 2
      have cf0 := hO3.fr 0
      have c1_0 : wo3.cell? ⟨w.heap.size + 1, 0, none⟩ = some (.bool ab) := hO3.c 1 0
      have c1_1 : wo3.cell? ⟨w.heap.size + 1, 1, none⟩ = some (.bool pl) := hO3.c 1 1
      have c1_2 : wo3.cell? ⟨w.heap.size + 1, 2, none⟩ = some (.int .i64 (lo : Int)) := hO3.c 1 2
      have c1_3 : wo3.cell? ⟨w.heap.size + 1, 3, none⟩ = some (.int .i64 (hi2 : Int)) := hO3.c 1 3
      have cf1 := hO3.fr 1
      have c2_0 : wo3.cell? ⟨w.heap.size, 0, none⟩ = some (.bool false) := hO3.c 2 0
      have c2_1 : wo3.cell? ⟨w.heap.size, 1, none⟩ = some (.bool false) := hO3.c 2 1
      have c2_2 : wo3.cell? ⟨w.heap.size, 2, none⟩ = some (.int .i64 0) := hO3.c 2 2
      have c2_3 : wo3.cell? ⟨w.heap.size, 3, none⟩ = some (.int .i64 0) := hO3.c 2 3
      have cf2 := hO3.fr 2
      by_cases hF : pf = 0
      · have hsn2 : permF nm c0 (PA (l.take (i + 1))) = ⟨ab, pl, lo, hi2⟩ := by rw [hsn, if_neg (fun h => h.1 hF)]
        have hFb : ((pf : Int) != 0) = false := by simp; omega
        have hO9 := hO3.drop1
        replace hsn2 := Lib.hid hsn2
        clear hsn
        replace hF := Lib.hid hF
        repeat' ((fail_if_success at_builtin); (first | go_skip | go_guarded | go_step))
        go_roundw
        case rel => exact ⟨i + 1, by omega, by go_num, by rw [hsn2.out]; exact hO9⟩
        case measure => simp [intOf]; omega
      · have hFb : ((pf : Int) != 0) = true := by simp; omega
        by_cases hnm : pn = nm
        · subst hnm
          have gnm : (pn == pn) = true := by simp
          have hsn2 : permF pn c0 (PA (l.take (i + 1))) = meetC ⟨ab, pl, lo, hi2⟩ ⟨pf, pn, pm⟩ := by rw [hsn, if_pos ⟨hF, rfl⟩]
          replace hsn2 := Lib.hid hsn2
          clear hsn
          repeat' ((fail_if_success at_builtin); (first | go_skip | go_guarded | go_step))
          refine (meet_any ⟨ab, pl, lo, hi2⟩ ⟨pf, pn, pm⟩ _ (by show 1 ≤ pf; omega) (by show pf ≤ 5; omega)).mono ?_
          rintro e w6 ⟨rfl, hb6⟩
          dsimp only
          generalize meetC ⟨ab, pl, lo, hi2⟩ ⟨pf, pn, pm⟩ = Y at *
          obtain ⟨ya, yp, yl, yh⟩ := Y
          have hO4 : OwnB w w6 [(w2.heap.size, [.int .i64 (pf : Int), .string (strS pn), .int .i64 (pm : Int)]), (w.heap.size + 1, [.bool ab, .bool pl, .int .i64 (lo : Int), .int .i64 (hi2 : Int)]), (w.heap.size, [.bool false, .bool false, .int .i64 0, .int .i64 0])] := hO3.kept hb6
          clear c0_0 c0_1 c0_2 cf0 c1_0 c1_1 c1_2 c1_3 cf1 c2_0 c2_1 c2_2 c2_3 cf2 hO3
          have c0_0 : w6.cell? ⟨w2.heap.size, 0, none⟩ = some (.int .i64 (pf : Int)) := hO4.c 0 0
          have c0_1 : w6.cell? ⟨w2.heap.size, 1, none⟩ = some (.string (strS pn)) := hO4.c 0 1
          have c0_2 : w6.cell? ⟨w2.heap.size, 2, none⟩ = some (.int .i64 (pm : Int)) := hO4.c 0 2
          have cf0 := hO4.fr 0
          have c1_0 : w6.cell? ⟨w.heap.size + 1, 0, none⟩ = some (.bool ab) := hO4.c 1 0
          have c1_1 : w6.cell? ⟨w.heap.size + 1, 1, none⟩ = some (.bool pl) := hO4.c 1 1
          have c1_2 : w6.cell? ⟨w.heap.size + 1, 2, none⟩ = some (.int .i64 (lo : Int)) := hO4.c 1 2
          have c1_3 : w6.cell? ⟨w.heap.size + 1, 3, none⟩ = some (.int .i64 (hi2 : Int)) := hO4.c 1 3
          have cf1 := hO4.fr 1
          have c2_0 : w6.cell? ⟨w.heap.size, 0, none⟩ = some (.bool false) := hO4.c 2 0
          have c2_1 : w6.cell? ⟨w.heap.size, 1, none⟩ = some (.bool false) := hO4.c 2 1
          have c2_2 : w6.cell? ⟨w.heap.size, 2, none⟩ = some (.int .i64 0) := hO4.c 2 2
          have c2_3 : w6.cell? ⟨w.heap.size, 3, none⟩ = some (.int .i64 0) := hO4.c 2 3
          have cf2 := hO4.fr 2
          repeat' ((fail_if_success at_builtin); (first | go_skip | go_guarded | go_step))
          generalize hx_ : World.setCell (World.setCell (World.setCell (World.setCell _ _ _) _ _) _ _) _ _ = wo5
          have hO5 : OwnB w wo5 [(w2.heap.size, [.int .i64 (pf : Int), .string (strS pn), .int .i64 (pm : Int)]), (w.heap.size + 1, [.bool ya, .bool yp, .int .i64 (yl : Int), .int .i64 (yh : Int)]), (w.heap.size, [.bool false, .bool false, .int .i64 0, .int .i64 0])] := by rw [← hx_]; exact (((hO4.store 1 rfl 0 _).store 1 rfl 1 _).store 1 rfl 2 _).store 1 rfl 3 _
          clear hx_ c0_0 c0_1 c0_2 cf0 c1_0 c1_1 c1_2 c1_3 cf1 c2_0 c2_1 c2_2 c2_3 cf2 hO4
          have c0_0 : wo5.cell? ⟨w2.heap.size, 0, none⟩ = some (.int .i64 (pf : Int)) := hO5.c 0 0
          have c0_1 : wo5.cell? ⟨w2.heap.size, 1, none⟩ = some (.string (strS pn)) := hO5.c 0 1
          have c0_2 : wo5.cell? ⟨w2.heap.size, 2, none⟩ = some (.int .i64 (pm : Int)) := hO5.c 0 2
          have cf0 := hO5.fr 0
          have c1_0 : wo5.cell? ⟨w.heap.size + 1, 0, none⟩ = some (.bool ya) := hO5.c 1 0
          have c1_1 : wo5.cell? ⟨w.heap.size + 1, 1, none⟩ = some (.bool yp) := hO5.c 1 1
          have c1_2 : wo5.cell? ⟨w.heap.size + 1, 2, none⟩ = some (.int .i64 (yl : Int)) := hO5.c 1 2
          have c1_3 : wo5.cell? ⟨w.heap.size + 1, 3, none⟩ = some (.int .i64 (yh : Int)) := hO5.c 1 3
          have cf1 := hO5.fr 1
          have c2_0 : wo5.cell? ⟨w.heap.size, 0, none⟩ = some (.bool false) := hO5.c 2 0
          have c2_1 : wo5.cell? ⟨w.heap.size, 1, none⟩ = some (.bool false) := hO5.c 2 1
          have c2_2 : wo5.cell? ⟨w.heap.size, 2, none⟩ = some (.int .i64 0) := hO5.c 2 2
          have c2_3 : wo5.cell? ⟨w.heap.size, 3, none⟩ = some (.int .i64 0) := hO5.c 2 3
          have cf2 := hO5.fr 2
          have hO9 := hO5.drop1
          go_roundw
          case rel => exact ⟨i + 1, by omega, by go_num, by rw [hsn2.out]; exact hO9⟩
          case measure => simp [intOf]; omega
        · have gnm : (pn == nm) = false := by simpa using hnm
          have hsn2 : permF nm c0 (PA (l.take (i + 1))) = ⟨ab, pl, lo, hi2⟩ := by rw [hsn, if_neg (fun h => hnm h.2)]
          have hO9 := hO3.drop1
          replace hsn2 := Lib.hid hsn2
          clear hsn
          repeat' ((fail_if_success at_builtin); (first | go_skip | go_guarded | go_step))
          go_roundw
          case rel => exact ⟨i + 1, by omega, by go_num, by rw [hsn2.out]; exact hO9⟩
          case measure => simp [intOf]; omega
    · have i1 : ¬ (i : Int) < (n : Int) := by omega
      have htk : l.take i = l := List.take_of_length_le (by have := hn.out; omega)
      rw [htk] at hX
      replace hX := Lib.hid hX
      repeat' ((fail_if_success at_builtin); (first | go_skip | go_guarded | go_step))
      generalize hx_ : World.setCell (World.setCell (World.setCell (World.setCell _ _ _) _ _) _ _) _ _ = wo2
      have hO2 : OwnB w wo2 [(w.heap.size + 1, [.bool ab, .bool pl, .int .i64 (lo : Int), .int .i64 (hi2 : Int)]), (w.heap.size, [.bool ab, .bool pl, .int .i64 (lo : Int), .int .i64 (hi2 : Int)])] := by rw [← hx_]; exact (((hO1.store 1 rfl 0 _).store 1 rfl 1 _).store 1 rfl 2 _).store 1 rfl 3 _
      clear hx_ c0_0 c0_1 c0_2 c0_3 cf0 c1_0 c1_1 c1_2 c1_3 cf1 hO1
      have c0_0 : wo2.cell? ⟨w.heap.size + 1, 0, none⟩ = some (.bool ab) := hO2.c 0 0
      have c0_1 : wo2.cell? ⟨w.heap.size + 1, 1, none⟩ = some (.bool pl) := hO2.c 0 1
      have c0_2 : wo2.cell? ⟨w.heap.size + 1, 2, none⟩ = some (.int .i64 (lo : Int)) := hO2.c 0 2
      have c0_3 : wo2.cell? ⟨w.heap.size + 1, 3, none⟩ = some (.int .i64 (hi2 : Int)) := hO2.c 0 3
      have cf0 := hO2.fr 0
      have c1_0 : wo2.cell? ⟨w.heap.size, 0, none⟩ = some (.bool ab) := hO2.c 1 0
      have c1_1 : wo2.cell? ⟨w.heap.size, 1, none⟩ = some (.bool pl) := hO2.c 1 1
      have c1_2 : wo2.cell? ⟨w.heap.size, 2, none⟩ = some (.int .i64 (lo : Int)) := hO2.c 1 2
      have c1_3 : wo2.cell? ⟨w.heap.size, 3, none⟩ = some (.int .i64 (hi2 : Int)) := hO2.c 1 3
      have cf1 := hO2.fr 1
      have hb9 := hO2.below
      refine bodyPost_ret (v := .agg #[.bool ab, .bool pl, .int .i64 (lo : Int), .int .i64 (hi2 : Int)]) (by simp only [results, Tryd.results34]; go_simp; first | done | exact ⟨rfl, rfl, rfl⟩ | rfl) rfl ?_
      exact ⟨by unfold permC; rw [hX.out], hb9⟩
def canT (a : List Prt) (t : Prt) : Bool := decide (t.form ≠ 0) && possC (permC a t.name)
theorem canT_at {l : List ByteArray} {i : Nat} {q : ByteArray} {a : List Prt} (h : l[i]? = some q) : (PA (l.drop i)).all (canT a) = (canT a (readL q.data.toList) && (PA (l.drop (i + 1))).all (canT a)) := by
  rw [PA_drop h]
  rfl
theorem allP_end {f : Prt → Bool} {l : List ByteArray} {i : Nat} (h : l.length ≤ i) : (PA (l.drop i)).all f = true := by
  rw [List.drop_of_length_le h]
  rfl
set_option maxRecDepth 100000 in
set_option maxHeartbeats 4000000 in
theorem refCan_any (l : List ByteArray) (A : Option Addr) (n c : Nat) (w : World) (hn : n = l.length) (hs : Seq w w.heap.size 1 A n (cellsS l)) (hl : n ≤ 1000000) (hm : ∀ q ∈ l, q.size ≤ 1000000) :
    Calls Tryd.prog 31 #[.slice A n c] w fun e w' => e = .returned (.bool (canR (PA l))) ∧ Below w.heap.size w w' := by
  have CP := fun w' (h : Below w.heap.size w w') (nm : List UInt8) => permits_any l nm A n c w' hn ((hs.below h).more h.size) hl hm
  obtain ⟨fin, hfin⟩ : ∃ fin, fin = canR (PA l) := ⟨_, rfl⟩
  have hst : fin = (PA (l.drop 0)).all (canT (PA l)) := by rw [hfin]; rfl
  replace hfin := Lib.hid hfin
  replace hst := Lib.hid hst
  replace CP := Lib.hid CP
  replace hs := Lib.hid hs
  replace hn := Lib.hid hn
  replace hm := Lib.hid hm
  go_enter Tryd.func31, Tryd.ntmps31
  repeat' ((fail_if_success at_builtin); (first | go_skip | go_guarded | go_step))
  go_loopw [3] (fun u3 wr => ∃ i : Nat, i ≤ n ∧ u3 = .int .i64 (i : Int) ∧ Below w.heap.size w wr ∧ fin = (PA (l.drop i)).all (canT (PA l))) (fun u3 _ => n - (intOf u3).toNat)
  case atStart => exact ⟨0, by omega, rfl, Below.refl _ _, hst.out⟩
  case round =>
    clear hst
    obtain ⟨i, hi, rfl, hb, hu⟩ := hrel
    by_cases hlt : i < n
    · have i0 : (0 : Int) ≤ (i : Int) := by omega
      have i1 : (i : Int) < (n : Int) := by omega
      have i2 : IntKind.i64.wrap ((i : Int) + 1) = (i : Int) + 1 := IntWalk.i64_in _ (by omega)
      obtain ⟨q, hq⟩ : ∃ q, l[i]? = some q := ⟨_, List.getElem?_eq_getElem (by have := hn.out; omega)⟩
      obtain ⟨bl, off, rfl, hbl, hcq⟩ := strs_at hs.out hlt hq
      have hq6 := hm.out q (List.mem_of_getElem? hq)
      have hu2 := hu.trans (canT_at hq)
      have cq := (hb.cell (p := ⟨bl, off + i, none⟩) hbl).trans hcq
      clear hcq hu hq
      repeat' ((fail_if_success at_builtin); (first | go_skip | go_guarded | go_step))
      refine (read_any q wr (by omega)).mono ?_
      rintro e w2 ⟨rfl, hb2⟩
      dsimp only
      obtain ⟨p, hp⟩ : ∃ p, p = readL q.data.toList := ⟨_, rfl⟩
      have hnl : p.name.length ≤ q.size := by rw [hp]; have := read_len q.data.toList; rw [list_size] at this; exact this
      have hp5 : p.form ≤ 5 := by rw [hp]; exact read_form _
      rw [← hp] at hu2 ⊢
      clear hp
      obtain ⟨pf, pn, pm⟩ := p
      replace hnl : pn.length ≤ q.size := hnl
      replace hp5 : pf ≤ 5 := hp5
      go_upto_region 5 with (fail)
      generalize hx_ : World.alloc w2 _ = wo1
      have hO1 : OwnB w wo1 [(w2.heap.size, [.int .i64 (pf : Int), .string (strS pn), .int .i64 (pm : Int)])] := by rw [← hx_]; exact (OwnB.of (hb.trans (hb2.mono hb.size))).new #[.int .i64 (pf : Int), .string (strS pn), .int .i64 (pm : Int)] _
      clear hx_
      have c0_0 : wo1.cell? ⟨w2.heap.size, 0, none⟩ = some (.int .i64 (pf : Int)) := hO1.c 0 0
      have c0_1 : wo1.cell? ⟨w2.heap.size, 1, none⟩ = some (.string (strS pn)) := hO1.c 0 1
      have c0_2 : wo1.cell? ⟨w2.heap.size, 2, none⟩ = some (.int .i64 (pm : Int)) := hO1.c 0 2
      have cf0 := hO1.fr 0
      have hb9 := hO1.below
      by_cases hF : pf = 0
      · have hf : fin = false := by rw [hu2, hF]; rfl
        replace hf := Lib.hid hf
        have hFb : ((pf : Int) == 0) = true := by simp; omega
        clear hu2
        replace hF := Lib.hid hF
        repeat' ((fail_if_success at_builtin); (first | go_skip | go_guarded | go_step))
        go_ret
        exact ⟨retB (by rw [← hfin.out, hf.out]), hb9⟩
      · have hFb : ((pf : Int) == 0) = false := by simp; omega
        have hu3 : fin = (possC (permC (PA l) pn) && (PA (l.drop (i + 1))).all (canT (PA l))) := by
          rw [hu2]
          show ((decide (pf ≠ 0) && possC (permC (PA l) pn)) && _) = _
          rw [decide_eq_true hF]
          rfl
        have CPn := CP.out _ hb9 pn
        generalize permC (PA l) pn = Y at CPn hu3
        obtain ⟨ya, yp, yl, yh⟩ := Y
        replace hu3 := Lib.hid hu3
        replace CPn := Lib.hid CPn
        clear hu2
        repeat' ((fail_if_success at_builtin); (first | go_skip | go_guarded | go_step))
        refine CPn.out.mono ?_
        rintro e w3 ⟨rfl, hb3⟩
        dsimp only
        have hb10 := hb9.trans (hb3.mono hb9.size)
        repeat' ((fail_if_success at_builtin); (first | go_skip | go_guarded | go_step))
        refine (refPossible_any ⟨ya, yp, yl, yh⟩ _).mono ?_
        rintro e w4 ⟨rfl, hb4⟩
        dsimp only
        have hb11 := hb10.trans (hb4.mono hb10.size)
        cases hpo : possC ⟨ya, yp, yl, yh⟩ with
        | false =>
          have hf : fin = false := by rw [hu3.out, hpo]; rfl
          replace hf := Lib.hid hf
          clear hu3 hpo
          repeat' ((fail_if_success at_builtin); (first | go_skip | go_guarded | go_step))
          go_ret
          exact ⟨retB (by rw [← hfin.out, hf.out]), hb11⟩
        | true =>
          have hf : fin = (PA (l.drop (i + 1))).all (canT (PA l)) := by rw [hu3.out, hpo]; rfl
          replace hf := Lib.hid hf
          clear hu3 hpo
          repeat' ((fail_if_success at_builtin); (first | go_skip | go_guarded | go_step))
          go_roundw
          case rel => exact ⟨i + 1, by omega, by go_num, hb11, hf.out⟩
          case measure => simp [intOf]; omega
    · have i1 : ¬ (i : Int) < (n : Int) := by omega
      have hf : fin = true := by rw [hu, allP_end (by have := hn.out; omega)]
      replace hf := Lib.hid hf
      clear hu
      repeat' ((fail_if_success at_builtin); (first | go_skip | go_guarded | go_step))
      go_ret
      exact ⟨retB (by rw [← hfin.out, hf.out]), hb⟩
end Go.Proofs.YtppbblgdcckbdaaDoor
