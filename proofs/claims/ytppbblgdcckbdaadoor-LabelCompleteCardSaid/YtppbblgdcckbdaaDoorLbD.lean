/- Label: the document's reading. -/
import Derived.Test.YtppbblgdcckbdaaDoorLbN
import Derived.Deep.RegionHeld3
import Derived.BigQuiet
namespace Go.Proofs.YtppbblgdcckbdaaDoor
open Go.RowKit
abbrev pval (p : Prt) : Array Value := #[.int .i64 (p.form : Int), .string (strS p.name), .int .i64 (p.n : Int)]
theorem splitC_at2 {l : List UInt8} {i : Nat} {c : UInt8} (h : l[i]? = some c) : splitC (l.drop i) = if isCo c.toNat then ([], l.drop i) else (c :: (splitC (l.drop (i + 1))).1, (splitC (l.drop (i + 1))).2) := by
  obtain ⟨hi, rfl⟩ := List.getElem?_eq_some_iff.1 h
  rw [List.drop_eq_getElem_cons hi]
  rfl
def SplitI (l : List UInt8) (i : Nat) : Prop := splitC l = (l.take i ++ (splitC (l.drop i)).1, (splitC (l.drop i)).2)
theorem SplitI.next {l : List UInt8} {i : Nat} {c : UInt8} (h : SplitI l i) (hc : l[i]? = some c) (hn : isCo c.toNat = false) : SplitI l (i + 1) := by
  unfold SplitI at h ⊢
  rw [h, splitC_at2 hc, hn]
  obtain ⟨hi, rfl⟩ := List.getElem?_eq_some_iff.1 hc
  rw [List.take_succ_eq_append_getElem hi, List.append_assoc]
  rfl
theorem SplitI.hit {l : List UInt8} {i : Nat} {c : UInt8} (h : SplitI l i) (hc : l[i]? = some c) (hn : isCo c.toNat = true) : splitC l = (l.take i, l.drop i) := by
  unfold SplitI at h
  rw [h, splitC_at2 hc, hn]
  simp
theorem SplitI.end_ {l : List UInt8} {i : Nat} (h : SplitI l i) (hi : l.length ≤ i) : splitC l = (l, []) := by
  unfold SplitI at h
  rw [h, List.drop_of_length_le hi, List.take_of_length_le hi]
  simp [splitC]
theorem isCo_true {c : Nat} (h : isCo c = true) : c = 60 ∨ c = 61 ∨ c = 62 := by
  unfold isCo at h
  simp at h
  omega
theorem isCo_false {c : Nat} (h : isCo c = false) : c ≠ 60 ∧ c ≠ 61 ∧ c ≠ 62 := by
  unfold isCo at h
  simp at h
  omega
theorem ext_take (s : ByteArray) (i : Nat) : s.extract 0 i = strS (s.data.toList.take i) := by
  rw [ext_strS]
  simp
theorem ext_drop (s : ByteArray) (i : Nat) : s.extract i s.size = strS (s.data.toList.drop i) := by
  rw [ext_strS, List.take_of_length_le (by rw [list_size]; omega)]
theorem ret2s {a b c d : ByteArray} (h1 : a = c) (h2 : b = d) : Ending.returned (.tuple #[.string a, .string b]) = Ending.returned (.tuple #[.string c, .string d]) := by rw [h1, h2]
set_option maxRecDepth 100000 in
set_option maxHeartbeats 2000000 in
theorem split_any (s : ByteArray) (w : World) (hm : s.size ≤ 1000000000) : Calls Tryd.prog 49 #[.string s] w fun e w' => e = .returned (.tuple #[.string (strS (splitC s.data.toList).1), .string (strS (splitC s.data.toList).2)]) ∧ Below w.heap.size w w' := by
  have hsz := list_size s
  have hst : SplitI s.data.toList 0 := by unfold SplitI; simp
  replace hst := Lib.hid hst
  replace hsz := Lib.hid hsz
  go_enter Tryd.func49, Tryd.ntmps49
  repeat' ((fail_if_success at_builtin); (first | go_skip | go_guarded | go_step))
  go_loopw [4] (fun u4 wr => ∃ i : Nat, i ≤ s.size ∧ u4 = .int .i64 (i : Int) ∧ Below w.heap.size w wr ∧ SplitI s.data.toList i) (fun u4 _ => s.size - (intOf u4).toNat)
  case atStart => exact ⟨0, by omega, rfl, Below.refl _ _, hst.out⟩
  case round =>
    obtain ⟨i, hi, rfl, hb, hu⟩ := hrel
    replace hu := Lib.hid hu
    by_cases hlt : i < s.size
    · have hci := Lib.hid (str_at hlt)
      have i0 : (0 : Int) ≤ (i : Int) := by omega
      have i1 : (i : Int) < (s.size : Int) := by omega
      have i2 : (i : Int) ≤ (s.size : Int) := by omega
      have i3 : IntKind.i64.wrap ((i : Int) + 1) = (i : Int) + 1 := IntWalk.i64_in _ (by omega)
      cases hc : isCo s[i].toNat with
      | true =>
        have hh := Lib.hid (hu.out.hit hci.out hc)
        rcases isCo_true hc with h | h | h
        · have d1 : ((s[i].toNat : Int) == 60) = true := by simp; omega
          clear hc h
          repeat' ((fail_if_success at_builtin); (first | go_skip | go_guarded | go_step))
          go_quiet (fail)
          have hb9 := hb.trans (Below.mono (Below.drewN wr nq) hb.size)
          repeat' ((fail_if_success at_builtin); (first | go_skip | go_guarded | go_step))
          go_ret2
          exact ⟨ret2s (by rw [hh.out, ext_take]) (by rw [hh.out, ext_drop]), hb9⟩
        · have d1 : ((s[i].toNat : Int) == 60) = false := by simp; omega
          have d2 : ((s[i].toNat : Int) == 62) = false := by simp; omega
          have d3 : ((s[i].toNat : Int) == 61) = true := by simp; omega
          clear hc h
          repeat' ((fail_if_success at_builtin); (first | go_skip | go_guarded | go_step))
          go_quiet (fail)
          have hb9 := hb.trans (Below.mono (Below.drewN wr nq) hb.size)
          repeat' ((fail_if_success at_builtin); (first | go_skip | go_guarded | go_step))
          go_ret2
          exact ⟨ret2s (by rw [hh.out, ext_take]) (by rw [hh.out, ext_drop]), hb9⟩
        · have d1 : ((s[i].toNat : Int) == 60) = false := by simp; omega
          have d2 : ((s[i].toNat : Int) == 62) = true := by simp; omega
          clear hc h
          repeat' ((fail_if_success at_builtin); (first | go_skip | go_guarded | go_step))
          go_quiet (fail)
          have hb9 := hb.trans (Below.mono (Below.drewN wr nq) hb.size)
          repeat' ((fail_if_success at_builtin); (first | go_skip | go_guarded | go_step))
          go_ret2
          exact ⟨ret2s (by rw [hh.out, ext_take]) (by rw [hh.out, ext_drop]), hb9⟩
      | false =>
        have hn := Lib.hid (hu.out.next hci.out hc)
        obtain ⟨h1, h2, h3⟩ := isCo_false hc
        have d1 : ((s[i].toNat : Int) == 60) = false := by simp; omega
        have d2 : ((s[i].toNat : Int) == 62) = false := by simp; omega
        have d3 : ((s[i].toNat : Int) == 61) = false := by simp; omega
        clear hc h1 h2 h3
        repeat' ((fail_if_success at_builtin); (first | go_skip | go_guarded | go_step))
        go_roundw
        case rel => exact ⟨i + 1, by omega, by go_num, hb, hn.out⟩
        case measure => simp [intOf]; omega
    · have i1 : ¬ (i : Int) < (s.size : Int) := by omega
      have hh := Lib.hid (hu.out.end_ (by rw [hsz.out]; omega))
      repeat' ((fail_if_success at_builtin); (first | go_skip | go_guarded | go_step))
      go_ret2
      exact ⟨ret2s (by rw [hh.out, strS_data]) (by rw [hh.out]), hb⟩
theorem put3 {w : World} {b : Nat} {a0 a1 a2 : Value} (h0 : w.cell? ⟨b, 0, none⟩ = some a0) (h1 : w.cell? ⟨b, 1, none⟩ = some a1) (h2 : w.cell? ⟨b, 2, none⟩ = some a2) (u v x : Value) :
    (((w.setCell ⟨b, 0, none⟩ u).setCell ⟨b, 1, none⟩ v).setCell ⟨b, 2, none⟩ x).cell? ⟨b, 0, none⟩ = some u ∧ (((w.setCell ⟨b, 0, none⟩ u).setCell ⟨b, 1, none⟩ v).setCell ⟨b, 2, none⟩ x).cell? ⟨b, 1, none⟩ = some v ∧ (((w.setCell ⟨b, 0, none⟩ u).setCell ⟨b, 1, none⟩ v).setCell ⟨b, 2, none⟩ x).cell? ⟨b, 2, none⟩ = some x := by
  have o : ∀ (W : World) (i j : Nat) (y : Value), i ≠ j → (W.setCell ⟨b, i, none⟩ y).cell? ⟨b, j, none⟩ = W.cell? ⟨b, j, none⟩ := fun W i j y h => World.cell?_setCell_other W _ _ _ (by intro e; injection e with _ e; exact h e)
  refine ⟨?_, ?_, ?_⟩
  · rw [o _ 2 0 _ (by decide), o _ 1 0 _ (by decide)]
    exact World.cell?_setCell_same w ⟨b, 0, none⟩ u h0
  · rw [o _ 2 1 _ (by decide)]
    exact World.cell?_setCell_same _ ⟨b, 1, none⟩ v ((o w 0 1 u (by decide)).trans h1)
  · exact World.cell?_setCell_same _ ⟨b, 2, none⟩ x ((o _ 1 2 v (by decide)).trans ((o w 0 2 u (by decide)).trans h2))
theorem below3 {B : Nat} {a w : World} (h : Below B a w) {b : Nat} (hb : B ≤ b) (u v x : Value) : Below B a (((w.setCell ⟨b, 0, none⟩ u).setCell ⟨b, 1, none⟩ v).setCell ⟨b, 2, none⟩ x) :=
  ((h.setCell (p := ⟨b, 0, none⟩) hb _).setCell (p := ⟨b, 1, none⟩) hb _).setCell (p := ⟨b, 2, none⟩) hb _
/-- a box for a part -/
structure Z3 (w wx : World) (b : Nat) (p : Prt) : Prop where
  below : Below w.heap.size w wx
  so : w.heap.size ≤ b
  lo : b < wx.heap.size
  c0 : wx.cell? ⟨b, 0, none⟩ = some (.int .i64 (p.form : Int))
  c1 : wx.cell? ⟨b, 1, none⟩ = some (.string (strS p.name))
  c2 : wx.cell? ⟨b, 2, none⟩ = some (.int .i64 (p.n : Int))
  fr : ∀ j, wx.frozen? ⟨b, j, none⟩ = false
theorem Z3.at {w wx wy : World} {b : Nat} {p : Prt} (h : Z3 w wx b p) (hb : Below wx.heap.size wx wy) : Z3 w wy b p := by
  obtain ⟨h1, h2, h3, h4, h5, h6, h7⟩ := h
  exact ⟨h1.trans (hb.mono h1.size), h2, Nat.lt_of_lt_of_le h3 hb.size, (hb.cell (p := ⟨b, 0, none⟩) h3).trans h4, (hb.cell (p := ⟨b, 1, none⟩) h3).trans h5, (hb.cell (p := ⟨b, 2, none⟩) h3).trans h6, fun j => (hb.frozen (p := ⟨b, j, none⟩) h3).trans (h7 j)⟩
theorem Z3.put {w wx : World} {b : Nat} {p : Prt} (h : Z3 w wx b p) (q : Prt) : Z3 w (((wx.setCell ⟨b, 0, none⟩ (.int .i64 (q.form : Int))).setCell ⟨b, 1, none⟩ (.string (strS q.name))).setCell ⟨b, 2, none⟩ (.int .i64 (q.n : Int))) b q := by
  obtain ⟨h1, h2, h3, h4, h5, h6, h7⟩ := h
  obtain ⟨g0, g1, g2⟩ := put3 h4 h5 h6 (.int .i64 (q.form : Int)) (.string (strS q.name)) (.int .i64 (q.n : Int))
  exact ⟨below3 h1 h2 _ _ _, h2, by simpa [World.setCell] using h3, g0, g1, g2, fun j => by rw [World.frozen?_setCell, World.frozen?_setCell, World.frozen?_setCell]; exact h7 j⟩
theorem Z3.new {w wx : World} (hb : Below w.heap.size w wx) (t : TypeId) (p : Prt) : Z3 w (wx.alloc (.cells (pval p) t)) wx.heap.size p :=
  ⟨hb.alloc hb.size _, hb.size, by simp, by simp [go_sem], by simp [go_sem], by simp [go_sem], fun j => by simp [go_sem]⟩
end Go.Proofs.YtppbblgdcckbdaaDoor
