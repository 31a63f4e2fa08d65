/- Match$1: one pass over the elements: the walk. -/
import Derived.Test.YtgloblokkejgmaaDoorGPrs
import Derived.Lib.BufferOwn
namespace Go.Proofs.YtgloblokkejgmaaDoor
open Go.RowKit
theorem flatE_at {α : Type} {f : α → List Value} {sz : Nat} (hf : ∀ x, (f x).length = sz) : ∀ {l : List α} {i : Nat} {x : α} {j : Nat} {u : Value}, l[i]? = some x → (f x)[j]? = some u → (l.flatMap f)[i * sz + j]? = some u
  | [], _, _, _, _, h, _ => by simp at h
  | y :: l, 0, x, j, u, h, hu => by
    simp only [List.getElem?_cons_zero, Option.some.injEq] at h
    subst h
    have hj := (List.getElem?_eq_some_iff.1 hu).1
    rw [List.flatMap_cons, Nat.zero_mul, Nat.zero_add, List.getElem?_append_left hj]; exact hu
  | y :: l, i + 1, x, j, u, h, hu => by
    rw [List.flatMap_cons, Nat.add_mul, List.getElem?_append_right (by rw [hf]; omega), hf, ← flatE_at hf (l := l) (i := i) (by simpa using h) hu]
    congr 1
    omega
def manyAt (es : List El) (k : Nat) : Bool := (es[k]?.map El.many).getD false
def skN (m f : Nat → Bool) : Nat → Bool
  | 0 => f 0
  | k + 1 => f (k + 1) || (skN m f k && m k)
/-- a row of n + 1 bools -/
def BRow (w : World) (g n : Nat) (f : Nat → Bool) : Prop := (∀ j, j ≤ n → w.cell? ⟨g, j, none⟩ = some (.bool (f j))) ∧ ∀ j, w.frozen? ⟨g, j, none⟩ = false
theorem BRow.set {w : World} {g n : Nat} {f : Nat → Bool} (h : BRow w g n f) (k : Nat) (hk : k ≤ n) (v : Bool) : BRow (w.setCell ⟨g, k, none⟩ (.bool v)).drew g n (fun j => if j = k then v else f j) := by
  refine ⟨fun j hj => ?_, fun j => ?_⟩
  · by_cases hjk : j = k
    · subst hjk
      have := h.1 j hj
      simp [go_sem, this]
    · show _ = some (Value.bool (if j = k then v else f j))
      rw [if_neg hjk, World.cell?_drew, World.cell?_setCell_other w _ _ _ (by intro h; injection h with h1 h2; exact hjk h2.symm)]
      exact h.1 j hj
  · simp [go_sem, h.2]
theorem BRow.set' {w : World} {g n : Nat} {f : Nat → Bool} (h : BRow w g n f) (k : Nat) (hk : k ≤ n) (v : Bool) : BRow (w.setCell ⟨g, k, none⟩ (.bool v)) g n (fun j => if j = k then v else f j) := by
  obtain ⟨h1, h2⟩ := h.set k hk v
  exact ⟨fun j hj => h1 j hj, fun j => h2 j⟩
theorem BRow.kept {w w' : World} {g n : Nat} {f : Nat → Bool} (h : BRow w g n f) (hb : Below w.heap.size w w') (hg : g < w.heap.size) : BRow w' g n f :=
  ⟨fun j hj => (hb.cell (p := ⟨g, j, none⟩) hg).trans (h.1 j hj), fun j => (hb.frozen (p := ⟨g, j, none⟩) hg).trans (h.2 j)⟩
theorem BRow.congr {w : World} {g n : Nat} {f f' : Nat → Bool} (h : BRow w g n f) (hf : ∀ j, j ≤ n → f j = f' j) : BRow w g n f' := ⟨fun j hj => by rw [← hf j hj]; exact h.1 j hj, h.2⟩
theorem grow_drew {w w' : World} {row : Option Nat} (h : w.grownBy w' row) : w.grownBy w'.drew row := ⟨h.os, h.tape, h.output, h.size, h.block⟩
theorem grow_cell {w w' : World} {g : Nat} (h : w.grownBy w' (some g)) {p : Addr} (h1 : p.block < w.heap.size) (h2 : p.block ≠ g) : w'.cell? p = w.cell? p := World.cell?_of_block (h.block p.block h1 (fun e => h2 (by injection e)))
theorem grow_frozen {w w' : World} {g : Nat} (h : w.grownBy w' (some g)) {p : Addr} (h1 : p.block < w.heap.size) (h2 : p.block ≠ g) : w'.frozen? p = w.frozen? p := World.frozen?_of_block (h.block p.block h1 (fun e => h2 (by injection e)))
set_option maxRecDepth 100000 in
set_option maxHeartbeats 2000000 in
theorem skip_any (es : List El) (A : Option Addr) (c c2 pl pa g n : Nat) (f : Nat → Bool) (w : World) (hn : n = es.length) (hl : n ≤ 1000000)
    (hpl : w.cell? ⟨pl, 0, none⟩ = some (.slice A n c)) (hpa : w.cell? ⟨pa, 0, none⟩ = some (.slice (some ⟨g, 0, none⟩) (n + 1) c2)) (hne1 : pl ≠ g) (hne2 : pa ≠ g) (hlp : pl < w.heap.size) (hlq : pa < w.heap.size) (hlg : g < w.heap.size)
    (hs : SeqP w (fun b => b < w.heap.size ∧ b ≠ g) 7 A n (elcs es)) (hr : BRow w g n f) :
    Calls Tryd.prog 83 #[.pointer (some ⟨pl, 0, none⟩), .pointer (some ⟨pa, 0, none⟩)] w fun e w' => e = .returned (.tuple #[]) ∧ w.grownBy w' (some g) ∧ BRow w' g n (skN (manyAt es) f) := by
  replace hs := Lib.hid hs
  replace hn := Lib.hid hn
  go_enter Tryd.func83, Tryd.ntmps83
  repeat' ((fail_if_success at_builtin); (first | go_skip | go_guarded | go_step))
  go_loopw [6] (fun u6 wr => ∃ i : Nat, i ≤ n ∧ u6 = .int .i64 (i : Int) ∧ w.grownBy wr (some g) ∧ BRow wr g n (fun j => if j ≤ i then skN (manyAt es) f j else f j)) (fun u6 _ => n - (intOf u6).toNat)
  case atStart =>
    refine ⟨0, by omega, rfl, World.grownBy.refl _ _, hr.congr fun j hj => ?_⟩
    split
    · obtain rfl : j = 0 := by omega
      rfl
    · rfl
  case round =>
    obtain ⟨i, hi, rfl, hgr, hrow⟩ := hrel
    by_cases hlt : i < n
    · obtain ⟨b, o, rfl, ⟨hbB, hbg⟩, hcell⟩ := hs.out.2 (by omega)
      have hlt2 : i < es.length := by have := hn.out; omega
      have hci : es[i]? = some es[i] := List.getElem?_eq_getElem hlt2
      have hcell' := fun j u hu => (grow_cell hgr (p := ⟨b, o + (i * 7 + j), none⟩) hbB hbg).trans (hcell (i * 7 + j) u (flatE_at (f := fun e => (ecells e).toList) (fun _ => rfl) hci hu))
      clear hcell
      have hm : manyAt es i = es[i].many := by unfold manyAt; rw [hci]; rfl
      generalize es[i] = x at *
      have e0 := hcell' 0 _ rfl
      have e1 := hcell' 1 _ rfl
      have e2 := hcell' 2 _ rfl
      have e3 := hcell' 3 _ rfl
      have e4 := hcell' 4 _ rfl
      have e5 := hcell' 5 _ rfl
      have e6 := hcell' 6 _ rfl
      simp only [← Nat.add_assoc, Nat.add_zero] at e0 e1 e2 e3 e4 e5 e6
      clear hcell' hci
      have i0 : (0 : Int) ≤ (i : Int) := by omega
      have i1 : (i : Int) < (n : Int) := by omega
      have i2 : IntKind.i64.wrap ((i : Int) + 1) = (i : Int) + 1 := IntWalk.i64_in _ (by omega)
      have i3 : (i : Int) < (n : Int) + 1 := by omega
      have i4 : (i : Int) + 1 < (n : Int) + 1 := by omega
      have i5 : (0 : Int) ≤ (i : Int) + 1 := by omega
      have hplr := (grow_cell hgr (p := ⟨pl, 0, none⟩) hlp hne1).trans hpl
      have hpar := (grow_cell hgr (p := ⟨pa, 0, none⟩) hlq hne2).trans hpa
      have hb := (Below.refl wr.heap.size wr).alloc (Nat.le_refl _) (.cells (ecells x) 110)
      repeat' ((fail_if_success at_builtin); (first | go_skip | go_guarded | go_step))
      generalize hw1 : World.alloc wr _ = w1
      have hb : Below wr.heap.size wr w1 := by rw [← hw1]; exact (Below.refl _ _).alloc (Nat.le_refl _) _
      have hx4 : w1.cell? ⟨wr.heap.size, 4, none⟩ = some (.bool x.many) := by rw [← hw1]; simp [go_sem]
      clear hw1 e0 e1 e2 e3 e4 e5 e6 hplr
      have hsz := hgr.size
      have hpa1 := (hb.cell (p := ⟨pa, 0, none⟩) (Nat.lt_of_lt_of_le hlq hsz)).trans hpar
      have hrow1 := hrow.kept hb (Nat.lt_of_lt_of_le hlg hsz)
      have c0 := hrow1.1 i (by omega)
      have c1 := hrow1.1 (i + 1) (by omega)
      have f1 := hrow1.2 (i + 1)
      dsimp only at c0 c1
      rw [if_pos (Nat.le_refl _)] at c0
      rw [if_neg (by omega)] at c1
      have hgr1 := Lib.hid (Lib.grownBy_below hgr hb)
      clear hgr hpar hpl hpa hrow hb
      have hsk : skN (manyAt es) f (i + 1) = (f (i + 1) || (skN (manyAt es) f i && x.many)) := by rw [skN, hm]
      have hfin : ∀ v : Bool, v = skN (manyAt es) f (i + 1) → w.grownBy ((w1.setCell ⟨g, i + 1, none⟩ (.bool v)).drew) (some g) ∧ BRow ((w1.setCell ⟨g, i + 1, none⟩ (.bool v)).drew) g n (fun j => if j ≤ i + 1 then skN (manyAt es) f j else f j) := by
        rintro v rfl
        refine ⟨grow_drew (Lib.grownBy_setB hgr1.out _ _), (hrow1.set (i + 1) (by omega) _).congr fun j hj => ?_⟩
        split
        · subst_vars; rw [if_pos (Nat.le_refl _)]
        · by_cases h : j ≤ i
          · rw [if_pos h, if_pos (by omega)]
          · rw [if_neg h, if_neg (by omega)]
      replace hfin := Lib.hid hfin
      clear hrow1
      replace hm := Lib.hid hm
      generalize hv0 : skN (manyAt es) f i = v0 at *
      generalize hv1 : f (i + 1) = v1 at *
      generalize hv2 : x.many = v2 at *
      cases v1 with
      | true =>
        go_region
        repeat' ((fail_if_success at_builtin); (first | go_skip | go_guarded | go_step))
        go_roundw
        case rel =>
          obtain ⟨r1, r2⟩ := hfin.out true (by rw [hsk]; rfl)
          exact ⟨i + 1, by omega, by go_num, r1, r2⟩
        case measure => simp [intOf]; omega
      | false =>
        cases v0 with
        | false =>
          go_region
          repeat' ((fail_if_success at_builtin); (first | go_skip | go_guarded | go_step))
          go_roundw
          case rel =>
            obtain ⟨r1, r2⟩ := hfin.out false (by rw [hsk]; rfl)
            exact ⟨i + 1, by omega, by go_num, r1, r2⟩
          case measure => simp [intOf]; omega
        | true =>
          cases v2 with
          | false =>
            go_region
            repeat' ((fail_if_success at_builtin); (first | go_skip | go_guarded | go_step))
            go_roundw
            case rel =>
              obtain ⟨r1, r2⟩ := hfin.out false (by rw [hsk]; rfl)
              exact ⟨i + 1, by omega, by go_num, r1, r2⟩
            case measure => simp [intOf]; omega
          | true =>
            go_region
            repeat' ((fail_if_success at_builtin); (first | go_skip | go_guarded | go_step))
            go_roundw
            case rel =>
              obtain ⟨r1, r2⟩ := hfin.out true (by rw [hsk]; rfl)
              exact ⟨i + 1, by omega, by go_num, r1, r2⟩
            case measure => simp [intOf]; omega
    · have hie : i = n := by omega
      subst hie
      have i1 : ¬ ((i : Int) < (i : Int)) := by omega
      repeat' ((fail_if_success at_builtin); (first | go_skip | go_guarded | go_step))
      go_end0
      refine ⟨rfl, hgr, hrow.congr fun j hj => ?_⟩
      rw [if_pos hj]
end Go.Proofs.YtgloblokkejgmaaDoor
