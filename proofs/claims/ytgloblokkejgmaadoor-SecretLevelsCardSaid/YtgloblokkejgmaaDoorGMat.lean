/- Match: plain, and the frame of its memory. -/
import Derived.Test.YtgloblokkejgmaaDoorGSkp
namespace Go.Proofs.YtgloblokkejgmaaDoor
open Go.RowKit
def hasAt (es : List El) (c k : Nat) : Bool := (es[k]?.map fun e => hasS e.set c).getD false
def hitN (es : List El) (c : Nat) (f : Nat → Bool) (k : Nat) : Bool := f k && hasAt es c k
def nxK (es : List El) (c : Nat) (f : Nat → Bool) (k : Nat) : Nat → Bool
  | 0 => decide (0 < k) && hitN es c f 0 && manyAt es 0
  | j + 1 => (decide (j + 1 < k) && hitN es c f (j + 1) && manyAt es (j + 1)) || (decide (j < k) && hitN es c f j && !manyAt es j)
theorem nxK_zero (es : List El) (c : Nat) (f : Nat → Bool) (j : Nat) : nxK es c f 0 j = false := by cases j <;> simp [nxK]
theorem dec_succ (j k : Nat) : decide (j < k + 1) = (decide (j = k) || decide (j < k)) := by
  rw [← Bool.decide_or, decide_eq_decide]; omega
theorem nxK_miss {es : List El} {c : Nat} {f : Nat → Bool} {k : Nat} (h : hitN es c f k = false) (j : Nat) : nxK es c f (k + 1) j = nxK es c f k j := by
  cases j with
  | zero =>
    simp only [nxK, dec_succ]
    by_cases hk : 0 = k
    · subst hk; simp [h]
    · simp [hk]
  | succ j =>
    simp only [nxK, dec_succ]
    by_cases hk : j + 1 = k
    · subst hk; simp [h]
    · by_cases hk2 : j = k
      · subst hk2; simp [h]
      · simp [hk, hk2]
theorem nxK_many {es : List El} {c : Nat} {f : Nat → Bool} {k : Nat} (h : hitN es c f k = true) (hm : manyAt es k = true) (j : Nat) : (if j = k then true else nxK es c f k j) = nxK es c f (k + 1) j := by
  cases j with
  | zero =>
    simp only [nxK, dec_succ]
    by_cases hk : 0 = k
    · subst hk; simp [h, hm]
    · simp [hk]
  | succ j =>
    simp only [nxK, dec_succ]
    by_cases hk : j + 1 = k
    · subst hk; simp [h, hm]
    · by_cases hk2 : j = k
      · subst hk2; simp [h, hm]
      · simp [hk, hk2]
theorem nxK_one {es : List El} {c : Nat} {f : Nat → Bool} {k : Nat} (h : hitN es c f k = true) (hm : manyAt es k = false) (j : Nat) : (if j = k + 1 then true else nxK es c f k j) = nxK es c f (k + 1) j := by
  cases j with
  | zero =>
    simp only [nxK, dec_succ]
    by_cases hk : 0 = k
    · subst hk; simp [h, hm]
    · simp [hk]
  | succ j =>
    simp only [nxK, dec_succ]
    by_cases hk : j + 1 = k
    · subst hk; simp [h, hm]
    · by_cases hk2 : j = k
      · subst hk2; simp [h, hm]
      · simp [hk, hk2]
/-- one byte: which numbers of elements match what was read -/
def stepM (es : List El) (f : Nat → Bool) (c : UInt8) : Nat → Bool := skN (manyAt es) (nxK es c.toNat f es.length)
def startM (es : List El) : Nat → Bool := skN (manyAt es) (fun j => decide (j = 0))
def matchE (es : List El) (s : List UInt8) : Bool := s.foldl (stepM es) (startM es) es.length
def matchS (p s : List UInt8) : Bool := match prsS p with
  | none => false
  | some es => matchE es s
structure MInv (w wr : World) (B1 pl pa : Nat) (A : Option Addr) (c n : Nat) (es : List El) (g : Nat) (f : Nat → Bool) : Prop where
  below : Below w.heap.size w wr
  cpl : wr.cell? ⟨pl, 0, none⟩ = some (.slice A n c)
  cpa : wr.cell? ⟨pa, 0, none⟩ = some (.slice (some ⟨g, 0, none⟩) (n + 1) (n + 1))
  fpa : wr.frozen? ⟨pa, 0, none⟩ = false
  g1 : B1 ≤ g
  g2 : g < wr.heap.size
  g3 : g ≠ pl
  g4 : g ≠ pa
  l1 : pl < wr.heap.size
  l2 : pa < wr.heap.size
  m1 : B1 ≤ pl
  m2 : B1 ≤ pa
  m3 : pl ≠ pa
  b1 : w.heap.size ≤ B1
  seq : SeqP wr (fun b => b < B1) 7 A n (elcs es)
  row : BRow wr g n f

theorem MInv.grown {w wr w' : World} {B1 pl pa : Nat} {A : Option Addr} {c n : Nat} {es : List El} {g : Nat} {f f' : Nat → Bool} (h : MInv w wr B1 pl pa A c n es g f) (hg : wr.grownBy w' (some g)) (hr : BRow w' g n f') : MInv w w' B1 pl pa A c n es g f' where
  below := h.below.grown hg h.below.size (fun k hk => by injection hk with hk; have := h.g1; have := h.b1; omega)
  cpl := (grow_cell hg (p := ⟨pl, 0, none⟩) h.l1 (Ne.symm h.g3)).trans h.cpl
  cpa := (grow_cell hg (p := ⟨pa, 0, none⟩) h.l2 (Ne.symm h.g4)).trans h.cpa
  fpa := (grow_frozen hg (p := ⟨pa, 0, none⟩) h.l2 (Ne.symm h.g4)).trans h.fpa
  g1 := h.g1
  g2 := Nat.lt_of_lt_of_le h.g2 hg.size
  g3 := h.g3
  g4 := h.g4
  l1 := Nat.lt_of_lt_of_le h.l1 hg.size
  l2 := Nat.lt_of_lt_of_le h.l2 hg.size
  m1 := h.m1
  m2 := h.m2
  m3 := h.m3
  b1 := h.b1
  seq := SeqP.map h.seq (fun p hp => grow_cell hg (Nat.lt_trans (Nat.lt_of_lt_of_le hp h.g1) h.g2) (by have := h.g1; omega)) (fun _ hb => hb)
  row := hr
theorem MInv.next {w wr wx : World} {B1 pl pa : Nat} {A : Option Addr} {c n : Nat} {es : List El} {g : Nat} {f f' : Nat → Bool} (h : MInv w wr B1 pl pa A c n es g f) {o : Obj} (hg : (wr.alloc o).grownBy wx (some wr.heap.size)) (hr : BRow wx wr.heap.size n f') :
    MInv w (wx.setCell ⟨pa, 0, none⟩ (.slice (some ⟨wr.heap.size, 0, none⟩) (n + 1) (n + 1))) B1 pl pa A c n es wr.heap.size f' := by
  have hsz : (wr.alloc o).heap.size = wr.heap.size + 1 := by simp
  have hb0 := (Below.refl wr.heap.size wr).alloc (Nat.le_refl _) o
  have ob : ∀ p : Addr, p.block < wr.heap.size → wx.cell? p = wr.cell? p := fun p hp => (grow_cell hg (by rw [hsz]; omega) (by omega)).trans (hb0.cell hp)
  have obf : ∀ p : Addr, p.block < wr.heap.size → wx.frozen? p = wr.frozen? p := fun p hp => (grow_frozen hg (by rw [hsz]; omega) (by omega)).trans (hb0.frozen hp)
  have far : ∀ (v : Value) (p : Addr), p.block ≠ pa → (wx.setCell ⟨pa, 0, none⟩ v).cell? p = wx.cell? p := fun v p hp => World.cell?_setCell_far _ _ _ _ (fun e => hp e.symm)
  have hxs : wr.heap.size + 1 ≤ wx.heap.size := by rw [← hsz]; exact hg.size
  have h1 := h.l1
  have h2 := h.l2
  have h3 := h.m1
  have h4 := h.m2
  have h5 := h.m3
  have h6 := h.b1
  have h7 := h.g1
  have h8 := h.g2
  have hss : ∀ v, (wx.setCell ⟨pa, 0, none⟩ v).heap.size = wx.heap.size := fun v => by simp [World.setCell]
  have hpa := (ob ⟨pa, 0, none⟩ h2).trans h.cpa
  have hbx : Below w.heap.size w wx := (h.below.alloc h.below.size o).grown hg (by rw [hsz]; have := h.below.size; omega) (fun k hk => by injection hk with hk; omega)
  refine ⟨hbx.setCell (p := ⟨pa, 0, none⟩) (Nat.le_trans h6 h4) _, ?_, ?_, ?_, by omega, ?_, by omega, by omega, ?_, ?_, h3, h4, h5, h6, ?_, ?_⟩
  · rw [far _ _ h5]; exact (ob ⟨pl, 0, none⟩ h1).trans h.cpl
  · rw [World.cell?_setCell_same wx _ _ hpa]
  · have := (obf ⟨pa, 0, none⟩ h2).trans h.fpa
    simpa [go_sem] using this
  · rw [hss]; omega
  · rw [hss]; omega
  · rw [hss]; omega
  · refine SeqP.map h.seq (fun p hp => ?_) (fun _ hb => hb)
    rw [far _ _ (by omega)]
    exact ob p (by omega)
  · refine ⟨fun j hj => ?_, fun j => ?_⟩
    · rw [far _ _ (by dsimp only; omega)]; exact hr.1 j hj
    · have := hr.2 j
      simpa [go_sem] using this
theorem made_bools (k : Nat) (j : Nat) (hj : j < k) : (madeCells #[.bool false] k)[j]? = some (.bool false) := by
  unfold madeCells
  rw [Array.getElem?_map, Array.getElem?_eq_getElem (by simpa using hj)]
  simp [Nat.mod_one]
theorem bool_info : Info Tryd.prog 4 (.bool false) 1 1 := by unfold Info; kernel_rfl
end Go.Proofs.YtgloblokkejgmaaDoor
