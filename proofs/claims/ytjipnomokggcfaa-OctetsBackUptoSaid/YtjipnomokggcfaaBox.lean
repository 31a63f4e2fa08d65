/- a field in a block of its own. -/
import Derived.Test.YtjipnomokggcfaaRead
namespace Go.Proofs.Ytjipnomokggcfaa
open Go.RowKit
/-- a field in a block of its own, made since -/
def Box (wr wx : World) (v : FV) (u : Value) : Prop := ∃ (g : Nat) (A : Option Addr) (c : Nat) (cs : List Value), u = .pointer (some ⟨g, 0, none⟩) ∧ wr.heap.size ≤ g ∧ g < wx.heap.size ∧
  wx.cell? ⟨g, 0, none⟩ = some (.int .i64 v.1) ∧ wx.cell? ⟨g, 1, none⟩ = some (.int .i64 v.2.1) ∧ wx.cell? ⟨g, 2, none⟩ = some (.string v.2.2.1) ∧ wx.cell? ⟨g, 3, none⟩ = some (.slice A v.2.2.2.length c) ∧
  SeqP wx (Fresh wr wx) 4 A v.2.2.2.length cs ∧ RepP wx (Fresh wr wx) v.2.2.2 cs
theorem box_after {wr W0 w7 : World} {v : FV} {A : Option Addr} {c : Nat} {cs : List Value} {t : TypeId} (h0 : wr.heap.size ≤ W0.heap.size) (h1 : W0.heap.size ≤ w7.heap.size)
    (hs : SeqP w7 (Fresh W0 w7) 4 A v.2.2.2.length cs) (hr : RepP w7 (Fresh W0 w7) v.2.2.2 cs) :
    Box wr (w7.alloc (.cells #[.int .i64 v.1, .int .i64 v.2.1, .string v.2.2.1, .slice A v.2.2.2.length c] t)) v (.pointer (some ⟨w7.heap.size, 0, none⟩)) := by
  have hk : ∀ p : Addr, Fresh W0 w7 p.block → (w7.alloc (.cells #[.int .i64 v.1, .int .i64 v.2.1, .string v.2.2.1, .slice A v.2.2.2.length c] t)).cell? p = w7.cell? p :=
    fun p hp => ((Below.refl w7.heap.size w7).alloc (Nat.le_refl _) _).cell hp.2
  have hS : ∀ b, Fresh W0 w7 b → Fresh wr (w7.alloc (.cells #[.int .i64 v.1, .int .i64 v.2.1, .string v.2.2.1, .slice A v.2.2.2.length c] t)) b := fun b hb => ⟨by have := hb.1; omega, by have := hb.2; simp; omega⟩
  exact ⟨w7.heap.size, A, c, cs, rfl, by omega, by simp, by simp [go_sem], by simp [go_sem], by simp [go_sem], by simp [go_sem], hs.map hk hS, RepP.map hk hS hr⟩
theorem box_before {wr W0 w7 : World} {v : FV} {A : Option Addr} {c : Nat} {cs : List Value} {x0 x1 x2 x3 : Value} {g : Nat} (hg : wr.heap.size ≤ g) (h0 : W0.heap.size = g + 1) (h1 : W0.heap.size ≤ w7.heap.size)
    (q0 : w7.cell? ⟨g, 0, none⟩ = some x0) (q1 : w7.cell? ⟨g, 1, none⟩ = some x1) (q2 : w7.cell? ⟨g, 2, none⟩ = some x2) (q3 : w7.cell? ⟨g, 3, none⟩ = some x3)
    (hs : SeqP w7 (Fresh W0 w7) 4 A v.2.2.2.length cs) (hr : RepP w7 (Fresh W0 w7) v.2.2.2 cs) :
    Box wr ((((w7.setCell ⟨g, 0, none⟩ (.int .i64 v.1)).setCell ⟨g, 1, none⟩ (.int .i64 v.2.1)).setCell ⟨g, 2, none⟩ (.string v.2.2.1)).setCell ⟨g, 3, none⟩ (.slice A v.2.2.2.length c)) v (.pointer (some ⟨g, 0, none⟩)) := by
  have hk : ∀ p : Addr, Fresh W0 w7 p.block → ((((w7.setCell ⟨g, 0, none⟩ (.int .i64 v.1)).setCell ⟨g, 1, none⟩ (.int .i64 v.2.1)).setCell ⟨g, 2, none⟩ (.string v.2.2.1)).setCell ⟨g, 3, none⟩ (.slice A v.2.2.2.length c)).cell? p = w7.cell? p := by
    intro p hp
    have := hp.1
    rw [World.cell?_setCell_far _ _ _ _ (by dsimp only; omega), World.cell?_setCell_far _ _ _ _ (by dsimp only; omega), World.cell?_setCell_far _ _ _ _ (by dsimp only; omega), World.cell?_setCell_far _ _ _ _ (by dsimp only; omega)]
  have hS : ∀ b, Fresh W0 w7 b → Fresh wr ((((w7.setCell ⟨g, 0, none⟩ (.int .i64 v.1)).setCell ⟨g, 1, none⟩ (.int .i64 v.2.1)).setCell ⟨g, 2, none⟩ (.string v.2.2.1)).setCell ⟨g, 3, none⟩ (.slice A v.2.2.2.length c)) b := fun b hb => ⟨by have := hb.1; omega, by have := hb.2; simp [go_sem]; omega⟩
  exact ⟨g, A, c, cs, rfl, hg, by simp [go_sem]; omega, by simp [go_sem, q0, q1, q2, q3], by simp [go_sem, q0, q1, q2, q3], by simp [go_sem, q0, q1, q2, q3], by simp [go_sem, q0, q1, q2, q3], hs.map hk hS, RepP.map hk hS hr⟩
/-- the blocks that may hold what has been gathered: the call's own, but not the row itself -/
def Kept (w wr : World) (v : Value) (b : Nat) : Prop := Fresh w wr b ∧ some b ≠ v.ownBlock
theorem kept_step {w wr wc w9 : World} {u v1 : Value} {n : Nat} {xs : List Value} {e : TypeId} {sz : Nat} {o : Obj} (H : Own w wr e sz u n xs) (hbx : Below wr.heap.size wr wc) (hg : Grew (wc.alloc o) w9 u v1) :
    (∀ p : Addr, Kept w wr u p.block → w9.cell? p = wr.cell? p) ∧ (∀ b, Kept w wr u b → Kept w w9 v1 b) ∧ (∀ p : Addr, Fresh wr wc p.block → w9.cell? p = wc.cell? p) ∧ (∀ b, Fresh wr wc b → Kept w w9 v1 b) := by
  have hs1 := hbx.size
  have hs2 : (wc.alloc o).heap.size = wc.heap.size + 1 := by simp
  have hs3 := hg.by_.size
  have hs4 := H.2.size
  have ha := (Below.refl wc.heap.size wc).alloc (Nat.le_refl _) o
  refine ⟨fun p hp => ?_, fun b hb => ?_, fun p hp => ?_, fun b hb => ?_⟩
  · have h1 := hp.1.2
    rw [hg.cell (by omega) hp.2, ha.cell (by omega), hbx.cell h1]
  · have h1 := hb.1
    unfold Fresh at h1
    exact ⟨⟨by omega, by omega⟩, hg.ne (by omega) hb.2⟩
  · unfold Fresh at hp
    rw [hg.cell (by omega) (H.lt hp.1), ha.cell (by omega)]
  · unfold Fresh at hb
    exact ⟨⟨by omega, by omega⟩, hg.ne (by omega) (H.lt hb.1)⟩
end Go.Proofs.Ytjipnomokggcfaa
