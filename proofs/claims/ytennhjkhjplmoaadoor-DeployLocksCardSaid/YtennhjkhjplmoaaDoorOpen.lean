/- Arguments opened: a slice of bytes. No program in sight. -/
import Derived.Test.YtennhjkhjplmoaaDoorMem
import Derived.ProofKit
import Derived.OpenShut
import Derived.ShutString
import Derived.ChangeOld
namespace Go.Proofs.YtennhjkhjplmoaaDoor
open Go.ChangeShapes Go.WideShapes Go.ChangeAt Go.RowKit
theorem seq_of_cells {w : World} {sz n : Nat} {ad : Addr} {cs : List Value} (hl : cs.length = n * sz) (hsz : 0 < sz) (hc : ∀ j u, cs[j]? = some u → w.cell? (ad.add j) = some u) : Seq w w.heap.size sz (some ad) n cs := by
  refine ⟨hl, fun hn => ?_⟩
  have hpos : 0 < cs.length := by rw [hl]; exact Nat.mul_pos hn hsz
  have h0 := hc 0 _ (List.getElem?_eq_getElem hpos)
  have hspot : (ad.add 0).spot = none := World.cell?_spot h0
  have e0 : ad.add 0 = ad := by simp [Addr.add]
  rw [e0] at hspot h0
  obtain ⟨b, o, s⟩ := ad
  dsimp only at hspot
  subst hspot
  refine ⟨b, o, rfl, World.block_lt_of_cell? w _ h0, fun j u hu => ?_⟩
  have := hc j u hu
  rwa [Addr.add_lit] at this
theorem open_bytes {H : Type} {enc : TypeId × Value → H} {P : Program} {W : World} {spare : Nat → Bool} {held : Bool} {t e : TypeId} {a0 : Option Addr} {len cap : Nat} {d : DataW H} {p : List MemPlace}
    (ht : P.underlying t = some (.slice e)) (he : P.underlying e = some (.int .u8)) (hc : P.cellsOf e = 1) (h : DataW.Trod enc P W 0 spare held t (.slice a0 len cap) d p) :
    ∃ l : List UInt8, l.length = len ∧ len ≤ cap ∧ cap ≤ maxLen ∧ (a0 = none → cap = 0) ∧ Seq W W.heap.size 1 a0 len (l.map bv) := by
  obtain ⟨fuel, hf⟩ := h
  rcases open_ints ht he hc hf with ⟨hcs, _⟩ | ⟨x, l, c, zs, hcs, _, hl, hm, hz, _, hcell, hwz⟩
  · simp [Value.cells] at hcs
    obtain ⟨rfl, rfl, rfl⟩ := hcs
    exact ⟨[], rfl, Nat.le_refl _, Nat.zero_le _, fun _ => rfl, Seq.nil_⟩
  · simp [Value.cells] at hcs
    obtain ⟨rfl, rfl, rfl⟩ := hcs
    have hlz : len ≤ zs.length := by rw [hz]; split <;> omega
    refine ⟨(zs.take len).map fun z => UInt8.ofNat z.toNat, by simp; omega, hl, hm, fun h => by simp at h, ?_⟩
    refine seq_of_cells (by simp; omega) (by omega) ?_
    intro j u hu
    have hj : j < len := by
      have := (List.getElem?_eq_some_iff.1 hu).1
      simp at this; omega
    rw [hcell j (by omega)]
    have hx : zs[j]? = some (zs[j]'(by omega)) := List.getElem?_eq_getElem (by omega)
    have hw := hwz (zs[j]'(by omega)) (List.getElem_mem _)
    have hb : 0 ≤ zs[j]'(by omega) ∧ zs[j]'(by omega) ≤ 255 := by simpa [Lit.wf, IntKind.min, IntKind.max, IntKind.signed, IntKind.bits] using hw
    simp only [List.map_map, List.getElem?_map, List.getElem?_take, if_pos hj, hx, Option.map_some, Function.comp_apply, Option.some.injEq] at hu
    subst hu
    simp only [List.getD, hx, Option.getD_some]
    congr 2
    rw [UInt8.toNat_ofNat']
    omega
end Go.Proofs.YtennhjkhjplmoaaDoor
