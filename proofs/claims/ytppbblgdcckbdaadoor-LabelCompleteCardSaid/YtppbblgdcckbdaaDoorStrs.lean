/- Lists of strings: appends, parts. -/
import Derived.Test.YtppbblgdcckbdaaDoorMem
import Derived.Test.YtppbblgdcckbdaaDoorChecked
namespace Go.Proofs.YtppbblgdcckbdaaDoor
open Go.RowKit
theorem str_info : Info Tryd.prog 9 (.string ByteArray.empty) 1 16 := by unfold Info; kernel_rfl
theorem strsC_one (l : List ByteArray) : ∀ u ∈ l.map Value.string, u.oneCell' = true := by
  intro u hu
  obtain ⟨s, _, rfl⟩ := List.mem_map.1 hu
  rfl
theorem seqS_take {w : World} {S : Nat → Prop} {A : Option Addr} {l : List ByteArray} {i : Nat} (h : SeqP w S 1 A l.length (l.map Value.string)) (hi : i ≤ l.length) : SeqP w S 1 A i ((l.take i).map Value.string) := by
  refine ⟨by simp [Nat.min_eq_left hi], fun hn => ?_⟩
  obtain ⟨b, o, e, hb, hc⟩ := h.2 (by omega)
  refine ⟨b, o, e, hb, fun j u hu => hc j u ?_⟩
  rw [List.map_take, List.getElem?_take] at hu
  split at hu
  · exact hu
  · cases hu
theorem seqS_drop {w : World} {B c : Nat} {A : Option Addr} {l : List ByteArray} {i : Nat} (h : Seq w B 1 A l.length (l.map Value.string)) (hi : i ≤ l.length) (hc : l.length ≤ c) : Seq w B 1 (if c = i then A else A.map (fun x => x.add i)) (l.length - i) ((l.drop i).map Value.string) := by
  have := h.cut (k := i) hi hc
  rw [List.map_drop]
  simpa only [Nat.mul_one] using this
end Go.Proofs.YtppbblgdcckbdaaDoor
