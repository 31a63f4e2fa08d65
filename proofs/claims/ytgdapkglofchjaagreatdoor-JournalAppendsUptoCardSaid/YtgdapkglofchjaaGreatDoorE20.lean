/- Joined: Rd Cel Hk. -/
import Derived.Test.YtgdapkglofchjaaGreatDoorE3
set_option maxRecDepth 100000
set_option maxHeartbeats 200000
set_option linter.unusedVariables false
namespace Go.Proofs.YtgdapkglofchjaaGreatDoor
open Go.ChangeShapes Go.WideShapes Go.ChangeAt Go.RowKit
section
variable {α : Type} {r : Rd α} {sz : Nat} {w w' : World} {S S' : Nat → Prop}
theorem RList.one_cell (hr : ∀ x cs, r w S x cs → ∀ u ∈ cs, u.oneCell' = true) : ∀ {l : List α} {cs : List Value}, RList r sz w S l cs → ∀ u ∈ cs, u.oneCell' = true
 | [], _, h => by cases h; intro u hu; cases hu
 | x :: xs, cs, h => by
  obtain ⟨c1, c2, rfl, h1, h2, h3⟩ := h
  intro u hu
  rcases List.mem_append.1 hu with hu | hu
  ·exact hr _ _ h2 u hu
  ·exact RList.one_cell hr h3 u hu
end
section
variable {H : Type} {enc : TypeId × Value → H} {P : Program} {W : World} {spare : Nat → Bool} {held : Bool}
end
end Go.Proofs.YtgdapkglofchjaaGreatDoor
namespace Go.Proofs.YtgdapkglofchjaaGreatDoor
open Go.RowKit
section
variable {w w' : World} {g : Nat} {cs : List Value}
theorem CellsAt.drew (h : CellsAt w g cs) : CellsAt w.drew g cs := ⟨h.lt, h.cell, h.fr⟩
end
section
variable {w0 w w' : World} {L : List (Nat × List Value)}
theorem OwnB.drew (h : OwnB w0 w L) : OwnB w0 w.drew L := ⟨h.below.drew, fun i b cs hi => ⟨(h.all i b cs hi).1, (h.all i b cs hi).2.drew⟩, h.ne⟩
end
section
variable {P : Program} {ops : Array Oper} {Q : Exit → Act → World → Prop} {md : Region.Mode} {S : World → Prop}
theorem tkN (i : Nat) {oi : Oper} {fuel : Nat} {listed : Array Bool} {a : Act} {w : World} (hi : ops[i]? = some oi)
  (h : wpAnyH P md ops Q S fuel (listed.setIfInBounds i true) (a.put oi.dst undef) w) (hy : YieldsIf P ops S oi undef a := by exact Or.inr ⟨by rfl, rfl⟩) (hs : Region.noSelect ops = true := by kernel_rfl) (hf : Region.free md ops listed i = true := by kernel_rfl)
  (hr : (Region.ready md ops listed).contains i = true := by kernel_rfl) (hQ : ∀ c a w, Q (.panic c) (a.put oi.dst undef) w → Q (.panic c) a w := by exact fun _ _ _ h => h) (hS : S w := by assumption) : wpAnyH P md ops Q S (fuel + 1) listed a w :=
 wpAnyH_take hi hs hf hr hQ hy hS h
end
end Go.Proofs.YtgdapkglofchjaaGreatDoor
