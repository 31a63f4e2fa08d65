/- Deploy: sets of references that a call makes. -/
import Derived.Test.YtennhjkhjplmoaaDoorDpM
import Derived.Maps.OwnSet
import Derived.Maps.Own
import Derived.StringKeys
import Derived.DeepKeys4
import Derived.WideKeyMaps
namespace Go.Proofs.YtennhjkhjplmoaaDoor
open Go.RowKit
open Go.RowKit Go.Maps
set_option maxRecDepth 100000
theorem refRow : (refT : TypeId) < Tryd.prog.types.size := of_decide_eq_true (by kernel_rfl)
theorem refWide : (match Tryd.prog.underlying refT with | some (.array _ _) | some (.struct _) => true | _ => false) = true := by kernel_rfl
theorem laidD : laidOutB Tryd.prog = true := by kernel_rfl
theorem refKeyLaw : WideMaps.KeyLaw Tryd.prog refT := deep_law_laid laidD (m := 2) (by omega) refRow (by kernel_rfl) refWide
theorem refKeyed : Keyed Tryd.prog refT := Keyed.of_law refKeyLaw
def kR (r : Ref) : Lit := .string (keyBytes [.string r.run.data.toList, .string r.job.data.toList])
/-- its strings are no longer than a string can be -/
def RefOk (r : Ref) : Prop := r.run.size ≤ maxLen ∧ r.job.size ≤ maxLen
theorem kR_key {r : Ref} (h : RefOk r) : keyOf Tryd.prog refT (.agg #[.string r.run, .string r.job]) = some (kR r) := by
  obtain ⟨m, hm⟩ : ∃ m, Tryd.prog.types.size = m + 1 := Nat.exists_eq_succ_of_ne_zero (Nat.ne_of_gt (Nat.lt_of_le_of_lt (Nat.zero_le _) refRow))
  have hkt : Tryd.prog.keyType refT = true := by kernel_rfl
  have hfo : (Value.agg #[.string r.run, .string r.job]).formed Tryd.prog refT = true := by
    have h1 : Tryd.prog.cellsOf refT = 2 := by kernel_rfl
    simp [Value.formed, Tryd.underlying29, h1]
  have h1 : Tryd.prog.cellsOf refT = 2 := by kernel_rfl
  have h2 : Tryd.prog.cellsOf 9 = 1 := by kernel_rfl
  have ks : ∀ (d : Nat) (s : ByteArray), s.size ≤ maxLen → Tryd.prog.keyLits (d + 1) 9 [.string s] = some [.string s.data.toList] := by
    intro d s hs
    unfold Program.keyLits
    simp [Tryd.underlying9, hs]
  unfold keyOf
  rw [Tryd.underlying29]
  simp only [hkt, hfo, Bool.and_self, if_true]
  rw [hm]
  unfold Program.keyLits
  simp only [Tryd.underlying29]
  simp [h1, h2, Value.cells, ks m r.run h.1, ks m r.job h.2]
  rfl
theorem kR_lit (r : Ref) : WideAt.IsKeyLit (kR r) := trivial
theorem kR_inj {a b : Ref} (ha : RefOk a) (hb : RefOk b) (h : kR a = kR b) : a = b := by
  have h1 := kR_key ha
  rw [h] at h1
  have h2 := refKeyed.inj h1 (kR_key hb)
  simp only [Value.agg.injEq, Array.mk.injEq, List.cons.injEq, Value.string.injEq, and_true] at h2
  cases a; cases b
  simp at h2
  obtain ⟨rfl, rfl⟩ := h2
  rfl
theorem kR_same {a b : Ref} (ha : RefOk a) (hb : RefOk b) : (kR a).sameKey (kR b) = eqR a b := by
  rw [Bool.eq_iff_iff, eqR_iff]
  constructor
  · intro h
    exact kR_inj ha hb (WideAt.sameKey_eq h)
  · rintro rfl
    exact WideAt.sameKey_self (kR_lit a)
def trueR : Value → Option (DataW Unit × List MemPlace)
  | .bool true => some (.lit (.bool true), [])
  | _ => none
/-- the set of these references -/
def SetR (w : World) (b : Nat) (l : List Ref) : Prop := w.ownsMap Tryd.prog refT trueR b l.length (setOf (.lit (.bool true)) (l.map kR))
section
variable {w w' : World} {b : Nat} {l : List Ref}
theorem SetR.made (w : World) : SetR (w.alloc (.map #[] 0)) w.heap.size [] := World.ownsMap_made w Tryd.prog refT trueR
theorem SetR.kept (h : SetR w b l) (hb : Below w.heap.size w w') : SetR w' b l :=
  World.ownsMap.kept (row := none) h ⟨hb.os, hb.tape, hb.output, hb.size, fun k hk _ => hb.block k hk⟩ (by simp)
theorem SetR.lt (h : SetR w b l) : b < w.heap.size := by
  obtain ⟨es, clock, hb, _⟩ := h
  rcases Nat.lt_or_ge b w.heap.size with hlt | hge
  · exact hlt
  · rw [Array.getElem?_eq_none hge] at hb; cases hb
theorem SetR.look (h : SetR w b l) (hl : ∀ x ∈ l, RefOk x) {r : Ref} (hr : RefOk r) :
    (Instr.lookup 62 (.map (some b)) (.agg #[.string r.run, .string r.job]) false).run Tryd.prog w = .ok (.bool (hasR l r)) w := by
  have hkey := kR_key hr
  have hz : (zeroValue 4).run Tryd.prog w = .ok (.bool false) w := by kernel_rfl
  obtain ⟨es, clock, hb, F, _, hD⟩ := h
  have hh : Maps.has (setOf (H := Unit) (.lit (.bool true)) (l.map kR)) (kR r) = hasR l r := by
    rw [has_setOf _ _ _ (by
      intro z hz
      obtain ⟨y, hy, rfl⟩ := List.mem_map.1 hz
      exact kR_lit y), List.any_map]
    unfold hasR
    rw [Bool.eq_iff_iff, List.any_eq_true, List.any_eq_true]
    constructor
    · rintro ⟨x, hx, e⟩
      exact ⟨x, hx, by rw [← kR_same (hl x hx) hr]; exact e⟩
    · rintro ⟨x, hx, e⟩
      exact ⟨x, hx, by show (kR x).sameKey (kR r) = true; rw [kR_same (hl x hx) hr]; exact e⟩
  rw [hD] at hh
  rcases fit_look false refKeyed Tryd.underlying62 hz hb F hkey with ⟨hrun, _, hat⟩ | ⟨e0, y, _, _, hrun, hRv, hat, _⟩
  · rw [has_false_of_atKey hat] at hh
    rw [← hh]
    exact hrun
  · rw [has_true_of_atKey hat] at hh
    rw [← hh]
    have hv : e0.val = .bool true := by
      unfold trueR at hRv
      split at hRv
      · assumption
      · cases hRv
    rw [hrun, hv]
    rfl
theorem SetR.snoc {x : Ref} (h : w'.ownsMap Tryd.prog refT trueR b (l.length + 1) ((setOf (.lit (.bool true)) (l.map kR)).put (kR x) (.lit (.bool true)))) : SetR w' b (l ++ [x]) := by
  unfold SetR
  rw [List.length_append, List.map_append]
  show w'.ownsMap _ _ _ _ _ (setOf _ (l.map kR ++ [kR x]))
  rw [setOf_snoc]
  exact h
end
end Go.Proofs.YtennhjkhjplmoaaDoor
