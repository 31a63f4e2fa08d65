/- Maps with strings for keys that a call makes: sets of strings (map[string]bool), pointers by name. For any program. -/
import Derived.Test.YtppbblgdcckbdaaDoorMem
import Derived.Maps.OwnSet
import Derived.Maps.Own
import Derived.StringKeys
namespace Go.Proofs.YtppbblgdcckbdaaDoor
open Go.RowKit Go.Maps
abbrev kS (s : ByteArray) : Lit := .string s.data.toList
theorem kS_key {P : Program} {k : TypeId} (hk : P.underlying k = some .string) {s : ByteArray} (hs : s.size ≤ 1000000000) : keyOf P k (.string s) = some (kS s) := WideMaps.keyOf_string_mk hk (by unfold maxLen; omega)
theorem kS_inj {a b : ByteArray} (h : kS a = kS b) : a = b := by
  injection h with h
  cases a
  cases b
  simp at h
  rw [h]
theorem kS_lit (s : ByteArray) : WideAt.IsKeyLit (kS s) := trivial
theorem kS_same (a b : ByteArray) : (kS a).sameKey (kS b) = (a.data.toList == b.data.toList) := by
  rw [Bool.eq_iff_iff]
  simp [Lit.sameKey]
/-- how a true element reads -/
def trueM : Value → Option (DataW Unit × List MemPlace)
  | .bool true => some (.lit (.bool true), [])
  | _ => none
/-- the set of these strings -/
def SetS (P : Program) (k : TypeId) (w : World) (b : Nat) (l : List ByteArray) : Prop := w.ownsMap P k trueM b l.length (setOf (.lit (.bool true)) (l.map kS))
section
variable {P : Program} {k e t : TypeId} {w w' : World} {b : Nat} {l : List ByteArray}
theorem SetS.made (w : World) : SetS P k (w.alloc (.map #[] 0)) w.heap.size [] := World.ownsMap_made w P k trueM
theorem SetS.kept (h : SetS P k w b l) (hb : Below w.heap.size w w') : SetS P k w' b l :=
  World.ownsMap.kept (row := none) h ⟨hb.os, hb.tape, hb.output, hb.size, fun k hk _ => hb.block k hk⟩ (by simp)
theorem SetS.lt (h : SetS P k w b l) : b < w.heap.size := by
  obtain ⟨es, clock, hb, _⟩ := h
  rcases Nat.lt_or_ge b w.heap.size with hlt | hge
  · exact hlt
  · rw [Array.getElem?_eq_none hge] at hb; cases hb
theorem SetS.look (hk : P.underlying k = some .string) (ht : P.underlying t = some (.map k e)) (hz : (zeroValue e).run P w = .ok (.bool false) w) (h : SetS P k w b l) {s : ByteArray} (hs : s.size ≤ 1000000000) :
    (Instr.lookup t (.map (some b)) (.string s) false).run P w = .ok (.bool (l.any fun x => x.data.toList == s.data.toList)) w := by
  have K := string_keyed hk
  have hkey := kS_key hk hs
  obtain ⟨es, clock, hb, F, _, hD⟩ := h
  have hh : Maps.has (setOf (H := Unit) (.lit (.bool true)) (l.map kS)) (kS s) = l.any fun x => x.data.toList == s.data.toList := by
    rw [has_setOf _ _ _ (by
      intro z hz
      obtain ⟨y, hy, rfl⟩ := List.mem_map.1 hz
      exact kS_lit y), List.any_map]
    exact congrArg l.any (funext fun x => kS_same x s)
  rw [hD] at hh
  rcases fit_look false K ht hz hb F hkey with ⟨hrun, _, hat⟩ | ⟨e0, y, _, _, hrun, hRv, hat, _⟩
  · rw [has_false_of_atKey hat] at hh
    rw [← hh]
    exact hrun
  · rw [has_true_of_atKey hat] at hh
    rw [← hh]
    have hv : e0.val = .bool true := by
      unfold trueM at hRv
      split at hRv
      · assumption
      · cases hRv
    rw [hrun, hv]
    rfl
theorem SetS.snoc {x : ByteArray} (h : w'.ownsMap P k trueM b (l.length + 1) ((setOf (.lit (.bool true)) (l.map kS)).put (kS x) (.lit (.bool true)))) : SetS P k w' b (l ++ [x]) := by
  unfold SetS
  rw [List.length_append, List.map_append]
  show w'.ownsMap _ _ _ _ _ (setOf _ (l.map kS ++ [kS x]))
  rw [setOf_snoc]
  exact h
end
/-- how a pointer to a block reads -/
def ptrM : Value → Option (DataW Unit × List MemPlace)
  | .pointer none => some (.lit (.bool false), [])
  | .pointer (some ⟨b, 0, none⟩) => some (.lit (.int .i64 b), [])
  | _ => none
/-- blocks by name -/
def ptrD : List (ByteArray × Nat) → DataW Unit
  | [] => .map []
  | (s, b) :: r => (ptrD r).put (kS s) (.lit (.int .i64 b))
def assocB : List (ByteArray × Nat) → ByteArray → Option Nat
  | [], _ => none
  | (x, b) :: r, s => if x.data.toList = s.data.toList then some b else assocB r s
def PtrM (P : Program) (k : TypeId) (w : World) (b : Nat) (m : List (ByteArray × Nat)) : Prop := w.ownsMap P k ptrM b m.length (ptrD m)
section
variable {P : Program} {k e t : TypeId} {w w' : World} {b : Nat} {m : List (ByteArray × Nat)}
theorem PtrM.made (w : World) : PtrM P k (w.alloc (.map #[] 0)) w.heap.size [] := World.ownsMap_made w P k ptrM
theorem PtrM.kept (h : PtrM P k w b m) (hb : Below w.heap.size w w') : PtrM P k w' b m :=
  World.ownsMap.kept (row := none) h ⟨hb.os, hb.tape, hb.output, hb.size, fun k hk _ => hb.block k hk⟩ (by simp)
theorem ptrD_map : ∀ m : List (ByteArray × Nat), IsMap (ptrD m)
  | [] => isMap_empty
  | (s, b) :: r => (ptrD_map r).put (kS s) _
theorem ptrD_at (s : ByteArray) (zd : DataW Unit) : ∀ m : List (ByteArray × Nat), (ptrD m).atKey (kS s) zd = match assocB m s with
    | some b => .lit (.int .i64 b)
    | none => zd
  | [] => rfl
  | (x, b) :: r => by
    unfold ptrD assocB
    by_cases hx : x.data.toList = s.data.toList
    · rw [if_pos hx]
      have : kS x = kS s := by unfold kS; rw [hx]
      rw [this]
      exact atKey_put_same (ptrD_map r) (kS_lit s) _ _
    · rw [if_neg hx]
      have : kS s ≠ kS x := fun h => by injection h with h; exact hx h.symm
      rw [atKey_put_other this, ptrD_at s zd r]
theorem ptrD_has (s : ByteArray) : ∀ m : List (ByteArray × Nat), Maps.has (ptrD m) (kS s) = (assocB m s).isSome
  | m => by
    cases h : assocB m s with
    | none =>
      refine has_false_of_atKey fun z => ?_
      rw [ptrD_at, h]
    | some b =>
      refine has_true_of_atKey (y := .lit (.int .i64 b)) fun z => ?_
      rw [ptrD_at, h]
/-- 'v, ok := m[k]' -/
theorem PtrM.look_none (hk : P.underlying k = some .string) (ht : P.underlying t = some (.map k e)) (hz : (zeroValue e).run P w = .ok (.pointer none) w) (h : PtrM P k w b m) {s : ByteArray} (hs : s.size ≤ 1000000000) (hn : assocB m s = none) :
    (Instr.lookup t (.map (some b)) (.string s) true).run P w = .ok (.tuple #[.pointer none, .bool false]) w := by
  obtain ⟨v, ps, hrun, hv⟩ := World.ownsMap.look_ok h (string_keyed hk) ht hz (zd := .lit (.bool false)) (zp := []) rfl (kS_key hk hs)
  rw [ptrD_at, hn] at hv
  have hvn : v = .pointer none := by
    unfold ptrM at hv
    split at hv
    · rfl
    · cases hv
    · cases hv
  rw [hrun, ptrD_has, hn, hvn]
  rfl
theorem PtrM.look_some (hk : P.underlying k = some .string) (ht : P.underlying t = some (.map k e)) (hz : (zeroValue e).run P w = .ok (.pointer none) w) (h : PtrM P k w b m) {s : ByteArray} (hs : s.size ≤ 1000000000) {q : Nat} (hn : assocB m s = some q) :
    (Instr.lookup t (.map (some b)) (.string s) true).run P w = .ok (.tuple #[.pointer (some ⟨q, 0, none⟩), .bool true]) w := by
  obtain ⟨v, ps, hrun, hv⟩ := World.ownsMap.look_ok h (string_keyed hk) ht hz (zd := .lit (.bool false)) (zp := []) rfl (kS_key hk hs)
  rw [ptrD_at, hn] at hv
  have hvn : v = .pointer (some ⟨q, 0, none⟩) := by
    unfold ptrM at hv
    split at hv
    · cases hv
    · rename_i b2
      injection hv with hv
      injection hv with hv _
      injection hv with hv
      injection hv with _ hv
      have : b2 = q := by omega
      rw [this]
    · cases hv
  rw [hrun, ptrD_has, hn, hvn]
  rfl
end
end Go.Proofs.YtppbblgdcckbdaaDoor
