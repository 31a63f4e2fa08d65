/- Cache: the set of the names seen. -/
import Derived.Test.YtpdlapdnjmoaoaaDoorCaS
import Derived.Maps.OwnSet
import Derived.DeepKeys5
namespace Go.Proofs.YtpdlapdnjmoaoaaDoor
open Go.RowKit Go.Maps
theorem nmLaid : laidOutB Tryd.prog = true := by kernel_rfl
theorem nmLaw : Keyed Tryd.prog 70 := Keyed.of_law (deep_law_laid nmLaid (m := 4) (by omega) (of_decide_eq_true (by kernel_rfl)) (by kernel_rfl) (by kernel_rfl))
abbrev kval (s : Scp) (k : ByteArray) : Value := .agg #[.string s.prj, .int .i64 s.trust, .string s.ref, .string k]
theorem kval_key (s : Scp) (k : ByteArray) (h1 : s.prj.size ≤ maxLen) (h2 : I64 s.trust) (h3 : s.ref.size ≤ maxLen) (h4 : k.size ≤ maxLen) : ∃ l, keyOf Tryd.prog 70 (kval s k) = some l := by
  have hc : Tryd.prog.cellsOf 70 = 4 := by kernel_rfl
  have hc2 : Tryd.prog.cellsOf 38 = 3 := by kernel_rfl
  have hc3 : Tryd.prog.cellsOf 9 = 1 := by kernel_rfl
  have hc4 : Tryd.prog.cellsOf 3 = 1 := by kernel_rfl
  have hk : Tryd.prog.keyType 70 = true := by kernel_rfl
  have hw : (Lit.int .i64 s.trust).wf = true := by
    obtain ⟨a, b⟩ := h2
    exact WalkArith.wf_i64 (by omega)
  obtain ⟨m, hm⟩ : ∃ m, Tryd.prog.types.size + 1 = m + 3 := ⟨Tryd.prog.types.size - 2, by
    have : 10 < Tryd.prog.types.size := of_decide_eq_true (by kernel_rfl)
    omega⟩
  unfold keyOf
  rw [Tryd.underlying70, hm]
  dsimp only
  rw [if_pos (by rw [hk]; simp [Value.formed, Tryd.underlying70, hc])]
  simp [Program.keyLits, Tryd.underlying70, Tryd.underlying38, Tryd.underlying9, Tryd.underlying3, hc, hc2, hc3, hc4, Value.cells, h1, h3, h4, hw]
  rw [if_pos (by decide)]
  exact ⟨_, rfl⟩
/-- how a true element reads -/
def trueE : Value → Option (DataW Unit × List MemPlace)
  | .bool true => some (.lit (.bool true), [])
  | _ => none
noncomputable def klOf (x : Ent) : Lit := (keyOf Tryd.prog 70 (kval x.sc x.key)).getD (.bool true)
structure Ent.fit (x : Ent) : Prop where
  p : x.sc.prj.size ≤ 1000000
  r : x.sc.ref.size ≤ 1000000
  k : x.key.size ≤ 1000000
  t : I64 x.sc.trust
  z : I64 x.size
  c : I64 x.created
  u : I64 x.used
set_option maxRecDepth 100000 in
theorem klOf_key {x : Ent} (h : x.fit) : keyOf Tryd.prog 70 (kval x.sc x.key) = some (klOf x) := by
  obtain ⟨l, hl⟩ := kval_key x.sc x.key (by have := h.p; unfold maxLen; omega) h.t (by have := h.r; unfold maxLen; omega) (by have := h.k; unfold maxLen; omega)
  unfold klOf
  rw [hl]
  rfl
theorem toList_inj {a b : ByteArray} (h : a.toList = b.toList) : a = b := by
  rw [ByteArray.toList_eq, ByteArray.toList_eq] at h
  cases a
  cases b
  simp at h
  rw [h]
set_option maxRecDepth 100000 in
theorem hit_kl {x y : Ent} (hx : x.fit) (hy : y.fit) : (klOf y).sameKey (klOf x) = hitE x.sc x.key y := by
  have kx := klOf_key hx
  have ky := klOf_key hy
  by_cases h : hitE x.sc x.key y = true
  · rw [h]
    have e : kval y.sc y.key = kval x.sc x.key := by
      unfold hitE sameP at h
      simp only [Bool.and_eq_true, beq_iff_eq] at h
      obtain ⟨⟨h1, h2, h3⟩, h4⟩ := h
      simp [toList_inj h1, h2, toList_inj h3, toList_inj h4]
    rw [e, kx] at ky
    rw [← Option.some.inj ky]
    exact WideAt.sameKey_self (nmLaw.key kx)
  · rw [Bool.eq_false_iff.2 h]
    cases hs : (klOf y).sameKey (klOf x)
    · rfl
    · exfalso
      apply h
      have e := WideAt.sameKey_eq hs
      rw [e] at ky
      have e2 := nmLaw.inj ky kx
      simp only [Value.agg.injEq, Array.mk.injEq, List.cons.injEq, Value.string.injEq, Value.int.injEq, and_true, true_and] at e2
      obtain ⟨h1, h2, h3, h4⟩ := e2
      unfold hitE sameP
      simp [h1, h2, h3, h4]
/-- the set of the names of these entries -/
def Names (w : World) (b : Nat) (l : List Ent) : Prop := w.ownsMap Tryd.prog 70 trueE b l.length (setOf (.lit (.bool true)) (l.map klOf))
theorem Names.kept {w w' : World} {b : Nat} {l : List Ent} (h : Names w b l) (hb : Below w.heap.size w w') (_hlt : b < w.heap.size) : Names w' b l :=
  World.ownsMap.kept (row := none) h ⟨hb.os, hb.tape, hb.output, hb.size, fun k hk _ => hb.block k hk⟩ (by simp)
set_option maxRecDepth 100000 in
theorem Names.look {w : World} {b : Nat} {l : List Ent} (h : Names w b l) (hl : ∀ y ∈ l, y.fit) {x : Ent} (hx : x.fit) :
    (Instr.lookup 68 (.map (some b)) (kval x.sc x.key) false).run Tryd.prog w = .ok (.bool (l.any (hitE x.sc x.key))) w := by
  have hz : (zeroValue 4).run Tryd.prog w = .ok (.bool false) w := by kernel_rfl
  have hkey := klOf_key hx
  obtain ⟨es, clock, hb, F, _, hD⟩ := h
  have hh : Maps.has (setOf (H := Unit) (.lit (.bool true)) (l.map klOf)) (klOf x) = l.any (hitE x.sc x.key) := by
    rw [has_setOf _ _ _ (by
      intro z hz
      obtain ⟨y, hy, rfl⟩ := List.mem_map.1 hz
      exact nmLaw.key (klOf_key (hl y hy))), List.any_map]
    rw [Bool.eq_iff_iff, List.any_eq_true, List.any_eq_true]
    constructor
    · rintro ⟨y, hy, h1⟩
      exact ⟨y, hy, by rw [← hit_kl hx (hl y hy)]; exact h1⟩
    · rintro ⟨y, hy, h1⟩
      exact ⟨y, hy, by show (klOf y).sameKey (klOf x) = true; rw [hit_kl hx (hl y hy)]; exact h1⟩
  rw [hD] at hh
  rcases fit_look false nmLaw Tryd.underlying68 hz hb F hkey with ⟨hrun, _, hat⟩ | ⟨e0, y, _, _, hrun, hRv, hat, _⟩
  · rw [has_false_of_atKey hat] at hh
    rw [← hh]
    exact hrun
  · rw [has_true_of_atKey hat] at hh
    rw [← hh]
    have hv : e0.val = .bool true := by
      unfold trueE at hRv
      split at hRv
      · assumption
      · cases hRv
    rw [hrun, hv]
    rfl
theorem Names.snoc {w' : World} {b : Nat} {l : List Ent} {x : Ent} (h : w'.ownsMap Tryd.prog 70 trueE b (l.length + 1) ((setOf (.lit (.bool true)) (l.map klOf)).put (klOf x) (.lit (.bool true)))) : Names w' b (l ++ [x]) := by
  unfold Names
  rw [List.length_append, List.map_append]
  show w'.ownsMap _ _ _ _ _ (setOf _ (l.map klOf ++ [klOf x]))
  rw [setOf_snoc]
  exact h
end Go.Proofs.YtpdlapdnjmoaoaaDoor
