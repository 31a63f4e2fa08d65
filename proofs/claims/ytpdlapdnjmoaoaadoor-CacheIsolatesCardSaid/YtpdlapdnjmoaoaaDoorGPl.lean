/- The plain laws of patterns. No program in sight. -/
import Derived.Test.YtpdlapdnjmoaoaaDoorIdN
import Derived.BigQuiet
import Derived.BigRegion
import Derived.Deep.DeepCutAuto
import Derived.Deep.OwnRows
import Derived.Deep.RegionHeld3
import Derived.Lib.BufferOwn
import Derived.Lib.Zigzag
namespace Go.Proofs.YtpdlapdnjmoaoaaDoor.Gl
open Go.RowKit
/-- four words -/
structure Set4 where
  a : Nat
  b : Nat
  c : Nat
  d : Nat
def Set4.get (s : Set4) : Nat → Nat
  | 0 => s.a
  | 1 => s.b
  | 2 => s.c
  | _ => s.d
def Set4.set (s : Set4) (v : Nat) : Nat → Set4
  | 0 => { s with a := v }
  | 1 => { s with b := v }
  | 2 => { s with c := v }
  | _ => { s with d := v }
def Set4.fit (s : Set4) : Prop := s.a < 18446744073709551616 ∧ s.b < 18446744073709551616 ∧ s.c < 18446744073709551616 ∧ s.d < 18446744073709551616
def addS (s : Set4) (c : Nat) : Set4 := s.set (s.get (c / 64) ||| 2 ^ (c % 64)) (c / 64)
def dropS (s : Set4) (c : Nat) : Set4 := s.set (s.get (c / 64) &&& (18446744073709551615 - 2 ^ (c % 64))) (c / 64)
def hasS (s : Set4) (c : Nat) : Bool := (s.get (c / 64)).testBit (c % 64)
theorem four {k : Nat} (h : k < 4) : k = 0 ∨ k = 1 ∨ k = 2 ∨ k = 3 := by omega
theorem get_set (s : Set4) (v j k : Nat) (hj : j < 4) (hk : k < 4) : (s.set v j).get k = if j = k then v else s.get k := by
  rcases four hj with rfl | rfl | rfl | rfl <;> rcases four hk with rfl | rfl | rfl | rfl <;> rfl
theorem fit_get {s : Set4} (h : s.fit) (k : Nat) : s.get k < 18446744073709551616 := by
  obtain ⟨h0, h1, h2, h3⟩ := h
  match k with
  | 0 => exact h0
  | 1 => exact h1
  | 2 => exact h2
  | _ + 3 => exact h3
theorem fit_set {s : Set4} (h : s.fit) {v : Nat} (hv : v < 18446744073709551616) (k : Nat) : (s.set v k).fit := by
  obtain ⟨h0, h1, h2, h3⟩ := h
  match k with
  | 0 => exact ⟨hv, h1, h2, h3⟩
  | 1 => exact ⟨h0, hv, h2, h3⟩
  | 2 => exact ⟨h0, h1, hv, h3⟩
  | _ + 3 => exact ⟨h0, h1, h2, hv⟩
theorem two_lt (k : Nat) (h : k < 64) : 2 ^ k < 18446744073709551616 := by
  have := Nat.pow_lt_pow_right (a := 2) (by omega) h
  have e : 2 ^ 64 = 18446744073709551616 := by decide
  omega
theorem fit_add {s : Set4} (h : s.fit) (c : Nat) : (addS s c).fit := by
  have h1 := fit_get h (c / 64)
  have h2 := two_lt (c % 64) (by omega)
  exact fit_set h (Nat.or_lt_two_pow (n := 64) h1 h2) _
theorem fit_drop {s : Set4} (h : s.fit) (c : Nat) : (dropS s c).fit := by
  have h1 := fit_get h (c / 64)
  refine fit_set h ?_ _
  exact Nat.lt_of_le_of_lt Nat.and_le_left h1
theorem has_add {s : Set4} {c x : Nat} (hc : c < 256) (hx : x < 256) : hasS (addS s c) x = (decide (x = c) || hasS s x) := by
  unfold hasS addS
  rw [get_set _ _ _ _ (by omega) (by omega)]
  by_cases h : c / 64 = x / 64
  · rw [if_pos h, Nat.testBit_or, Nat.testBit_two_pow, h, Bool.or_comm]
    congr 1
    rw [decide_eq_decide]
    omega
  · rw [if_neg h, decide_eq_false (by rintro rfl; exact h rfl), Bool.false_or]
theorem has_drop {s : Set4} {c x : Nat} (hc : c < 256) (hx : x < 256) : hasS (dropS s c) x = (decide (x ≠ c) && hasS s x) := by
  unfold hasS dropS
  rw [get_set _ _ _ _ (by omega) (by omega)]
  by_cases h : c / 64 = x / 64
  · have h2 := two_lt (c % 64) (by omega)
    have e : 18446744073709551615 - 2 ^ (c % 64) = 2 ^ 64 - (2 ^ (c % 64) + 1) := by omega
    rw [if_pos h, Nat.testBit_and, e, Nat.testBit_two_pow_sub_succ (by omega), Nat.testBit_two_pow, h, Bool.and_comm]
    congr 1
    rw [decide_eq_true (by omega), Bool.true_and, ← decide_not, decide_eq_decide]
    omega
  · rw [if_neg h, decide_eq_true (by rintro rfl; exact h rfl), Bool.true_and]
abbrev wd (n : Nat) : Value := .int .u64 (n : Int)
/-- the set lies at an address, to be written -/
def SetAt (w : World) (g o : Nat) (s : Set4) : Prop := w.cell? ⟨g, o, none⟩ = some (wd s.a) ∧ w.cell? ⟨g, o + 1, none⟩ = some (wd s.b) ∧ w.cell? ⟨g, o + 2, none⟩ = some (wd s.c) ∧ w.cell? ⟨g, o + 3, none⟩ = some (wd s.d) ∧ ∀ j, w.frozen? ⟨g, j, none⟩ = false
theorem setAt_set {w : World} {g o : Nat} {s : Set4} (h : SetAt w g o s) (v k : Nat) (hk : k < 4) : SetAt ((w.setCell ⟨g, o + k, none⟩ (wd v)).drew) g o (s.set v k) := by
  obtain ⟨h0, h1, h2, h3, h4⟩ := h
  rcases four hk with rfl | rfl | rfl | rfl <;> refine ⟨?_, ?_, ?_, ?_, fun j => ?_⟩ <;> simp [go_sem, h0, h1, h2, h3, h4, Set4.set]
theorem u64_andNot_nat (a b : Nat) (ha : a < 18446744073709551616) (hb : b < 18446744073709551616) : bits .andNot .u64 (a : Int) (b : Int) = ((a &&& (18446744073709551615 - b) : Nat) : Int) := by
  have hx : a &&& (18446744073709551615 - b) < 2 ^ 64 := Nat.lt_of_le_of_lt Nat.and_le_left (by omega)
  show IntKind.u64.wrap ((BitVec.ofInt 64 (a : Int) &&& ~~~BitVec.ofInt 64 (b : Int)).toNat : Int) = _
  rw [BitVec.toNat_and, BitVec.toNat_not, ofInt_u64 a ha, ofInt_u64 b hb, IntKind.wrap_u64]
  have e : (2 : Nat) ^ 64 - 1 = 18446744073709551615 := by decide
  rw [e]
  omega
structure El where
  set : Set4
  many : Bool
  lit : Bool
  ch : Nat
abbrev scells (s : Set4) : Array Value := #[wd s.a, wd s.b, wd s.c, wd s.d]
abbrev ecells (e : El) : Array Value := #[wd e.set.a, wd e.set.b, wd e.set.c, wd e.set.d, .bool e.many, .bool e.lit, .int .u8 (e.ch : Int)]
def fullS : Set4 := ⟨18446744073709551615, 18446744073709551615, 18446744073709551615, 18446744073709551615⟩
def zeroS : Set4 := ⟨0, 0, 0, 0⟩
theorem fit_full : fullS.fit := ⟨by decide, by decide, by decide, by decide⟩
theorem fit_zero : zeroS.fit := ⟨by decide, by decide, by decide, by decide⟩
def mostS (slash : Bool) : Set4 := if slash then fullS else dropS fullS 47
def litE (c : Nat) : El := ⟨addS zeroS c, false, true, c⟩
/-- cells of a block made here, after a store into a set in it -/
theorem below_set {B g : Nat} {a w : World} (h : Below B a w) (hg : B ≤ g) (j : Nat) (v : Value) : Below B a (w.setCell ⟨g, j, none⟩ v).drew := (h.setCell (p := ⟨g, j, none⟩) hg v).drew
/-- the byte of an item of a class at a place, and its length -/
def charAt (l : List UInt8) (i : Nat) : Option (Nat × Nat) := match l[i]? with
  | none => none
  | some c => if c.toNat = 93 ∨ c.toNat = 45 then none else if c.toNat ≠ 92 then some (c.toNat, 1) else match l[i + 1]? with
    | none => none
    | some d => some (d.toNat, 2)
theorem charAt_drop (l : List UInt8) (i : Nat) : charAt (l.drop i) 0 = charAt l i := by
  unfold charAt
  rw [List.getElem?_drop, List.getElem?_drop, Nat.add_zero, Nat.zero_add]
def ch1 : Option (Nat × Nat) → Nat
  | some p => p.1
  | none => 0
def ch2 : Option (Nat × Nat) → Nat
  | some p => p.2
  | none => 0
theorem toList_ne {s : ByteArray} (h : 0 < s.size) : (s.toList == []) = false := by
  have hsz : s.data.toList.length = s.size := by simp
  have hne : ¬ (s.toList = []) := by
    rw [ByteArray.toList_eq]
    intro h2
    rw [h2] at hsz
    simp at hsz
    omega
  simpa using hne
/-- n bytes more, from c on -/
def addN : Set4 → Nat → Nat → Set4
  | s, _, 0 => s
  | s, c, n + 1 => addN (addS s c) (c + 1) n
/-- the rest of a class: the set so far, the place; the set, the length -/
def clsF (l : List UInt8) : Nat → Nat → Set4 → Option (Set4 × Nat)
  | 0, _, _ => none
  | k + 1, at_, out => if at_ = 1 ∨ (at_ < l.length ∧ l[at_]?.map UInt8.toNat ≠ some 93) then
      match charAt l at_ with
      | none => none
      | some (first, n) => if l[at_ + n]?.map UInt8.toNat = some 45 then
          match charAt l (at_ + n + 1) with
          | none => none
          | some (last, m) => if last < first then none else clsF l k (at_ + n + 1 + m) (addN out first (last + 1 - first))
        else clsF l k (at_ + n) (addN out first 1)
    else if l.length ≤ at_ then none else some (dropS out 47, at_ + 1)
def clsS (l : List UInt8) : Option (Set4 × Nat) := clsF l (l.length + 1) 1 zeroS
theorem charAt_range {l : List UInt8} {i x n : Nat} (h : charAt l i = some (x, n)) : x < 256 ∧ 1 ≤ n ∧ n ≤ 2 ∧ i + n ≤ l.length := by
  unfold charAt at h
  split at h
  · cases h
  · rename_i c hc
    have h1 := (List.getElem?_eq_some_iff.1 hc).1
    split at h
    · cases h
    · split at h
      · simp only [Option.some.injEq, Prod.mk.injEq] at h
        obtain ⟨rfl, rfl⟩ := h
        exact ⟨c.toNat_lt, by omega, by omega, by omega⟩
      · split at h
        · cases h
        · rename_i d hd
          have h2 := (List.getElem?_eq_some_iff.1 hd).1
          simp only [Option.some.injEq, Prod.mk.injEq] at h
          obtain ⟨rfl, rfl⟩ := h
          exact ⟨d.toNat_lt, by omega, by omega, by omega⟩
theorem ext_size (s : ByteArray) (a : Nat) : (s.extract a s.size).size ≤ s.size := by
  have h := ext_list s a s.size
  have h2 := congrArg List.length h
  simp at h2
  simp
theorem addN_fit : ∀ (n c : Nat) (s : Set4), s.fit → (addN s c n).fit
  | 0, _, _, h => h
  | n + 1, c, s, h => addN_fit n (c + 1) _ (fit_add h c)
/-- the class's two blocks: the result, the set -/
def InvC (w wr : World) (s : Set4) : Prop := Below w.heap.size w wr ∧ SetAt wr (w.heap.size + 1) 0 s ∧ s.fit ∧ SetAt wr w.heap.size 0 zeroS
theorem setAt_far {w : World} {g g' o o' : Nat} {s : Set4} (h : SetAt w g o s) (hg : g ≠ g') (v : Value) : SetAt (w.setCell ⟨g', o', none⟩ v).drew g o s := by
  obtain ⟨h0, h1, h2, h3, h4⟩ := h
  refine ⟨?_, ?_, ?_, ?_, fun j => ?_⟩
  · rw [World.cell?_drew, World.cell?_setCell_far _ _ _ _ (fun h => hg h.symm), h0]
  · rw [World.cell?_drew, World.cell?_setCell_far _ _ _ _ (fun h => hg h.symm), h1]
  · rw [World.cell?_drew, World.cell?_setCell_far _ _ _ _ (fun h => hg h.symm), h2]
  · rw [World.cell?_drew, World.cell?_setCell_far _ _ _ _ (fun h => hg h.symm), h3]
  · simp [go_sem, h4]
theorem invC_add {w wr : World} {s : Set4} (h : InvC w wr s) (c : Nat) (hc : c < 256) : InvC w (wr.setCell ⟨w.heap.size + 1, 0 + c / 64, none⟩ (wd (s.get (c / 64) ||| 2 ^ (c % 64)))).drew (addS s c) :=
  ⟨below_set h.1 (by omega) _ _, setAt_set h.2.1 _ _ (by omega), fit_add h.2.2.1 c, setAt_far h.2.2.2 (by omega) _⟩
theorem invC_drop {w wr : World} {s : Set4} (h : InvC w wr s) (c : Nat) (hc : c < 256) : InvC w (wr.setCell ⟨w.heap.size + 1, 0 + c / 64, none⟩ (wd (s.get (c / 64) &&& (18446744073709551615 - 2 ^ (c % 64))))).drew (dropS s c) :=
  ⟨below_set h.1 (by omega) _ _, setAt_set h.2.1 _ _ (by omega), fit_drop h.2.2.1 c, setAt_far h.2.2.2 (by omega) _⟩
def RetC (w : World) (r : Option (Set4 × Nat)) (e : Ending) (w' : World) : Prop := ∃ (s : Set4) (n : Nat), e = .returned (.tuple #[.agg (scells s), .int .i64 (n : Int)]) ∧ (r = none → n = 0) ∧ (∀ s' n', r = some (s', n') → s = s' ∧ n = n') ∧ Below w.heap.size w w'
def fstS (l : List UInt8) : Option (El × Nat) := match l[0]? with
  | none => none
  | some c => if c.toNat = 42 then (if l[1]?.map UInt8.toNat = some 42 then some (⟨mostS true, true, false, 0⟩, 2) else some (⟨mostS false, true, false, 0⟩, 1))
    else if c.toNat = 63 then some (⟨mostS false, false, false, 0⟩, 1)
    else if c.toNat = 91 then (match clsS l with
      | none => none
      | some (s, n) => some (⟨s, false, false, 0⟩, n))
    else if c.toNat = 92 then (match l[1]? with
      | none => none
      | some d => some (litE d.toNat, 2))
    else some (litE c.toNat, 1)
def RetE (w : World) (r : Option (El × Nat)) (e : Ending) (w' : World) : Prop := ∃ (E : El) (n : Nat), e = .returned (.tuple #[.agg (ecells E), .int .i64 (n : Int)]) ∧ (r = none → n = 0) ∧ (∀ E' n', r = some (E', n') → E = E' ∧ n = n') ∧ Below w.heap.size w w'
def zeroE : El := ⟨zeroS, false, false, 0⟩
theorem clsF_ok (l : List UInt8) : ∀ (k a : Nat) (out s : Set4) (n : Nat), out.fit → clsF l k a out = some (s, n) → s.fit ∧ 1 ≤ n ∧ n ≤ l.length
  | 0, _, _, _, _, _, h => by cases h
  | k + 1, a, out, s, n, ho, h => by
    unfold clsF at h
    split at h
    · split at h
      · cases h
      · split at h
        · split at h
          · cases h
          · split at h
            · cases h
            · exact clsF_ok l k _ _ s n (addN_fit _ _ _ ho) h
        · exact clsF_ok l k _ _ s n (addN_fit _ _ _ ho) h
    · split at h
      · cases h
      · simp only [Option.some.injEq, Prod.mk.injEq] at h
        obtain ⟨rfl, rfl⟩ := h
        exact ⟨fit_drop ho _, by omega, by omega⟩
theorem fstS_ok {l : List UInt8} {e : El} {n : Nat} (h : fstS l = some (e, n)) : e.set.fit ∧ 1 ≤ n ∧ n ≤ l.length := by
  have hmost : ∀ b, (mostS b).fit := by
    intro b; unfold mostS; split
    · exact fit_full
    · exact fit_drop fit_full _
  unfold fstS at h
  split at h
  · cases h
  · rename_i c hc
    have h1 := (List.getElem?_eq_some_iff.1 hc).1
    split at h
    · split at h
      · rename_i h2
        cases h
        refine ⟨hmost _, by omega, ?_⟩
        cases hq : l[1]? with
        | none => rw [hq] at h2; cases h2
        | some z => have := (List.getElem?_eq_some_iff.1 hq).1; omega
      · cases h; exact ⟨hmost _, by omega, by omega⟩
    · split at h
      · cases h; exact ⟨hmost _, by omega, by omega⟩
      · split at h
        · split at h
          · cases h
          · rename_i s m hcl
            cases h
            exact clsF_ok l _ _ _ _ _ fit_zero hcl
        · split at h
          · split at h
            · cases h
            · rename_i d hd
              have h2 := (List.getElem?_eq_some_iff.1 hd).1
              cases h; exact ⟨fit_add fit_zero _, by omega, by omega⟩
          · cases h; exact ⟨fit_add fit_zero _, by omega, by omega⟩
/-- the elements of a pattern -/
def prsF : Nat → List UInt8 → Option (List El)
  | _, [] => some []
  | 0, _ :: _ => none
  | k + 1, c :: l => match fstS (c :: l) with
    | none => none
    | some (e, n) => (prsF k ((c :: l).drop n)).map (e :: ·)
def prsS (l : List UInt8) : Option (List El) := if 4096 < l.length then none else prsF l.length l
theorem prsF_step {k : Nat} {l : List UInt8} (h : l ≠ []) : prsF (k + 1) l = match fstS l with
    | none => none
    | some (e, n) => (prsF k (l.drop n)).map (e :: ·) := by
  cases l with
  | nil => exact absurd rfl h
  | cons c l => rfl
abbrev elcs (es : List El) : List Value := es.flatMap fun e => (ecells e).toList
def slen : Value → Nat
  | .string s => s.size
  | _ => 0
theorem flatE_at {α : Type} {f : α → List Value} {sz : Nat} (hf : ∀ x, (f x).length = sz) : ∀ {l : List α} {i : Nat} {x : α} {j : Nat} {u : Value}, l[i]? = some x → (f x)[j]? = some u → (l.flatMap f)[i * sz + j]? = some u
  | [], _, _, _, _, h, _ => by simp at h
  | y :: l, 0, x, j, u, h, hu => by
    simp only [List.getElem?_cons_zero, Option.some.injEq] at h
    subst h
    have hj := (List.getElem?_eq_some_iff.1 hu).1
    rw [List.flatMap_cons, Nat.zero_mul, Nat.zero_add, List.getElem?_append_left hj]; exact hu
  | y :: l, i + 1, x, j, u, h, hu => by
    rw [List.flatMap_cons, Nat.add_mul, List.getElem?_append_right (by rw [hf]; omega), hf, ← flatE_at hf (l := l) (i := i) (by simpa using h) hu]
    congr 1
    omega
def manyAt (es : List El) (k : Nat) : Bool := (es[k]?.map El.many).getD false
def skN (m f : Nat → Bool) : Nat → Bool
  | 0 => f 0
  | k + 1 => f (k + 1) || (skN m f k && m k)
/-- a row of n + 1 bools -/
def BRow (w : World) (g n : Nat) (f : Nat → Bool) : Prop := (∀ j, j ≤ n → w.cell? ⟨g, j, none⟩ = some (.bool (f j))) ∧ ∀ j, w.frozen? ⟨g, j, none⟩ = false
theorem BRow.set {w : World} {g n : Nat} {f : Nat → Bool} (h : BRow w g n f) (k : Nat) (hk : k ≤ n) (v : Bool) : BRow (w.setCell ⟨g, k, none⟩ (.bool v)).drew g n (fun j => if j = k then v else f j) := by
  refine ⟨fun j hj => ?_, fun j => ?_⟩
  · by_cases hjk : j = k
    · subst hjk
      have := h.1 j hj
      simp [go_sem, this]
    · show _ = some (Value.bool (if j = k then v else f j))
      rw [if_neg hjk, World.cell?_drew, World.cell?_setCell_other w _ _ _ (by intro h; injection h with h1 h2; exact hjk h2.symm)]
      exact h.1 j hj
  · simp [go_sem, h.2]
theorem BRow.set' {w : World} {g n : Nat} {f : Nat → Bool} (h : BRow w g n f) (k : Nat) (hk : k ≤ n) (v : Bool) : BRow (w.setCell ⟨g, k, none⟩ (.bool v)) g n (fun j => if j = k then v else f j) := by
  obtain ⟨h1, h2⟩ := h.set k hk v
  exact ⟨fun j hj => h1 j hj, fun j => h2 j⟩
theorem BRow.kept {w w' : World} {g n : Nat} {f : Nat → Bool} (h : BRow w g n f) (hb : Below w.heap.size w w') (hg : g < w.heap.size) : BRow w' g n f :=
  ⟨fun j hj => (hb.cell (p := ⟨g, j, none⟩) hg).trans (h.1 j hj), fun j => (hb.frozen (p := ⟨g, j, none⟩) hg).trans (h.2 j)⟩
theorem BRow.congr {w : World} {g n : Nat} {f f' : Nat → Bool} (h : BRow w g n f) (hf : ∀ j, j ≤ n → f j = f' j) : BRow w g n f' := ⟨fun j hj => by rw [← hf j hj]; exact h.1 j hj, h.2⟩
theorem grow_drew {w w' : World} {row : Option Nat} (h : w.grownBy w' row) : w.grownBy w'.drew row := ⟨h.os, h.tape, h.output, h.size, h.block⟩
theorem grow_cell {w w' : World} {g : Nat} (h : w.grownBy w' (some g)) {p : Addr} (h1 : p.block < w.heap.size) (h2 : p.block ≠ g) : w'.cell? p = w.cell? p := World.cell?_of_block (h.block p.block h1 (fun e => h2 (by injection e)))
theorem grow_frozen {w w' : World} {g : Nat} (h : w.grownBy w' (some g)) {p : Addr} (h1 : p.block < w.heap.size) (h2 : p.block ≠ g) : w'.frozen? p = w.frozen? p := World.frozen?_of_block (h.block p.block h1 (fun e => h2 (by injection e)))
def hasAt (es : List El) (c k : Nat) : Bool := (es[k]?.map fun e => hasS e.set c).getD false
def hitN (es : List El) (c : Nat) (f : Nat → Bool) (k : Nat) : Bool := f k && hasAt es c k
def nxK (es : List El) (c : Nat) (f : Nat → Bool) (k : Nat) : Nat → Bool
  | 0 => decide (0 < k) && hitN es c f 0 && manyAt es 0
  | j + 1 => (decide (j + 1 < k) && hitN es c f (j + 1) && manyAt es (j + 1)) || (decide (j < k) && hitN es c f j && !manyAt es j)
theorem nxK_zero (es : List El) (c : Nat) (f : Nat → Bool) (j : Nat) : nxK es c f 0 j = false := by cases j <;> simp [nxK]
theorem dec_succ (j k : Nat) : decide (j < k + 1) = (decide (j = k) || decide (j < k)) := by
  rw [← Bool.decide_or, decide_eq_decide]; omega
theorem nxK_miss {es : List El} {c : Nat} {f : Nat → Bool} {k : Nat} (h : hitN es c f k = false) (j : Nat) : nxK es c f (k + 1) j = nxK es c f k j := by
  cases j with
  | zero =>
    simp only [nxK, dec_succ]
    by_cases hk : 0 = k
    · subst hk; simp [h]
    · simp [hk]
  | succ j =>
    simp only [nxK, dec_succ]
    by_cases hk : j + 1 = k
    · subst hk; simp [h]
    · by_cases hk2 : j = k
      · subst hk2; simp [h]
      · simp [hk, hk2]
theorem nxK_many {es : List El} {c : Nat} {f : Nat → Bool} {k : Nat} (h : hitN es c f k = true) (hm : manyAt es k = true) (j : Nat) : (if j = k then true else nxK es c f k j) = nxK es c f (k + 1) j := by
  cases j with
  | zero =>
    simp only [nxK, dec_succ]
    by_cases hk : 0 = k
    · subst hk; simp [h, hm]
    · simp [hk]
  | succ j =>
    simp only [nxK, dec_succ]
    by_cases hk : j + 1 = k
    · subst hk; simp [h, hm]
    · by_cases hk2 : j = k
      · subst hk2; simp [h, hm]
      · simp [hk, hk2]
theorem nxK_one {es : List El} {c : Nat} {f : Nat → Bool} {k : Nat} (h : hitN es c f k = true) (hm : manyAt es k = false) (j : Nat) : (if j = k + 1 then true else nxK es c f k j) = nxK es c f (k + 1) j := by
  cases j with
  | zero =>
    simp only [nxK, dec_succ]
    by_cases hk : 0 = k
    · subst hk; simp [h, hm]
    · simp [hk]
  | succ j =>
    simp only [nxK, dec_succ]
    by_cases hk : j + 1 = k
    · subst hk; simp [h, hm]
    · by_cases hk2 : j = k
      · subst hk2; simp [h, hm]
      · simp [hk, hk2]
/-- one byte: which numbers of elements match what was read -/
def stepM (es : List El) (f : Nat → Bool) (c : UInt8) : Nat → Bool := skN (manyAt es) (nxK es c.toNat f es.length)
def startM (es : List El) : Nat → Bool := skN (manyAt es) (fun j => decide (j = 0))
def matchE (es : List El) (s : List UInt8) : Bool := s.foldl (stepM es) (startM es) es.length
def matchS (p s : List UInt8) : Bool := match prsS p with
  | none => false
  | some es => matchE es s
structure MInv (w wr : World) (B1 pl pa : Nat) (A : Option Addr) (c n : Nat) (es : List El) (g : Nat) (f : Nat → Bool) : Prop where
  below : Below w.heap.size w wr
  cpl : wr.cell? ⟨pl, 0, none⟩ = some (.slice A n c)
  cpa : wr.cell? ⟨pa, 0, none⟩ = some (.slice (some ⟨g, 0, none⟩) (n + 1) (n + 1))
  fpa : wr.frozen? ⟨pa, 0, none⟩ = false
  g1 : B1 ≤ g
  g2 : g < wr.heap.size
  g3 : g ≠ pl
  g4 : g ≠ pa
  l1 : pl < wr.heap.size
  l2 : pa < wr.heap.size
  m1 : B1 ≤ pl
  m2 : B1 ≤ pa
  m3 : pl ≠ pa
  b1 : w.heap.size ≤ B1
  seq : SeqP wr (fun b => b < B1) 7 A n (elcs es)
  row : BRow wr g n f

theorem MInv.grown {w wr w' : World} {B1 pl pa : Nat} {A : Option Addr} {c n : Nat} {es : List El} {g : Nat} {f f' : Nat → Bool} (h : MInv w wr B1 pl pa A c n es g f) (hg : wr.grownBy w' (some g)) (hr : BRow w' g n f') : MInv w w' B1 pl pa A c n es g f' where
  below := h.below.grown hg h.below.size (fun k hk => by injection hk with hk; have := h.g1; have := h.b1; omega)
  cpl := (grow_cell hg (p := ⟨pl, 0, none⟩) h.l1 (Ne.symm h.g3)).trans h.cpl
  cpa := (grow_cell hg (p := ⟨pa, 0, none⟩) h.l2 (Ne.symm h.g4)).trans h.cpa
  fpa := (grow_frozen hg (p := ⟨pa, 0, none⟩) h.l2 (Ne.symm h.g4)).trans h.fpa
  g1 := h.g1
  g2 := Nat.lt_of_lt_of_le h.g2 hg.size
  g3 := h.g3
  g4 := h.g4
  l1 := Nat.lt_of_lt_of_le h.l1 hg.size
  l2 := Nat.lt_of_lt_of_le h.l2 hg.size
  m1 := h.m1
  m2 := h.m2
  m3 := h.m3
  b1 := h.b1
  seq := SeqP.map h.seq (fun p hp => grow_cell hg (Nat.lt_trans (Nat.lt_of_lt_of_le hp h.g1) h.g2) (by have := h.g1; omega)) (fun _ hb => hb)
  row := hr
theorem MInv.next {w wr wx : World} {B1 pl pa : Nat} {A : Option Addr} {c n : Nat} {es : List El} {g : Nat} {f f' : Nat → Bool} (h : MInv w wr B1 pl pa A c n es g f) {o : Obj} (hg : (wr.alloc o).grownBy wx (some wr.heap.size)) (hr : BRow wx wr.heap.size n f') :
    MInv w (wx.setCell ⟨pa, 0, none⟩ (.slice (some ⟨wr.heap.size, 0, none⟩) (n + 1) (n + 1))) B1 pl pa A c n es wr.heap.size f' := by
  have hsz : (wr.alloc o).heap.size = wr.heap.size + 1 := by simp
  have hb0 := (Below.refl wr.heap.size wr).alloc (Nat.le_refl _) o
  have ob : ∀ p : Addr, p.block < wr.heap.size → wx.cell? p = wr.cell? p := fun p hp => (grow_cell hg (by rw [hsz]; omega) (by omega)).trans (hb0.cell hp)
  have obf : ∀ p : Addr, p.block < wr.heap.size → wx.frozen? p = wr.frozen? p := fun p hp => (grow_frozen hg (by rw [hsz]; omega) (by omega)).trans (hb0.frozen hp)
  have far : ∀ (v : Value) (p : Addr), p.block ≠ pa → (wx.setCell ⟨pa, 0, none⟩ v).cell? p = wx.cell? p := fun v p hp => World.cell?_setCell_far _ _ _ _ (fun e => hp e.symm)
  have hxs : wr.heap.size + 1 ≤ wx.heap.size := by rw [← hsz]; exact hg.size
  have h1 := h.l1
  have h2 := h.l2
  have h3 := h.m1
  have h4 := h.m2
  have h5 := h.m3
  have h6 := h.b1
  have h7 := h.g1
  have h8 := h.g2
  have hss : ∀ v, (wx.setCell ⟨pa, 0, none⟩ v).heap.size = wx.heap.size := fun v => by simp [World.setCell]
  have hpa := (ob ⟨pa, 0, none⟩ h2).trans h.cpa
  have hbx : Below w.heap.size w wx := (h.below.alloc h.below.size o).grown hg (by rw [hsz]; have := h.below.size; omega) (fun k hk => by injection hk with hk; omega)
  refine ⟨hbx.setCell (p := ⟨pa, 0, none⟩) (Nat.le_trans h6 h4) _, ?_, ?_, ?_, by omega, ?_, by omega, by omega, ?_, ?_, h3, h4, h5, h6, ?_, ?_⟩
  · rw [far _ _ h5]; exact (ob ⟨pl, 0, none⟩ h1).trans h.cpl
  · rw [World.cell?_setCell_same wx _ _ hpa]
  · have := (obf ⟨pa, 0, none⟩ h2).trans h.fpa
    simpa [go_sem] using this
  · rw [hss]; omega
  · rw [hss]; omega
  · rw [hss]; omega
  · refine SeqP.map h.seq (fun p hp => ?_) (fun _ hb => hb)
    rw [far _ _ (by omega)]
    exact ob p (by omega)
  · refine ⟨fun j hj => ?_, fun j => ?_⟩
    · rw [far _ _ (by dsimp only; omega)]; exact hr.1 j hj
    · have := hr.2 j
      simpa [go_sem] using this
theorem made_bools (k : Nat) (j : Nat) (hj : j < k) : (madeCells #[.bool false] k)[j]? = some (.bool false) := by
  unfold madeCells
  rw [Array.getElem?_map, Array.getElem?_eq_getElem (by simpa using hj)]
  simp [Nat.mod_one]
theorem bool_info : Info Tryd.prog 4 (.bool false) 1 1 := by unfold Info; kernel_rfl
theorem prsF_fit : ∀ (k : Nat) (l : List UInt8) (es : List El), prsF k l = some es → ∀ e ∈ es, e.set.fit
  | _, [], es, h => by
    have : es = [] := by cases ‹Nat› <;> simp [prsF] at h <;> exact h
    subst this; intro e he; cases he
  | 0, _ :: _, es, h => by simp [prsF] at h
  | k + 1, c :: l, es, h => by
    rw [prsF_step (by simp)] at h
    cases hq : fstS (c :: l) with
    | none => rw [hq] at h; cases h
    | some q =>
      obtain ⟨E, n⟩ := q
      rw [hq] at h
      dsimp only at h
      obtain ⟨es', h1, rfl⟩ := Option.map_eq_some_iff.1 h
      intro e he
      rcases List.mem_cons.1 he with rfl | he
      · exact (fstS_ok hq).1
      · exact prsF_fit k _ _ h1 e he
theorem prsF_len : ∀ (k : Nat) (l : List UInt8) (es : List El), prsF k l = some es → es.length ≤ l.length
  | _, [], es, h => by
    have : es = [] := by cases ‹Nat› <;> simp [prsF] at h <;> exact h
    subst this; simp
  | 0, _ :: _, es, h => by simp [prsF] at h
  | k + 1, c :: l, es, h => by
    rw [prsF_step (by simp)] at h
    cases hq : fstS (c :: l) with
    | none => rw [hq] at h; cases h
    | some q =>
      obtain ⟨E, n⟩ := q
      rw [hq] at h
      dsimp only at h
      obtain ⟨es', h1, rfl⟩ := Option.map_eq_some_iff.1 h
      have h2 := prsF_len k _ _ h1
      have h3 := (fstS_ok hq).2.1
      rw [List.length_drop] at h2
      simp at h2 ⊢
      omega
/-- what one pattern says, if it says something -/
def oneA (p s : List UInt8) : Option Bool := if p.head?.map UInt8.toNat = some 33 then (if matchS p.tail s then some false else none) else (if matchS p s then some true else none)
def anyR (s : List UInt8) : List (List UInt8) → Bool
  | [] => false
  | p :: ps => match oneA p s with
    | some b => b
    | none => anyR s ps
def anyS (ps : List (List UInt8)) (s : List UInt8) : Bool := anyR s ps.reverse
abbrev toL (l : List ByteArray) : List (List UInt8) := l.map fun p => p.data.toList
end Go.Proofs.YtpdlapdnjmoaoaaDoor.Gl
