/- Artifacts: plain, and how they lie in memory. -/
import Derived.Test.YtclinbpkcmcokaaDoorIdS
import Derived.Test.YtclinbpkcmcokaaDoorOpen
import Derived.Deep.RegionHeld3
import Derived.BigQuiet
import Derived.Deep.DeepCutAuto
namespace Go.Proofs.YtclinbpkcmcokaaDoor
open Go.RowKit
structure Art where
  run : ByteArray
  job : ByteArray
  att : Int
  nm : ByteArray
  dig : Int
  size : Int
  created : Int
  expires : Int
abbrev acells (a : Art) : Array Value := #[.string a.run, .string a.job, .int .i64 a.att, .string a.nm, .int .u64 a.dig, .int .i64 a.size, .int .i64 a.created, .int .i64 a.expires]
def acl (a : Art) : List Value := [.string a.run, .string a.job, .int .i64 a.att, .string a.nm, .int .u64 a.dig, .int .i64 a.size, .int .i64 a.created, .int .i64 a.expires]
theorem acl_len (a : Art) : (acl a).length = 8 := rfl
def slash : ByteArray := ⟨#[47]⟩
def key (a : Art) : ByteArray := a.job ++ slash ++ a.nm
def hit (run s : ByteArray) (a : Art) : Bool := a.run.toList == run.toList && (key a).toList == s.toList
/-- the place of the first, or -1 -/
def fnd (run s : ByteArray) (l : List Art) : Int := match l.findIdx? (hit run s) with
  | some i => (i : Int)
  | none => -1
/-- the texts are short -/
def Shrt (a : Art) : Prop := a.run.size ≤ 1000000 ∧ a.job.size ≤ 1000000 ∧ a.nm.size ≤ 1000000
theorem flat_at {α : Type} {f : α → List Value} {sz : Nat} (hf : ∀ x, (f x).length = sz) : ∀ {l : List α} {i : Nat} {x : α} {j : Nat} {u : Value}, l[i]? = some x → (f x)[j]? = some u → (l.flatMap f)[i * sz + j]? = some u
  | [], _, _, _, _, h, _ => by simp at h
  | y :: l, 0, x, j, u, h, hu => by
    simp only [List.getElem?_cons_zero, Option.some.injEq] at h
    subst h
    have hj := (List.getElem?_eq_some_iff.1 hu).1
    rw [List.flatMap_cons, Nat.zero_mul, Nat.zero_add, List.getElem?_append_left hj]; exact hu
  | y :: l, i + 1, x, j, u, h, hu => by
    rw [List.flatMap_cons, Nat.add_mul, List.getElem?_append_right (by rw [hf]; omega), hf, ← flat_at hf (l := l) (i := i) (by simpa using h) hu]
    congr 1
    omega
theorem flat_len {α : Type} {f : α → List Value} {sz : Nat} (hf : ∀ x, (f x).length = sz) : ∀ (l : List α), (l.flatMap f).length = l.length * sz
  | [] => by simp
  | y :: l => by rw [List.flatMap_cons, List.length_append, hf, flat_len hf l, List.length_cons, Nat.add_mul]; omega
theorem fnd_some {run s : ByteArray} {l : List Art} {i : Nat} {x : Art} (hx : l[i]? = some x) (h : hit run s x = true) (hno : ∀ j y, j < i → l[j]? = some y → hit run s y = false) : fnd run s l = i := by
  unfold fnd
  obtain ⟨hlt, he⟩ := List.getElem?_eq_some_iff.1 hx
  have : l.findIdx? (hit run s) = some i := by
    rw [List.findIdx?_eq_some_iff_getElem]
    refine ⟨hlt, by rw [he]; exact h, fun j hj => ?_⟩
    rw [hno j _ hj (List.getElem?_eq_getElem (by omega))]
    decide
  rw [this]
theorem fnd_none {run s : ByteArray} {l : List Art} (hno : ∀ j y, j < l.length → l[j]? = some y → hit run s y = false) : fnd run s l = -1 := by
  unfold fnd
  have : l.findIdx? (hit run s) = none := by
    rw [List.findIdx?_eq_none_iff]
    intro y hy
    obtain ⟨j, hj, rfl⟩ := List.getElem_of_mem hy
    exact hno j _ hj (List.getElem?_eq_getElem hj)
  rw [this]
theorem below_drewN (w : World) (n : Nat) : Below w.heap.size w (w.drewN n) := ⟨rfl, rfl, rfl, Nat.le_refl _, fun _ _ => rfl⟩
theorem abox (w : World) (a : Art) (t : TypeId) : Below w.heap.size w (w.alloc (.cells (acells a) t)) ∧ (w.alloc (.cells (acells a) t)).heap.size = w.heap.size + 1 ∧ (w.alloc (.cells (acells a) t)).cell? ⟨w.heap.size, 0, none⟩ = some (.string a.run) ∧ (w.alloc (.cells (acells a) t)).cell? ⟨w.heap.size, 1, none⟩ = some (.string a.job) ∧ (w.alloc (.cells (acells a) t)).cell? ⟨w.heap.size, 2, none⟩ = some (.int .i64 a.att) ∧ (w.alloc (.cells (acells a) t)).cell? ⟨w.heap.size, 3, none⟩ = some (.string a.nm) ∧ (w.alloc (.cells (acells a) t)).cell? ⟨w.heap.size, 4, none⟩ = some (.int .u64 a.dig) ∧ (w.alloc (.cells (acells a) t)).cell? ⟨w.heap.size, 5, none⟩ = some (.int .i64 a.size) ∧ (w.alloc (.cells (acells a) t)).cell? ⟨w.heap.size, 6, none⟩ = some (.int .i64 a.created) ∧ (w.alloc (.cells (acells a) t)).cell? ⟨w.heap.size, 7, none⟩ = some (.int .i64 a.expires) := by
  refine ⟨(Below.refl _ w).alloc (Nat.le_refl _) _, by simp, ?_⟩
  simp [go_sem]
set_option maxRecDepth 100000 in
set_option maxHeartbeats 800000 in
theorem aname_any (a : Art) (w : World) (h1 : a.job.size ≤ 1000000) (h2 : a.nm.size ≤ 1000000) : Calls Tryd.prog 33 #[.agg (acells a)] w fun e w' => e = .returned (.string (key a)) ∧ Below w.heap.size w w' := by
  go_enter Tryd.func33, Tryd.ntmps33
  repeat' ((fail_if_success at_builtin); (first | go_skip | go_guarded | go_step))
  go_ret
  exact ⟨rfl, (abox w a _).1⟩
set_option maxRecDepth 100000 in
set_option maxHeartbeats 800000 in
theorem rname_any (r j n : ByteArray) (w : World) (h1 : j.size ≤ 1000000) (h2 : n.size ≤ 1000000) : Calls Tryd.prog 15 #[.agg #[.string r, .string j], .string n] w fun e w' => e = .returned (.string (j ++ slash ++ n)) ∧ Below w.heap.size w w' := by
  go_enter Tryd.func15, Tryd.ntmps15
  repeat' ((fail_if_success at_builtin); (first | go_skip | go_guarded | go_step))
  go_ret
  exact ⟨rfl, (Below.refl _ w).alloc (Nat.le_refl _) _⟩
set_option maxRecDepth 100000 in
set_option maxHeartbeats 800000 in
theorem find1_any (a : Art) (run s : ByteArray) (g1 g2 : Nat) (w : World) (h1 : a.job.size ≤ 1000000) (h2 : a.nm.size ≤ 1000000) (l1 : g1 < w.heap.size) (l2 : g2 < w.heap.size) (e1 : w.cell? ⟨g1, 0, none⟩ = some (.string run)) (e2 : w.cell? ⟨g2, 0, none⟩ = some (.string s)) :
    Calls Tryd.prog 37 #[.agg (acells a), .pointer (some ⟨g1, 0, none⟩), .pointer (some ⟨g2, 0, none⟩)] w fun e w' => e = .returned (.bool (hit run s a)) ∧ Below w.heap.size w w' := by
  have C := fun w' => aname_any a w' h1 h2
  unfold hit
  go_enter Tryd.func37, Tryd.ntmps37
  repeat' ((fail_if_success at_builtin); (first | go_skip | go_guarded | go_step))
  obtain ⟨hb, hz, c0, c1, c2, c3, c4, c5, c6, c7⟩ := abox w a 30
  have d1 := (hb.cell (p := ⟨g1, 0, none⟩) l1).trans e1
  have d2 := (hb.cell (p := ⟨g2, 0, none⟩) l2).trans e2
  generalize w.alloc (.cells (acells a) 30) = w1 at *
  have k0 : w.heap.size < w1.heap.size := by omega
  have k1 : g1 < w1.heap.size := by omega
  have k2 : g2 < w1.heap.size := by omega
  clear e1 e2
  cases hv : (a.run.toList == run.toList) with
  | false =>
    go_quiet (fail)
    repeat' ((fail_if_success at_builtin); (first | go_skip | go_guarded | go_step))
    go_ret
    exact ⟨by rw [hv]; rfl, hb.trans (Below.mono (below_drewN _ _) hb.size)⟩
  | true =>
    go_region_held3 (fun w' => Below w1.heap.size w1 w' ∧ w'.cell? ⟨w.heap.size, 0, none⟩ = some (.string a.run) ∧ w'.cell? ⟨w.heap.size, 1, none⟩ = some (.string a.job) ∧ w'.cell? ⟨w.heap.size, 2, none⟩ = some (.int .i64 a.att) ∧ w'.cell? ⟨w.heap.size, 3, none⟩ = some (.string a.nm) ∧ w'.cell? ⟨w.heap.size, 4, none⟩ = some (.int .u64 a.dig) ∧ w'.cell? ⟨w.heap.size, 5, none⟩ = some (.int .i64 a.size) ∧ w'.cell? ⟨w.heap.size, 6, none⟩ = some (.int .i64 a.created) ∧ w'.cell? ⟨w.heap.size, 7, none⟩ = some (.int .i64 a.expires) ∧ w'.cell? ⟨g1, 0, none⟩ = some (.string run) ∧ w'.cell? ⟨g2, 0, none⟩ = some (.string s))
      (first | exact ⟨(Below.refl _ _).drew, c0, c1, c2, c3, c4, c5, c6, c7, d1, d2⟩ | exact ⟨(Below.refl _ _).drew.trans (hbq.mono (Nat.le_refl _)), (hbq.cell (p := ⟨w.heap.size, 0, none⟩) k0).trans c0, (hbq.cell (p := ⟨w.heap.size, 1, none⟩) k0).trans c1, (hbq.cell (p := ⟨w.heap.size, 2, none⟩) k0).trans c2, (hbq.cell (p := ⟨w.heap.size, 3, none⟩) k0).trans c3, (hbq.cell (p := ⟨w.heap.size, 4, none⟩) k0).trans c4, (hbq.cell (p := ⟨w.heap.size, 5, none⟩) k0).trans c5, (hbq.cell (p := ⟨w.heap.size, 6, none⟩) k0).trans c6, (hbq.cell (p := ⟨w.heap.size, 7, none⟩) k0).trans c7, (hbq.cell (p := ⟨g1, 0, none⟩) k1).trans d1, (hbq.cell (p := ⟨g2, 0, none⟩) k2).trans d2⟩)
      (first | (go_at_call 33; refine (C _).mono ?_; rintro e w7 ⟨rfl, hbq⟩; dsimp only))
    all_goals
      repeat' ((fail_if_success at_builtin); (first | go_skip | go_guarded | go_step))
      go_ret
      exact ⟨by rw [hv]; rfl, hb.trans (Below.mono ((Below.refl _ _).drew.trans (hbq.mono (Nat.le_refl _))) hb.size)⟩
set_option maxRecDepth 100000 in
set_option maxHeartbeats 800000 in
theorem idx_any (run s : ByteArray) (l : List Art) (A : Option Addr) (c : Nat) (w : World) (B : Nat) (g1 g2 : Nat) (hB : B ≤ w.heap.size) (hs : Seq w B 8 A l.length (l.flatMap acl)) (hl : l.length ≤ 1000000) (hsh : ∀ a ∈ l, Shrt a)
    (l1 : g1 < w.heap.size) (l2 : g2 < w.heap.size) (e1 : w.cell? ⟨g1, 0, none⟩ = some (.string run)) (e2 : w.cell? ⟨g2, 0, none⟩ = some (.string s)) :
    Calls Tryd.prog 36 #[.slice A l.length c, .func (.func 37) #[] #[.pointer (some ⟨g1, 0, none⟩), .pointer (some ⟨g2, 0, none⟩)]] w fun e w' => e = .returned (.int .i64 (fnd run s l)) ∧ Below w.heap.size w w' := by
  have q1 := fun (w' : World) (hb : Below w.heap.size w w') => (hb.cell (p := ⟨g1, 0, none⟩) l1).trans e1
  have q2 := fun (w' : World) (hb : Below w.heap.size w w') => (hb.cell (p := ⟨g2, 0, none⟩) l2).trans e2
  have Hsh := Lib.hid hsh
  have C := fun (x : Art) (w' : World) (hx : x ∈ l) (hb : Below w.heap.size w w') => find1_any x run s g1 g2 w' (hsh x hx).2.1 (hsh x hx).2.2 (Nat.lt_of_lt_of_le l1 hb.size) (Nat.lt_of_lt_of_le l2 hb.size) (q1 w' hb) (q2 w' hb)
  replace C := Lib.hid C
  clear q1 q2 e1 e2 hsh
  go_enter Tryd.func36, Tryd.ntmps36
  repeat' ((fail_if_success at_builtin); (first | go_skip | go_guarded | go_step))
  go_loopw [8] (fun u8 wr => ∃ i : Nat, i ≤ l.length ∧ u8 = .int .i64 (i : Int) ∧ Below w.heap.size w wr ∧ ∀ j y, j < i → l[j]? = some y → hit run s y = false) (fun u8 _ => l.length - (intOf u8).toNat)
  case atStart => exact ⟨0, by omega, rfl, Below.refl _ _, fun j y hj => absurd hj (by omega)⟩
  case round =>
    obtain ⟨i, hi, rfl, hbr, hno⟩ := hrel
    by_cases hlt : i < l.length
    · have hmem : l[i] ∈ l := List.getElem_mem hlt
      obtain ⟨b, o, rfl, hbB, hcell⟩ := hs.2 (by omega)
      have hci : l[i]? = some l[i] := List.getElem?_eq_getElem hlt
      have hcell' := fun j u hu => (hbr.cell (p := ⟨b, o + (i * 8 + j), none⟩) (by dsimp only; omega)).trans (hcell (i * 8 + j) u (flat_at acl_len hci hu))
      clear hcell
      generalize l[i] = x at *
      have e0 := hcell' 0 _ rfl
      have e1 := hcell' 1 _ rfl
      have e2 := hcell' 2 _ rfl
      have e3 := hcell' 3 _ rfl
      have e4 := hcell' 4 _ rfl
      have e5 := hcell' 5 _ rfl
      have e6 := hcell' 6 _ rfl
      have e7 := hcell' 7 _ rfl
      simp only [← Nat.add_assoc, Nat.add_zero] at e0 e1 e2 e3 e4 e5 e6 e7
      clear hcell'
      have i0 : (0 : Int) ≤ (i : Int) := by omega
      have i1 : (i : Int) < (l.length : Int) := by omega
      have hn2 : hit run s x = false → ∀ j y, j < i + 1 → l[j]? = some y → hit run s y = false := by
        intro hx j y hj hy
        by_cases h : j < i
        · exact hno j y h hy
        · obtain rfl : j = i := by omega
          rw [hci] at hy; cases hy; exact hx
      have hf2 : hit run s x = true → fnd run s l = i := fun hx => fnd_some hci hx hno
      replace hn2 := Lib.hid hn2
      replace hf2 := Lib.hid hf2
      clear hno hci
      repeat' ((fail_if_success at_builtin); (first | go_skip | go_guarded | go_step))
      refine (C.out x wr hmem hbr).mono ?_
      rintro e w7 ⟨rfl, hb7⟩
      have hbb := hbr.trans (hb7.mono hbr.size)
      dsimp only
      cases hv : hit run s x with
      | true =>
        repeat' ((fail_if_success at_builtin); (first | go_skip | go_guarded | go_step))
        go_ret
        exact ⟨by rw [hf2.out hv]; rfl, hbb⟩
      | false =>
        repeat' ((fail_if_success at_builtin); (first | go_skip | go_guarded | go_step))
        go_roundw
        case rel => exact ⟨i + 1, by omega, by go_num, hbb, hn2.out hv⟩
        case measure => simp [intOf]; omega
    · have hf2 : fnd run s l = -1 := fnd_none fun j y hj => hno j y (by omega)
      replace hf2 := Lib.hid hf2
      clear hno
      repeat' ((fail_if_success at_builtin); (first | go_skip | go_guarded | go_step))
      go_ret
      exact ⟨by rw [hf2.out]; rfl, hbr⟩
end Go.Proofs.YtclinbpkcmcokaaDoor
