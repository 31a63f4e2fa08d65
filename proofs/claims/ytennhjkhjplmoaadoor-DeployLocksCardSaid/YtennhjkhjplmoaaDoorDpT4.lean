/- Deploy: Locks: bounds; a box that nothing lies in. -/
import Derived.Test.YtennhjkhjplmoaaDoorDpT3
import Derived.Test.YtennhjkhjplmoaaDoorDpLb
namespace Go.Proofs.YtennhjkhjplmoaaDoor
open Go.RowKit
/-- names are small -/
def smallN (t : Turn) : Prop := t.holder.size ≤ 1 ∧ ∀ x ∈ t.waiting, x.size ≤ 1
theorem small_bE : (bE).size ≤ 1 := by decide
theorem small_exp {p : Turn × Turn} {j : ByteArray} (h1 : smallN p.1) (h2 : smallN p.2) (hj : j.size ≤ 1) : ∀ (m : Nat) (k : Bool), smallN (expT m k j p).1.1 ∧ smallN (expT m k j p).1.2 := by
  have hsel : ∀ k, smallN (selT k p) := fun k => by cases k <;> first | exact h1 | exact h2
  have hupd : ∀ (k : Bool) (t : Turn), smallN t → smallN (updT k p t).1 ∧ smallN (updT k p t).2 := fun k t ht => by cases k <;> first | exact ⟨ht, h2⟩ | exact ⟨h1, ht⟩
  have hlv : ∀ t : Turn, smallN t → smallN (leaveT j t) := fun t ht => by
    refine ⟨?_, fun x hx => ht.2 x ((List.mem_filter.1 hx).1)⟩
    show (if eqB t.holder j = true then bE else t.holder).size ≤ 1
    split
    · exact small_bE
    · exact ht.1
  intro m k
  match m with
  | 0 =>
    show smallN (if busyT p j = true then (p, false) else (updT k p ⟨(selT k p).holder, (selT k p).waiting ++ [j], (selT k p).held⟩, true)).1.1 ∧ smallN (if busyT p j = true then (p, false) else (updT k p ⟨(selT k p).holder, (selT k p).waiting ++ [j], (selT k p).held⟩, true)).1.2
    split
    · exact ⟨h1, h2⟩
    · exact hupd k _ ⟨(hsel k).1, fun x hx => by
        rcases List.mem_append.1 hx with hx | hx
        · exact (hsel k).2 x hx
        · rw [List.mem_singleton] at hx; rw [hx]; exact hj⟩
  | 1 =>
    show smallN (if (eqB (selT k p).holder bE && headB (selT k p).waiting j) = false then (p, false) else (updT k p ⟨j, (selT k p).waiting.drop 1, (selT k p).held ++ [j]⟩, true)).1.1 ∧ smallN (if (eqB (selT k p).holder bE && headB (selT k p).waiting j) = false then (p, false) else (updT k p ⟨j, (selT k p).waiting.drop 1, (selT k p).held ++ [j]⟩, true)).1.2
    split
    · exact ⟨h1, h2⟩
    · exact hupd k _ ⟨hj, fun x hx => (hsel k).2 x (List.mem_of_mem_drop hx)⟩
  | 2 =>
    show smallN (if eqB p.1.holder j = true then ((⟨bE, p.1.waiting, p.1.held⟩, p.2), true) else if eqB p.2.holder j = true then ((p.1, ⟨bE, p.2.waiting, p.2.held⟩), true) else (p, false)).1.1 ∧ smallN (if eqB p.1.holder j = true then ((⟨bE, p.1.waiting, p.1.held⟩, p.2), true) else if eqB p.2.holder j = true then ((p.1, ⟨bE, p.2.waiting, p.2.held⟩), true) else (p, false)).1.2
    split
    · exact ⟨⟨small_bE, h1.2⟩, h2⟩
    · split
      · exact ⟨h1, ⟨small_bE, h2.2⟩⟩
      · exact ⟨h1, h2⟩
  | n + 3 => exact ⟨hlv _ h1, hlv _ h2⟩
theorem goL_le {K : Nat} : ∀ {l : List Env}, (∀ x ∈ l, x.waiting.length ≤ K) → (goL l).length ≤ l.length * (K + 1)
  | [], _ => Nat.zero_le _
  | x :: l, h => by
    have h1 := h x (List.mem_cons_self ..)
    have h2 := goL_le (K := K) (l := l) (fun y hy => h y (List.mem_cons_of_mem _ hy))
    have h3 := goE_len x
    show (goE x ++ goL l).length ≤ _
    rw [List.length_append, List.length_cons, Nat.add_mul, Nat.one_mul]
    omega
/-- what the invariant bounds -/
structure BndI (es : List Env) (p : Turn × Turn) : Prop where
  len : es.length ≤ 2
  name : ∀ x ∈ es, x.name.size ≤ 4
  wait : ∀ x ∈ es, x.waiting.length ≤ 60
  hist : ∀ x ∈ es, x.history.length ≤ 60
  ok : ∀ x ∈ es, EnvOk x
  w1 : p.1.waiting.length ≤ 60
  w2 : p.2.waiting.length ≤ 60
  h1 : p.1.held.length ≤ 60
  h2 : p.2.held.length ≤ 60
theorem BndI.EW {es : List Env} {p : Turn × Turn} (h : BndI es p) : EW es := ⟨by have := h.len; omega, fun x hx => ⟨by have := h.name x hx; omega, by have := h.wait x hx; omega, by have := h.hist x hx; omega⟩⟩
theorem BndI.go {es : List Env} {p : Turn × Turn} (h : BndI es p) : (goL es).length ≤ 1000000 := by
  have h1 := goL_le h.wait
  have h2 := h.len
  have h3 : es.length * (60 + 1) ≤ 2 * (60 + 1) := Nat.mul_le_mul_right _ h2
  omega
theorem inv_bnd {s0 s1 : ByteArray} (hs0 : s0.size ≤ 4) (hs1 : s1.size ≤ 4) {i : Nat} (hi : i ≤ 60) {es : List Env} {p : Turn × Turn} (h : Inv s0 s1 i es p) (n1 : smallN p.1) (n2 : smallN p.2) : BndI es p := by
  obtain ⟨f0, f1, h0, h1, rfl, k0, k1, _⟩ := h
  have hml : (1 : Nat) ≤ maxLen := by unfold maxLen; omega
  have rok : ∀ j : ByteArray, j.size ≤ 1 → RefOk (rOf j) := fun j hj => ⟨hml, Nat.le_trans hj hml⟩
  have hok : ∀ t : Turn, smallN t → RefOk (hOf t.holder) := fun t ht => by
    unfold hOf
    split
    · exact ⟨Nat.zero_le _, Nat.zero_le _⟩
    · exact rok _ ht.1
  have one : ∀ (f : Bool) (s : ByteArray) (t : Turn) (g : List Dep), OkT i f t g → s.size ≤ 4 → smallN t → (envs f s t g).length ≤ 1 ∧ ∀ x ∈ envs f s t g, x.name.size ≤ 4 ∧ x.waiting.length ≤ 60 ∧ x.history.length ≤ 60 ∧ EnvOk x := fun f s t g ok hs hn => by
    cases f with
    | false => exact ⟨Nat.zero_le _, fun x hx => (by cases hx)⟩
    | true =>
      refine ⟨Nat.le_refl _, fun x hx => ?_⟩
      have hx' : x = mkE s t g := List.mem_singleton.1 hx
      subst hx'
      have a1 := ok.hl
      have a2 := ok.hi
      have a3 := ok.wl
      refine ⟨hs, ?_, ?_, hok t hn, fun y hy => ?_⟩
      · show (t.waiting.map rOf).length ≤ 60
        rw [List.length_map]; omega
      · show g.length ≤ 60
        omega
      · obtain ⟨z, hz, rfl⟩ := List.mem_map.1 hy
        exact rok z (hn.2 z hz)
  obtain ⟨a1, a2⟩ := one f0 s0 p.1 h0 k0 hs0 n1
  obtain ⟨b1, b2⟩ := one f1 s1 p.2 h1 k1 hs1 n2
  have all : ∀ x ∈ envs f0 s0 p.1 h0 ++ envs f1 s1 p.2 h1, x.name.size ≤ 4 ∧ x.waiting.length ≤ 60 ∧ x.history.length ≤ 60 ∧ EnvOk x := fun x hx => by
    rcases List.mem_append.1 hx with hx | hx
    · exact a2 x hx
    · exact b2 x hx
  have := k0.hi
  have := k0.wl
  have := k1.hi
  have := k1.wl
  exact ⟨by rw [List.length_append]; omega, fun x hx => (all x hx).1, fun x hx => (all x hx).2.1, fun x hx => (all x hx).2.2.1, fun x hx => (all x hx).2.2.2, by omega, by omega, by omega, by omega⟩
/-- block g ends at k -/
def EndAt (w : World) (g k : Nat) : Prop := ∀ o, k ≤ o → w.cell? ⟨g, o, none⟩ = none
theorem EndAt.new (w : World) (cs : Array Value) (t : TypeId) : EndAt (w.alloc (.cells cs t)) w.heap.size cs.size := fun o ho => by simp [go_sem, ho]
theorem EndAt.up {w w' : World} {g k : Nat} (h : EndAt w g k) (hg : g < w.heap.size) (hb : Below w.heap.size w w') : EndAt w' g k := fun o ho => (hb.cell (p := ⟨g, o, none⟩) hg).trans (h o ho)
theorem EndAt.set {w : World} {g k j : Nat} {v : Value} (h : EndAt w g k) (hj : j < k) : EndAt (w.setCell ⟨g, j, none⟩ v) g k := fun o ho => (World.cell?_setCell_other w _ _ _ (by intro e; injection e with _ e; omega)).trans (h o ho)
/-- no two strings one after another in block g -/
def NoTwo (w : World) (g : Nat) : Prop := ∀ o u v, w.cell? ⟨g, o, none⟩ = some (.string u) → w.cell? ⟨g, o + 1, none⟩ = some (.string v) → False
theorem two_no {w : World} {g : Nat} {A1 A2 B1 B2 : Option Addr} {n1 c1 n2 c2 m1 d1 m2 d2 : Nat} (h1 : w.cell? ⟨g, 1, none⟩ = some (.slice A1 n1 c1)) (h2 : w.cell? ⟨g, 2, none⟩ = some (.slice A2 n2 c2)) (h4 : w.cell? ⟨g, 4, none⟩ = some (.slice B1 m1 d1)) (h5 : w.cell? ⟨g, 5, none⟩ = some (.slice B2 m2 d2)) (he : EndAt w g 6) : NoTwo w g := by
  intro o u v a b
  rcases Nat.lt_or_ge o 6 with ho | ho
  · have : o = 0 ∨ o = 1 ∨ o = 2 ∨ o = 3 ∨ o = 4 ∨ o = 5 := by omega
    rcases this with rfl | rfl | rfl | rfl | rfl | rfl
    · rw [h1] at b; injection b with b; injection b
    · rw [h1] at a; injection a with a; injection a
    · rw [h2] at a; injection a with a; injection a
    · rw [h4] at b; injection b with b; injection b
    · rw [h4] at a; injection a with a; injection a
    · rw [h5] at a; injection a with a; injection a
  · rw [he o ho] at a; cases a
/-- a list whose elements' cells can't lie in some block -/
theorem RSlice.shun {α : Type} {r : Rd α} {sz : Nat} {w : World} {S S' : Nat → Prop} {A : Option Addr} {n c : Nat} {l : List α} (hr : ∀ x cs, r w S x cs → r w S' x cs) (hS : ∀ b o x cs, S b → r w S x cs → (∀ j u, cs[j]? = some u → w.cell? ⟨b, o + j, none⟩ = some u) → S' b) (h : RSlice r sz w S A n c l) : RSlice r sz w S' A n c l := by
  obtain ⟨h1, h2, h3, cs, ⟨h4, h5⟩, h6⟩ := h
  refine ⟨h1, h2, h3, cs, ⟨h4, fun hp => ?_⟩, RList.map hr h6⟩
  obtain ⟨b, o, hA, hb, hc⟩ := h5 hp
  cases l with
  | nil => rw [← h1] at hp; cases hp
  | cons x l =>
    obtain ⟨c1, c2, rfl, _, hx, _⟩ := h6
    exact ⟨b, o, hA, hS b o x c1 hb hx (fun j u hu => hc j u (by rw [List.getElem?_append_left (List.getElem?_eq_some_iff.1 hu).1]; exact hu)), hc⟩
theorem env_shun {w : World} {g : Nat} (hn : NoTwo w g) {A : Option Addr} {n c : Nat} {l : List Env} (h : RSlice rEnv 5 w (fun b => b < w.heap.size) A n c l) : RSlice rEnv 5 w (fun b => b < w.heap.size ∧ b ≠ g) A n c l := by
  have two : ∀ (b o : Nat) (x y : ByteArray), b < w.heap.size → w.cell? ⟨b, o + 0, none⟩ = some (.string x) → w.cell? ⟨b, o + 1, none⟩ = some (.string y) → b < w.heap.size ∧ b ≠ g := fun b o x y hb h0 h1 => ⟨hb, fun e => by subst e; exact hn o x y h0 h1⟩
  refine RSlice.shun ?_ ?_ h
  · rintro x cs ⟨A1, c1, A2, c2, rfl, h1, h2⟩
    refine ⟨A1, c1, A2, c2, rfl, RSlice.shun (S := fun b => b < w.heap.size) (fun _ _ h => h) ?_ h1, RSlice.shun (S := fun b => b < w.heap.size) (fun _ _ h => h) ?_ h2⟩
    · rintro b o y cs hb rfl hc
      exact two b o _ _ hb (hc 0 _ rfl) (hc 1 _ rfl)
    · rintro b o y cs hb rfl hc
      exact two b o _ _ hb (hc 0 _ rfl) (hc 1 _ rfl)
  · rintro b o x cs hb ⟨A1, c1, A2, c2, rfl, h1, h2⟩ hc
    exact two b o _ _ hb (hc 0 _ rfl) (hc 1 _ rfl)
/-- a call: three small numbers -/
structure CallV where
  k : Nat
  p : Nat
  j : Nat
def rCall : Rd CallV := fun _ _ x cs => cs = [.int .u8 (x.k : Int), .int .u8 (x.p : Int), .int .u8 (x.j : Int)]
theorem rCall_ok : RdOk rCall := fun _ _ _ _ _ _ _ _ h => h
theorem call_at {w : World} {S : Nat → Prop} {A : Option Addr} {n c i : Nat} {l : List CallV} {x : CallV} (h : RSlice rCall 3 w S A n c l) (hx : l[i]? = some x) : ∃ b o, A = some ⟨b, o, none⟩ ∧ S b ∧ w.cell? ⟨b, o + i * 3, none⟩ = some (.int .u8 (x.k : Int)) ∧ w.cell? ⟨b, o + i * 3 + 1, none⟩ = some (.int .u8 (x.p : Int)) ∧ w.cell? ⟨b, o + i * 3 + 2, none⟩ = some (.int .u8 (x.j : Int)) := by
  obtain ⟨b, o, cs, hA, hb, _, rfl, hc⟩ := h.at_ hx
  exact ⟨b, o, hA, hb, hc 0 _ rfl, hc 1 _ rfl, hc 2 _ rfl⟩
end Go.Proofs.YtennhjkhjplmoaaDoor
