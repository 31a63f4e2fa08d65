/- What is valid, and any sequence of calls, as plain lists. No program in sight. -/
import Derived.Test.YtennhjkhjplmoaaDoorDpP
namespace Go.Proofs.YtennhjkhjplmoaaDoor
open Go.RowKit
/-- does a reference occur twice -/
def dupR : List Ref → Bool
  | [] => false
  | x :: l => hasR l x || dupR l
theorem dupR_nodup : ∀ {l : List Ref}, dupR l = false ↔ l.Nodup
  | [] => by simp [dupR]
  | x :: l => by
    rw [show dupR (x :: l) = (hasR l x || dupR l) from rfl, Bool.or_eq_false_iff, hasR_not, dupR_nodup, List.nodup_cons]
/-- the error of a deployment that follows one at a time -/
def depO (last : Int) (d : Dep) : Int := if (properR d.ref && (d.st == 1 || d.st == 2)) = false then 1 else if d.at_ < 0 ∨ 1125899906842624 < d.at_ then 2 else if d.at_ < last then 22 else 0
def depsF (last : Int) : List Dep → Int
  | [] => 0
  | d :: t => if depO last d = 0 then depsF d.at_ t else depO last d
def histF (h : List Dep) : Int := if 64 < h.length then 15 else depsF 0 h
def holdOk (x : Env) : Bool := (eqR x.holder zR || properR x.holder) && x.waiting.all properR
def ordF (pre : List Env) (x : Env) : Bool := match pre.getLast? with
  | none => false
  | some y => decide (0 ≤ cmpN y.name.data.toList x.name.data.toList)
/-- the error of an environment that follows others -/
def envF (pre : List Env) (x : Env) : Int :=
  if nameS x.name.data.toList = false then 1
  else if ordF pre x = true then 22
  else if holdOk x = false then 1
  else if dupR (refsL (pre ++ [x])) = true then 7
  else histF x.history
def validF (pre : List Env) : List Env → Int
  | [] => 0
  | x :: t => if envF pre x = 0 then validF (pre ++ [x]) t else envF pre x
def validL (l : List Env) : Int := validF [] l
theorem valid_at {l : List Env} {i : Nat} {x : Env} (hx : l[i]? = some x) : validF (l.take i) (l.drop i) = if envF (l.take i) x = 0 then validF (l.take (i + 1)) (l.drop (i + 1)) else envF (l.take i) x := by
  have hi := (List.getElem?_eq_some_iff.1 hx).1
  rw [List.drop_eq_getElem_cons hi, (List.getElem?_eq_some_iff.1 hx).2, List.take_add_one, hx]
  rfl
theorem valid_end {l : List Env} {i : Nat} (h : l.length ≤ i) : validF (l.take i) (l.drop i) = 0 := by
  rw [List.drop_of_length_le h]; rfl
def lastAt (h : List Dep) : Nat → Int
  | 0 => 0
  | i + 1 => (h[i]?.getD zD).at_
theorem deps_at {h : List Dep} {i : Nat} {d : Dep} (hx : h[i]? = some d) : depsF (lastAt h i) (h.drop i) = if depO (lastAt h i) d = 0 then depsF (lastAt h (i + 1)) (h.drop (i + 1)) else depO (lastAt h i) d := by
  have hi := (List.getElem?_eq_some_iff.1 hx).1
  rw [List.drop_eq_getElem_cons hi, (List.getElem?_eq_some_iff.1 hx).2, show lastAt h (i + 1) = d.at_ from by show (h[i]?.getD zD).at_ = _; rw [hx]; rfl]
  rfl
theorem deps_end {h : List Dep} {i : Nat} (hi : h.length ≤ i) : depsF (lastAt h i) (h.drop i) = 0 := by
  rw [List.drop_of_length_le hi]; rfl
theorem deps_ok : ∀ {h : List Dep} {last : Int}, (∀ d ∈ h, properR d.ref = true ∧ (d.st == 1 || d.st == 2) = true ∧ 0 ≤ d.at_ ∧ d.at_ ≤ 1125899906842624 ∧ last ≤ d.at_) → h.Pairwise (fun a b => a.at_ ≤ b.at_) → depsF last h = 0
  | [], _, _, _ => rfl
  | d :: t, last, h, hp => by
    obtain ⟨h1, h2, h3, h4, h5⟩ := h d (List.mem_cons_self ..)
    have e : depO last d = 0 := by
      unfold depO
      rw [if_neg (by rw [h1, h2]; simp), if_neg (by omega), if_neg (by omega)]
    unfold depsF
    rw [if_pos e]
    rw [List.pairwise_cons] at hp
    exact deps_ok (fun x hx => by
      obtain ⟨a1, a2, a3, a4, _⟩ := h x (List.mem_cons_of_mem _ hx)
      exact ⟨a1, a2, a3, a4, hp.1 x hx⟩) hp.2
/- any sequence of calls -/
def bE : ByteArray := ⟨#[]⟩
def rOf (j : ByteArray) : Ref := ⟨⟨#[114]⟩, j⟩
def hOf (j : ByteArray) : Ref := if eqB j bE = true then zR else rOf j
structure Turn where
  holder : ByteArray
  waiting : List ByteArray
  held : List ByteArray
def hasB (l : List ByteArray) (j : ByteArray) : Bool := l.any fun x => eqB x j
def busyT (p : Turn × Turn) (j : ByteArray) : Bool := eqB p.1.holder j || eqB p.2.holder j || hasB p.1.waiting j || hasB p.2.waiting j
def headB (l : List ByteArray) (j : ByteArray) : Bool := match l with
  | [] => false
  | x :: _ => eqB x j
def selT {α : Type} (k : Bool) (p : α × α) : α := if k then p.2 else p.1
def updT {α : Type} (k : Bool) (p : α × α) (t : α) : α × α := if k then (p.1, t) else (t, p.2)
def outB (l : List ByteArray) (j : ByteArray) : List ByteArray := l.filter fun x => !eqB x j
def leaveT (j : ByteArray) (t : Turn) : Turn := ⟨if eqB t.holder j = true then bE else t.holder, outB t.waiting j, t.held⟩
/-- what a call should do to two environments, and whether it should succeed -/
def expT (kind : Nat) (k : Bool) (j : ByteArray) (p : Turn × Turn) : (Turn × Turn) × Bool := match kind with
  | 0 => if busyT p j = true then (p, false) else (updT k p ⟨(selT k p).holder, (selT k p).waiting ++ [j], (selT k p).held⟩, true)
  | 1 => if (eqB (selT k p).holder bE && headB (selT k p).waiting j) = false then (p, false) else (updT k p ⟨j, (selT k p).waiting.drop 1, (selT k p).held ++ [j]⟩, true)
  | 2 => if eqB p.1.holder j = true then ((⟨bE, p.1.waiting, p.1.held⟩, p.2), true) else if eqB p.2.holder j = true then ((p.1, ⟨bE, p.2.waiting, p.2.held⟩), true) else (p, false)
  | _ => ((leaveT j p.1, leaveT j p.2), true)
/-- what the calls do to a list -/
def opL (kind : Nat) (s j : ByteArray) (i : Nat) (es : List Env) : List Env × Int := match kind with
  | 0 => reqL es s (rOf j)
  | 1 => lockL es s (rOf j)
  | 2 => finL es ⟨rOf j, 1, i, 1⟩
  | _ => (abL es (rOf j), 0)
def mkE (s : ByteArray) (t : Turn) (h : List Dep) : Env := ⟨s, hOf t.holder, t.waiting.map rOf, h⟩
def envs (f : Bool) (s : ByteArray) (t : Turn) (h : List Dep) : List Env := if f then [mkE s t h] else []
def namesT (t : Turn) : List ByteArray := (if eqB t.holder bE = true then [] else [t.holder]) ++ t.waiting
structure OkT (i : Nat) (f : Bool) (t : Turn) (h : List Dep) : Prop where
  off : f = false → t.holder = bE ∧ t.waiting = [] ∧ h = []
  wt : ∀ x ∈ t.waiting, x ≠ bE
  hl : h.length + (if eqB t.holder bE = true then 0 else 1) ≤ t.held.length
  hi : t.held.length ≤ i
  wl : t.waiting.length ≤ i
  dep : ∀ d ∈ h, properR d.ref = true ∧ (d.st == 1 || d.st == 2) = true ∧ 0 ≤ d.at_ ∧ d.at_ < i
  asc : h.Pairwise (fun a b => a.at_ ≤ b.at_)
def Inv (s0 s1 : ByteArray) (i : Nat) (es : List Env) (p : Turn × Turn) : Prop :=
  ∃ f0 f1 h0 h1, es = envs f0 s0 p.1 h0 ++ envs f1 s1 p.2 h1 ∧ OkT i f0 p.1 h0 ∧ OkT i f1 p.2 h1 ∧ (namesT p.1 ++ namesT p.2).Nodup
theorem eqB_ne {a b : ByteArray} : eqB a b = false ↔ a ≠ b := by rw [← Bool.not_eq_true, eqB_iff]
theorem eqB_self (a : ByteArray) : eqB a a = true := eqB_iff.2 rfl
theorem rOf_inj {a b : ByteArray} (h : rOf a = rOf b) : a = b := by injection h
theorem eqR_rOf (a b : ByteArray) : eqR (rOf a) (rOf b) = eqB a b := by
  unfold eqR rOf
  rw [eqB_self]; rfl
theorem proper_rOf {j : ByteArray} (h : j ≠ bE) : properR (rOf j) = true := by
  have h1 : eqB (⟨#[114]⟩ : ByteArray) ⟨#[]⟩ = false := eqB_ne.2 (by intro h; injection h with h; cases h)
  have h2 : eqB j ⟨#[]⟩ = false := eqB_ne.2 h
  unfold properR rOf
  rw [h1, h2]; rfl
theorem hOf_rOf {a j : ByteArray} (h : j ≠ bE) : eqR (hOf a) (rOf j) = eqB a j := by
  unfold hOf
  by_cases h1 : eqB a bE = true
  · rw [if_pos h1, proper_ne (proper_rOf h), eqB_iff.1 h1]
    exact (eqB_ne.2 (fun e => h e.symm)).symm
  · rw [if_neg h1, eqR_rOf]
theorem hOf_zR (a : ByteArray) : eqR (hOf a) zR = eqB a bE := by
  unfold hOf
  cases h1 : eqB a bE with
  | true => rw [if_pos rfl]; exact eqR_self _
  | false =>
    rw [if_neg (by simp), eqR_ne]
    intro e
    have := proper_rOf (eqB_ne.1 h1)
    rw [e, proper_zR] at this
    cases this
theorem has_rOf (l : List ByteArray) (j : ByteArray) : hasR (l.map rOf) (rOf j) = hasB l j := by
  unfold hasR hasB
  rw [List.any_map]
  congr 1
  funext x
  exact eqR_rOf x j
theorem hasB_iff {l : List ByteArray} {j : ByteArray} : hasB l j = true ↔ j ∈ l := by
  unfold hasB
  rw [List.any_eq_true]
  exact ⟨fun ⟨x, hx, e⟩ => by rw [← eqB_iff.1 e]; exact hx, fun h => ⟨j, h, eqB_self j⟩⟩
theorem hasB_not {l : List ByteArray} {j : ByteArray} : hasB l j = false ↔ j ∉ l := by rw [← Bool.not_eq_true, hasB_iff]
theorem head_rOf (l : List ByteArray) (j : ByteArray) : headR (l.map rOf) (rOf j) = headB l j := by
  cases l with
  | nil => rfl
  | cons x l => exact eqR_rOf x j
theorem busy_mk {s : ByteArray} {t : Turn} {h : List Dep} {j : ByteArray} (hj : j ≠ bE) : busyE (rOf j) (mkE s t h) = (eqB t.holder j || hasB t.waiting j) := by
  show (eqR (hOf t.holder) (rOf j) || hasR (t.waiting.map rOf) (rOf j)) = _
  rw [hOf_rOf hj, has_rOf]
theorem busy_envs {i : Nat} {f : Bool} {s : ByteArray} {t : Turn} {h : List Dep} {j : ByteArray} (hj : j ≠ bE) (ok : OkT i f t h) : (envs f s t h).any (busyE (rOf j)) = (eqB t.holder j || hasB t.waiting j) := by
  cases f with
  | true =>
    show (busyE (rOf j) (mkE s t h) || false) = _
    rw [Bool.or_false, busy_mk hj]
  | false =>
    obtain ⟨h1, h2, _⟩ := ok.off rfl
    rw [h1, h2, eqB_ne.2 (fun e => hj e.symm)]
    rfl
theorem notbusy_names {t : Turn} {j : ByteArray} (h : (eqB t.holder j || hasB t.waiting j) = false) : j ∉ namesT t := by
  rw [Bool.or_eq_false_iff] at h
  have h1 := eqB_ne.1 h.1
  have h2 := hasB_not.1 h.2
  unfold namesT
  intro hm
  rcases List.mem_append.1 hm with h3 | h3
  · split at h3
    · cases h3
    · rw [List.mem_singleton] at h3
      exact h1 h3.symm
  · exact h2 h3
theorem refs_mk (s : ByteArray) (t : Turn) (h : List Dep) : refsE (mkE s t h) = (namesT t).map rOf := by
  unfold refsE namesT mkE
  dsimp only
  rw [hOf_zR, List.map_append]
  congr 1
  unfold hOf
  cases eqB t.holder bE <;> rfl
theorem nodup_rOf {l : List ByteArray} (h : l.Nodup) : dupR (l.map rOf) = false := by
  rw [dupR_nodup]
  exact List.Pairwise.map rOf (fun a b hab e => hab (rOf_inj e)) h
theorem holdOk_mk {i : Nat} {f : Bool} {s : ByteArray} {t : Turn} {h : List Dep} (ok : OkT i f t h) : holdOk (mkE s t h) = true := by
  unfold holdOk mkE
  dsimp only
  rw [hOf_zR, Bool.and_eq_true]
  constructor
  · cases h1 : eqB t.holder bE with
    | true => rfl
    | false =>
      unfold hOf
      rw [h1, if_neg (by simp), proper_rOf (eqB_ne.1 h1)]
      rfl
  · rw [List.all_map, List.all_eq_true]
    intro x hx
    exact proper_rOf (ok.wt x hx)
theorem hist_mk {i : Nat} {f : Bool} {t : Turn} {h : List Dep} (hi : i ≤ 60) (ok : OkT i f t h) : histF h = 0 := by
  have := ok.hl
  have := ok.hi
  unfold histF
  rw [if_neg (by omega)]
  exact deps_ok (fun d hd => by
    obtain ⟨a, b, c, e⟩ := ok.dep d hd
    exact ⟨a, b, c, by omega, c⟩) ok.asc
section
variable {s0 s1 : ByteArray}
theorem inv_valid (n0 : nameS s0.data.toList = true) (n1 : nameS s1.data.toList = true) (c01 : cmpN s0.data.toList s1.data.toList < 0) {i : Nat} (hi : i ≤ 60) {es : List Env} {p : Turn × Turn} (h : Inv s0 s1 i es p) : validL es = 0 := by
  obtain ⟨f0, f1, h0, h1, rfl, k0, k1, hd⟩ := h
  have one : ∀ {f : Bool} {s : ByteArray} {t : Turn} {g : List Dep} {pre : List Env}, nameS s.data.toList = true → ordF pre (mkE s t g) = false → OkT i f t g → dupR (refsL (pre ++ [mkE s t g])) = false → envF pre (mkE s t g) = 0 := by
    intro f s t g pre a1 a2 a3 a4
    unfold envF
    rw [if_neg (by show ¬ nameS s.data.toList = false; rw [a1]; simp), if_neg (by rw [a2]; simp), if_neg (by rw [holdOk_mk a3]; simp), if_neg (by rw [a4]; simp)]
    exact hist_mk hi a3
  have r1 : ∀ (s : ByteArray) (t : Turn) (g : List Dep), (namesT t).Nodup → dupR (refsL ([] ++ [mkE s t g])) = false := fun s t g hn => by
    show dupR (refsE (mkE s t g) ++ []) = false
    rw [List.append_nil, refs_mk]
    exact nodup_rOf hn
  have d0 := (List.nodup_append.1 hd).1
  have d1 := (List.nodup_append.1 hd).2.1
  cases f0 <;> cases f1
  · rfl
  · show validF [] [mkE s1 p.2 h1] = 0
    unfold validF
    rw [if_pos (one n1 rfl k1 (r1 _ _ _ d1))]
    rfl
  · show validF [] [mkE s0 p.1 h0] = 0
    unfold validF
    rw [if_pos (one n0 rfl k0 (r1 _ _ _ d0))]
    rfl
  · show validF [] [mkE s0 p.1 h0, mkE s1 p.2 h1] = 0
    unfold validF
    rw [if_pos (one n0 rfl k0 (r1 _ _ _ d0))]
    unfold validF
    rw [if_pos (one n1 (by show decide _ = false; exact decide_eq_false (by show ¬ 0 ≤ cmpN s0.data.toList s1.data.toList; omega)) k1 (by
      show dupR (refsE (mkE s0 p.1 h0) ++ (refsE (mkE s1 p.2 h1) ++ [])) = false
      rw [List.append_nil, refs_mk, refs_mk, ← List.map_append]
      exact nodup_rOf hd))]
    rfl
/-- the environment of a name -/
theorem inv_sel (h01 : eqB s0 s1 = false) (h10 : eqB s1 s0 = false) (f : Bool × Bool) (p : Turn × Turn) (h : List Dep × List Dep) (k : Bool) :
    (selT k f = true → (envs f.1 s0 p.1 h.1 ++ envs f.2 s1 p.2 h.2)[posA (nameE (selT k (s0, s1))) (envs f.1 s0 p.1 h.1 ++ envs f.2 s1 p.2 h.2)]? = some (mkE (selT k (s0, s1)) (selT k p) (selT k h)) ∧
      ∀ t g, (envs f.1 s0 p.1 h.1 ++ envs f.2 s1 p.2 h.2).set (posA (nameE (selT k (s0, s1))) (envs f.1 s0 p.1 h.1 ++ envs f.2 s1 p.2 h.2)) (mkE (selT k (s0, s1)) t g) = envs f.1 s0 (updT k p t).1 (updT k h g).1 ++ envs f.2 s1 (updT k p t).2 (updT k h g).2) ∧
    (selT k f = false → (envs f.1 s0 p.1 h.1 ++ envs f.2 s1 p.2 h.2)[posA (nameE (selT k (s0, s1))) (envs f.1 s0 p.1 h.1 ++ envs f.2 s1 p.2 h.2)]? = none) := by
  have e0 : ∀ s t g, nameE s (mkE s0 t g) = eqB s0 s := fun _ _ _ => rfl
  have e1 : ∀ s t g, nameE s (mkE s1 t g) = eqB s1 s := fun _ _ _ => rfl
  obtain ⟨f0, f1⟩ := f
  cases k <;> cases f0 <;> cases f1 <;> simp [selT, updT, envs, posA, e0, e1, h01, h10, eqB_self]
theorem OkT.up {i : Nat} {f : Bool} {t : Turn} {h : List Dep} (ok : OkT i f t h) : OkT (i + 1) f t h :=
  ⟨ok.off, ok.wt, ok.hl, Nat.le_succ_of_le ok.hi, Nat.le_succ_of_le ok.wl, fun d hd => by obtain ⟨a, b, c, e⟩ := ok.dep d hd; exact ⟨a, b, c, by omega⟩, ok.asc⟩
theorem Inv.up {i : Nat} {es : List Env} {p : Turn × Turn} (h : Inv s0 s1 i es p) : Inv s0 s1 (i + 1) es p := by
  obtain ⟨f0, f1, h0, h1, a, b, c, d⟩ := h
  exact ⟨f0, f1, h0, h1, a, b.up, c.up, d⟩
theorem inv_put (k : Bool) {i : Nat} {f : Bool × Bool} {p : Turn × Turn} {h : List Dep × List Dep} (k0 : OkT i f.1 p.1 h.1) (k1 : OkT i f.2 p.2 h.2) (t : Turn) (g : List Dep) (fl : Bool) (hk : OkT (i + 1) fl t g) (hn : (namesT (updT k p t).1 ++ namesT (updT k p t).2).Nodup) : Inv s0 s1 (i + 1) (envs (updT k f fl).1 s0 (updT k p t).1 (updT k h g).1 ++ envs (updT k f fl).2 s1 (updT k p t).2 (updT k h g).2) (updT k p t) := by
  refine ⟨(updT k f fl).1, (updT k f fl).2, (updT k h g).1, (updT k h g).2, rfl, ?_, ?_, hn⟩
  · cases k
    · exact hk
    · exact k0.up
  · cases k
    · exact k1.up
    · exact hk
theorem upd_same {α : Type} (k : Bool) (p : α × α) : updT k p (selT k p) = p := by cases k <;> rfl
theorem names_put (k : Bool) {p : Turn × Turn} {t : Turn} (hs : (namesT t).Sublist (namesT (selT k p))) (hn : (namesT p.1 ++ namesT p.2).Nodup) : (namesT (updT k p t).1 ++ namesT (updT k p t).2).Nodup := by
  cases k
  · exact hn.sublist (hs.append (List.Sublist.refl _))
  · exact hn.sublist ((List.Sublist.refl _).append hs)
theorem sim_req (h01 : eqB s0 s1 = false) (h10 : eqB s1 s0 = false) (c01 : 0 < cmpN s1.data.toList s0.data.toList) (c10 : ¬ 0 < cmpN s0.data.toList s1.data.toList) (n0 : nameS s0.data.toList = true) (n1 : nameS s1.data.toList = true) (k : Bool) {i : Nat} {es : List Env} {p : Turn × Turn} {j : ByteArray} (hj : j ≠ bE) (h : Inv s0 s1 i es p) :
    ((reqL es (selT k (s0, s1)) (rOf j)).2 == 0) = (expT 0 k j p).2 ∧ Inv s0 s1 (i + 1) (reqL es (selT k (s0, s1)) (rOf j)).1 (expT 0 k j p).1 := by
  have hI := h
  obtain ⟨f0, f1, h0, h1, rfl, k0, k1, hd⟩ := h
  have hb : (envs f0 s0 p.1 h0 ++ envs f1 s1 p.2 h1).any (busyE (rOf j)) = busyT p j := by
    rw [List.any_append, busy_envs hj k0, busy_envs hj k1]
    unfold busyT
    cases eqB p.1.holder j <;> cases eqB p.2.holder j <;> cases hasB p.1.waiting j <;> cases hasB p.2.waiting j <;> rfl
  have hnm : (nameS (selT k (s0, s1)).data.toList && properR (rOf j)) = true := by
    rw [proper_rOf hj]
    cases k
    · show (nameS s0.data.toList && true) = true
      rw [n0]; rfl
    · show (nameS s1.data.toList && true) = true
      rw [n1]; rfl
  unfold reqL
  rw [if_neg (by rw [hnm]; simp), hb, show expT 0 k j p = if busyT p j = true then (p, false) else (updT k p ⟨(selT k p).holder, (selT k p).waiting ++ [j], (selT k p).held⟩, true) from rfl]
  cases hbz : busyT p j with
  | true =>
    rw [if_pos rfl, if_pos rfl]
    exact ⟨rfl, hI.up⟩
  | false =>
    rw [if_neg (by simp), if_neg (by simp)]
    have hf := inv_sel h01 h10 (f0, f1) p (h0, h1) k
    have hb0 : (eqB p.1.holder j || hasB p.1.waiting j) = false ∧ (eqB p.2.holder j || hasB p.2.waiting j) = false := by
      unfold busyT at hbz
      simp only [Bool.or_eq_false_iff] at hbz ⊢
      obtain ⟨⟨⟨a, b⟩, c⟩, d⟩ := hbz
      exact ⟨⟨a, c⟩, b, d⟩
    have hn0 := notbusy_names hb0.1
    have hn1 := notbusy_names hb0.2
    have hN : (namesT (updT k p ⟨(selT k p).holder, (selT k p).waiting ++ [j], (selT k p).held⟩).1 ++ namesT (updT k p ⟨(selT k p).holder, (selT k p).waiting ++ [j], (selT k p).held⟩).2).Nodup := by
      have hp : (j :: (namesT p.1 ++ namesT p.2)).Nodup := List.nodup_cons.2 ⟨fun hm => by
        rcases List.mem_append.1 hm with hm | hm
        · exact hn0 hm
        · exact hn1 hm, hd⟩
      have ha : ∀ t : Turn, namesT ⟨t.holder, t.waiting ++ [j], t.held⟩ = namesT t ++ [j] := fun t => (List.append_assoc _ _ _).symm
      refine (List.Perm.nodup_iff ?_).1 hp
      cases k
      · show List.Perm (j :: (namesT p.1 ++ namesT p.2)) (namesT ⟨p.1.holder, p.1.waiting ++ [j], p.1.held⟩ ++ namesT p.2)
        rw [ha, List.append_assoc]
        exact List.perm_middle.symm
      · show List.Perm (j :: (namesT p.1 ++ namesT p.2)) (namesT p.1 ++ namesT ⟨p.2.holder, p.2.waiting ++ [j], p.2.held⟩)
        rw [ha, ← List.append_assoc]
        exact (List.perm_append_singleton _ _).symm
    have hok : OkT i (selT k (f0, f1)) (selT k p) (selT k (h0, h1)) := by cases k <;> first | exact k0 | exact k1
    have hO : OkT (i + 1) true ⟨(selT k p).holder, (selT k p).waiting ++ [j], (selT k p).held⟩ (selT k (h0, h1)) := by
      refine ⟨fun h => (by cases h), fun x hx => ?_, hok.hl, Nat.le_succ_of_le hok.hi, ?_, hok.up.dep, hok.asc⟩
      · rcases List.mem_append.1 hx with hx | hx
        · exact hok.wt x hx
        · rw [List.mem_singleton] at hx
          rw [hx]; exact hj
      · have := hok.wl
        simp
        exact this
    have hI2 := inv_put (s0 := s0) (s1 := s1) k (f := (f0, f1)) (h := (h0, h1)) k0 k1 _ _ true hO hN
    cases hfk : selT k (f0, f1) with
    | true =>
      obtain ⟨a, b⟩ := hf.1 hfk
      rw [a]
      refine ⟨rfl, ?_⟩
      have e : askE (rOf j) (mkE (selT k (s0, s1)) (selT k p) (selT k (h0, h1))) = mkE (selT k (s0, s1)) ⟨(selT k p).holder, (selT k p).waiting ++ [j], (selT k p).held⟩ (selT k (h0, h1)) := by
        unfold askE mkE
        rw [List.map_append]; rfl
      show Inv s0 s1 (i + 1) (List.set _ _ (askE _ _)) _
      rw [e, b]
      rw [← hfk, upd_same] at hI2
      exact hI2
    | false =>
      have a := hf.2 hfk
      rw [a]
      refine ⟨rfl, ?_⟩
      obtain ⟨z1, z2, z3⟩ := hok.off hfk
      have e0 : ∀ s t g, aftE s (mkE s0 t g) = decide (0 < cmpN s0.data.toList s.data.toList) := fun _ _ _ => rfl
      have e1 : ∀ s t g, aftE s (mkE s1 t g) = decide (0 < cmpN s1.data.toList s.data.toList) := fun _ _ _ => rfl
      have eq : (⟨selT k (s0, s1), zR, [rOf j], []⟩ : Env) = mkE (selT k (s0, s1)) ⟨(selT k p).holder, (selT k p).waiting ++ [j], (selT k p).held⟩ (selT k (h0, h1)) := by
        unfold mkE
        rw [z1, z2, z3]
        have : hOf bE = zR := by unfold hOf; rw [if_pos (eqB_self _)]
        rw [this]; rfl
      dsimp only
      rw [eq]
      generalize hT : (⟨(selT k p).holder, (selT k p).waiting ++ [j], (selT k p).held⟩ : Turn) = T at *
      clear hO hN hT eq
      cases k
      · have hf0 : f0 = false := hfk
        subst hf0
        have hg : h0 = [] := z3
        subst hg
        cases f1 with
        | false => exact hI2
        | true =>
          have : posA (aftE s0) (envs false s0 p.1 [] ++ envs true s1 p.2 h1) = 0 := by simp [envs, posA, e1, c01]
          show Inv _ _ _ (List.take (posA (aftE s0) _) _ ++ _ :: List.drop (posA (aftE s0) _) _) _
          rw [this]
          exact hI2
      · have hf1 : f1 = false := hfk
        subst hf1
        have hg : h1 = [] := z3
        subst hg
        cases f0 with
        | false => exact hI2
        | true =>
          have : posA (aftE s1) (envs true s0 p.1 h0 ++ envs false s1 p.2 []) = 1 := by simp [envs, posA, e0, c10]
          show Inv _ _ _ (List.take (posA (aftE s1) _) _ ++ _ :: List.drop (posA (aftE s1) _) _) _
          rw [this]
          exact hI2
theorem sim_lock (h01 : eqB s0 s1 = false) (h10 : eqB s1 s0 = false) (k : Bool) {i : Nat} {es : List Env} {p : Turn × Turn} {j : ByteArray} (hj : j ≠ bE) (h : Inv s0 s1 i es p) :
    ((lockL es (selT k (s0, s1)) (rOf j)).2 == 0) = (expT 1 k j p).2 ∧ Inv s0 s1 (i + 1) (lockL es (selT k (s0, s1)) (rOf j)).1 (expT 1 k j p).1 := by
  have hI := h
  obtain ⟨f0, f1, h0, h1, rfl, k0, k1, hd⟩ := h
  have hf := inv_sel h01 h10 (f0, f1) p (h0, h1) k
  have hok : OkT i (selT k (f0, f1)) (selT k p) (selT k (h0, h1)) := by cases k <;> first | exact k0 | exact k1
  unfold lockL
  rw [show expT 1 k j p = if (eqB (selT k p).holder bE && headB (selT k p).waiting j) = false then (p, false) else (updT k p ⟨j, (selT k p).waiting.drop 1, (selT k p).held ++ [j]⟩, true) from rfl]
  cases hfk : selT k (f0, f1) with
  | false =>
    rw [hf.2 hfk]
    obtain ⟨z1, z2, z3⟩ := hok.off hfk
    rw [z2, if_pos (by simp [headB])]
    exact ⟨rfl, hI.up⟩
  | true =>
    obtain ⟨a, b⟩ := hf.1 hfk
    rw [a]
    dsimp only
    have e1 : (mkE (selT k (s0, s1)) (selT k p) (selT k (h0, h1))).waiting = (selT k p).waiting.map rOf := rfl
    have e2 : eqR (mkE (selT k (s0, s1)) (selT k p) (selT k (h0, h1))).holder zR = eqB (selT k p).holder bE := hOf_zR _
    rw [e1, e2, has_rOf, head_rOf]
    cases hz : eqB (selT k p).holder bE with
    | false =>
      rw [Bool.false_and, if_pos rfl]
      cases hasB (selT k p).waiting j
      · exact ⟨rfl, hI.up⟩
      · exact ⟨rfl, hI.up⟩
    | true =>
      rw [Bool.true_and]
      cases hh : headB (selT k p).waiting j with
      | false =>
        rw [if_pos rfl]
        cases hasB (selT k p).waiting j
        · exact ⟨rfl, hI.up⟩
        · exact ⟨rfl, hI.up⟩
      | true =>
        have hw : hasB (selT k p).waiting j = true := by
          cases hl : (selT k p).waiting with
          | nil => rw [hl] at hh; cases hh
          | cons x l =>
            rw [hl] at hh
            have : eqB x j = true := hh
            unfold hasB
            rw [List.any_cons, this]; rfl
        rw [hw, if_neg (by simp), if_neg (by simp), if_neg (by simp), if_neg (by simp)]
        refine ⟨rfl, ?_⟩
        have hjb : eqB j bE = false := eqB_ne.2 hj
        have e : lockE (rOf j) (mkE (selT k (s0, s1)) (selT k p) (selT k (h0, h1))) = mkE (selT k (s0, s1)) ⟨j, (selT k p).waiting.drop 1, (selT k p).held ++ [j]⟩ (selT k (h0, h1)) := by
          unfold lockE mkE hOf
          dsimp only
          rw [hjb, if_neg (by simp), List.map_drop]
        show Inv s0 s1 (i + 1) (List.set _ _ (lockE _ _)) _
        rw [e, b]
        have hnn : namesT ⟨j, (selT k p).waiting.drop 1, (selT k p).held ++ [j]⟩ = namesT (selT k p) := by
          unfold namesT
          dsimp only
          rw [hz, if_pos rfl, hjb, if_neg (by simp)]
          cases hl : (selT k p).waiting with
          | nil => rw [hl] at hh; cases hh
          | cons x l =>
            rw [hl] at hh
            have : eqB x j = true := hh
            rw [eqB_iff.1 this]; rfl
        have hI2 := inv_put (s0 := s0) (s1 := s1) k (f := (f0, f1)) (h := (h0, h1)) k0 k1 ⟨j, (selT k p).waiting.drop 1, (selT k p).held ++ [j]⟩ (selT k (h0, h1)) true
          ⟨fun h => (by cases h), fun x hx => hok.wt x (List.mem_of_mem_drop hx), by
            have := hok.hl
            rw [hz, if_pos rfl] at this
            dsimp only
            rw [hjb, if_neg (by simp), List.length_append]
            simp
            omega, by
            have := hok.hi
            simp
            omega, by
            have := hok.wl
            simp
            omega, hok.up.dep, hok.asc⟩ (names_put k (by rw [hnn]; exact List.Sublist.refl _) hd)
        rw [← hfk, upd_same] at hI2
        exact hI2
theorem sim_fin_one (k : Bool) {i : Nat} {f : Bool × Bool} {p : Turn × Turn} {h : List Dep × List Dep} {j : ByteArray} (hj : j ≠ bE) (hi : i < 60) (k0 : OkT i f.1 p.1 h.1) (k1 : OkT i f.2 p.2 h.2) (hd : (namesT p.1 ++ namesT p.2).Nodup) (hh : (selT k p).holder = j) (hfk : selT k f = true) :
    finE ⟨rOf j, 1, i, 1⟩ (mkE (selT k (s0, s1)) (selT k p) (selT k h)) = mkE (selT k (s0, s1)) ⟨bE, (selT k p).waiting, (selT k p).held⟩ (selT k h ++ [⟨rOf j, 1, i, 1⟩]) ∧
    Inv s0 s1 (i + 1) (envs f.1 s0 (updT k p ⟨bE, (selT k p).waiting, (selT k p).held⟩).1 (updT k h (selT k h ++ [⟨rOf j, 1, i, 1⟩])).1 ++ envs f.2 s1 (updT k p ⟨bE, (selT k p).waiting, (selT k p).held⟩).2 (updT k h (selT k h ++ [⟨rOf j, 1, i, 1⟩])).2) (updT k p ⟨bE, (selT k p).waiting, (selT k p).held⟩) := by
  have hok : OkT i (selT k f) (selT k p) (selT k h) := by cases k <;> first | exact k0 | exact k1
  have hl := hok.hl
  have hl2 := hok.hi
  have hjb : eqB j bE = false := eqB_ne.2 hj
  rw [hh, hjb, if_neg (by simp)] at hl
  constructor
  · unfold finE mkE capH
    dsimp only
    rw [if_neg (by simp; omega)]
    have : hOf bE = zR := by unfold hOf; rw [if_pos (eqB_self _)]
    rw [this]
  · have hI2 := inv_put (s0 := s0) (s1 := s1) k (f := f) (h := h) k0 k1 ⟨bE, (selT k p).waiting, (selT k p).held⟩ (selT k h ++ [⟨rOf j, 1, i, 1⟩]) true
      ⟨fun h => (by cases h), hok.wt, by
        dsimp only
        rw [eqB_self, if_pos rfl, List.length_append]
        simp
        omega, by
        dsimp only
        omega, Nat.le_succ_of_le hok.wl, fun d hd => by
        rcases List.mem_append.1 hd with hd | hd
        · exact hok.up.dep d hd
        · rw [List.mem_singleton] at hd
          subst hd
          exact ⟨proper_rOf hj, rfl, by show (0 : Int) ≤ (i : Int); omega, by show (i : Int) < ((i + 1 : Nat) : Int); omega⟩, by
        rw [List.pairwise_append]
        refine ⟨hok.asc, List.pairwise_singleton _ _, fun a ha b hb => ?_⟩
        rw [List.mem_singleton] at hb
        subst hb
        have := (hok.dep a ha).2.2.2
        show a.at_ ≤ (i : Int)
        omega⟩ (names_put k (by
        unfold namesT
        dsimp only
        rw [eqB_self, if_pos rfl]
        exact List.sublist_append_right _ _) hd)
    have hu : updT k f true = f := by rw [← hfk]; exact upd_same k f
    rw [hu] at hI2
    exact hI2
theorem sim_fin {i : Nat} {es : List Env} {p : Turn × Turn} {j : ByteArray} (k : Bool) (hj : j ≠ bE) (hi : i < 60) (h : Inv s0 s1 i es p) :
    ((finL es ⟨rOf j, 1, i, 1⟩).2 == 0) = (expT 2 k j p).2 ∧ Inv s0 s1 (i + 1) (finL es ⟨rOf j, 1, i, 1⟩).1 (expT 2 k j p).1 := by
  have hI := h
  obtain ⟨f0, f1, h0, h1, rfl, k0, k1, hd⟩ := h
  have he : ∀ s t g, holdE (rOf j) (mkE s t g) = eqB t.holder j := fun s t g => hOf_rOf hj
  have F0 : (envs f0 s0 p.1 h0).any (holdE (rOf j)) = eqB p.1.holder j := by
    cases f0 with
    | true => simp [envs, he]
    | false =>
      rw [(k0.off rfl).1]
      exact (eqB_ne.2 (fun e => hj e.symm)).symm
  have F1 : (envs f1 s1 p.2 h1).any (holdE (rOf j)) = eqB p.2.holder j := by
    cases f1 with
    | true => simp [envs, he]
    | false =>
      rw [(k1.off rfl).1]
      exact (eqB_ne.2 (fun e => hj e.symm)).symm
  unfold finL
  rw [if_neg (by simp), if_neg (by show ¬ ((i : Int) < 0 ∨ 1125899906842624 < (i : Int)); omega), if_neg (by rw [proper_rOf hj]; simp)]
  rw [show expT 2 k j p = if eqB p.1.holder j = true then ((⟨bE, p.1.waiting, p.1.held⟩, p.2), true) else if eqB p.2.holder j = true then ((p.1, ⟨bE, p.2.waiting, p.2.held⟩), true) else (p, false) from rfl]
  dsimp only
  cases hh0 : eqB p.1.holder j with
  | true =>
    rw [if_pos rfl]
    cases f0 with
    | false => rw [hh0] at F0; cases F0
    | true =>
      obtain ⟨a, b⟩ := sim_fin_one (s0 := s0) (s1 := s1) false (f := (true, f1)) (h := (h0, h1)) hj hi k0 k1 hd (eqB_iff.1 hh0) rfl
      have hp : posA (holdE (rOf j)) (envs true s0 p.1 h0 ++ envs f1 s1 p.2 h1) = 0 := by simp [envs, posA, he, hh0]
      rw [hp]
      refine ⟨rfl, ?_⟩
      show Inv s0 s1 (i + 1) (finE _ (mkE s0 p.1 h0) :: envs f1 s1 p.2 h1) _
      have a' : finE ⟨rOf j, 1, i, 1⟩ (mkE s0 p.1 h0) = _ := a
      rw [a']
      exact b
  | false =>
    rw [if_neg (by simp)]
    cases hh1 : eqB p.2.holder j with
    | true =>
      rw [if_pos rfl]
      cases f1 with
      | false => rw [hh1] at F1; cases F1
      | true =>
        obtain ⟨a, b⟩ := sim_fin_one (s0 := s0) (s1 := s1) true (f := (f0, true)) (h := (h0, h1)) hj hi k0 k1 hd (eqB_iff.1 hh1) rfl
        have a' : finE ⟨rOf j, 1, i, 1⟩ (mkE s1 p.2 h1) = _ := a
        cases f0 with
        | false =>
          have hp : posA (holdE (rOf j)) (envs false s0 p.1 h0 ++ envs true s1 p.2 h1) = 0 := by simp [envs, posA, he, hh1]
          rw [hp]
          refine ⟨rfl, ?_⟩
          show Inv s0 s1 (i + 1) (finE _ (mkE s1 p.2 h1) :: []) _
          rw [a']
          exact b
        | true =>
          have hp : posA (holdE (rOf j)) (envs true s0 p.1 h0 ++ envs true s1 p.2 h1) = 1 := by simp [envs, posA, he, hh0, hh1]
          rw [hp]
          refine ⟨rfl, ?_⟩
          show Inv s0 s1 (i + 1) (mkE s0 p.1 h0 :: finE _ (mkE s1 p.2 h1) :: []) _
          rw [a']
          exact b
    | false =>
      rw [if_neg (by simp)]
      have : (envs f0 s0 p.1 h0 ++ envs f1 s1 p.2 h1)[posA (holdE (rOf j)) (envs f0 s0 p.1 h0 ++ envs f1 s1 p.2 h1)]? = none := by
        rw [List.getElem?_eq_none_iff]
        apply Nat.le_of_not_lt
        rw [posA_lt]
        intro ⟨x, hx, hv⟩
        have : (envs f0 s0 p.1 h0 ++ envs f1 s1 p.2 h1).any (holdE (rOf j)) = true := List.any_eq_true.2 ⟨x, hx, hv⟩
        rw [List.any_append, F0, F1, hh0, hh1] at this
        cases this
      rw [this]
      exact ⟨rfl, hI.up⟩
theorem sim_ab {i : Nat} {es : List Env} {p : Turn × Turn} {j : ByteArray} (hj : j ≠ bE) (h : Inv s0 s1 i es p) : Inv s0 s1 (i + 1) (abL es (rOf j)) (leaveT j p.1, leaveT j p.2) := by
  obtain ⟨f0, f1, h0, h1, rfl, k0, k1, hd⟩ := h
  have hm : ∀ s t g, leaveE (rOf j) (mkE s t g) = mkE s (leaveT j t) g := by
    intro s t g
    unfold leaveE mkE leaveT
    dsimp only
    rw [hOf_rOf hj]
    congr 1
    · cases hz : eqB t.holder j with
      | true =>
        rw [if_pos rfl, if_pos rfl]
        unfold hOf
        rw [if_pos (eqB_self _)]
      | false => rw [if_neg (by simp), if_neg (by simp)]
    · unfold outB
      rw [List.filter_map]
      congr 1
      apply List.filter_congr
      intro x _
      show (!eqR (rOf x) (rOf j)) = _
      rw [eqR_rOf]
  have he : ∀ f s t g, (envs f s t g).map (leaveE (rOf j)) = envs f s (leaveT j t) g := by
    intro f s t g
    cases f
    · rfl
    · show [leaveE (rOf j) (mkE s t g)] = _
      rw [hm]; rfl
  have ok : ∀ {f t g}, OkT i f t g → OkT (i + 1) f (leaveT j t) g := by
    intro f t g k
    refine ⟨fun hf => ?_, fun x hx => k.wt x (List.mem_filter.1 hx).1, ?_, Nat.le_succ_of_le k.hi, Nat.le_trans (List.length_filter_le _ _) (Nat.le_succ_of_le k.wl), k.up.dep, k.asc⟩
    · obtain ⟨a, b, c⟩ := k.off hf
      unfold leaveT outB
      rw [a, b]
      exact ⟨by dsimp only; rw [eqB_ne.2 (fun e => hj e.symm)]; rfl, rfl, c⟩
    · have h1 := k.hl
      unfold leaveT
      dsimp only
      cases hz : eqB t.holder j with
      | true =>
        rw [if_pos rfl, eqB_self, if_pos rfl]
        omega
      | false =>
        have e : (if false = true then bE else t.holder) = t.holder := if_neg (by simp)
        rw [e]
        exact h1
  have sb : ∀ t, (namesT (leaveT j t)).Sublist (namesT t) := by
    intro t
    unfold namesT leaveT outB
    dsimp only
    refine List.Sublist.append ?_ List.filter_sublist
    cases hz : eqB t.holder j with
    | true =>
      rw [if_pos rfl, eqB_self, if_pos rfl]
      exact List.nil_sublist _
    | false =>
      have e : (if false = true then bE else t.holder) = t.holder := if_neg (by simp)
      rw [e]
      exact List.Sublist.refl _
  exact ⟨f0, f1, h0, h1, by unfold abL; rw [List.map_append, he, he], ok k0, ok k1, hd.sublist ((sb _).append (sb _))⟩
theorem sim_all (h01 : eqB s0 s1 = false) (h10 : eqB s1 s0 = false) (c01 : 0 < cmpN s1.data.toList s0.data.toList) (c10 : ¬ 0 < cmpN s0.data.toList s1.data.toList) (n0 : nameS s0.data.toList = true) (n1 : nameS s1.data.toList = true) (kind : Nat) (k : Bool) {i : Nat} {es : List Env} {p : Turn × Turn} {j : ByteArray} (hj : j ≠ bE) (hi : i < 60) (h : Inv s0 s1 i es p) :
    ((opL kind (selT k (s0, s1)) j i es).2 == 0) = (expT kind k j p).2 ∧ Inv s0 s1 (i + 1) (opL kind (selT k (s0, s1)) j i es).1 (expT kind k j p).1 := by
  match kind with
  | 0 => exact sim_req h01 h10 c01 c10 n0 n1 k hj h
  | 1 => exact sim_lock h01 h10 k hj h
  | 2 => exact sim_fin k hj hi h
  | n + 3 => exact ⟨rfl, sim_ab hj h⟩
theorem inv_fits (h01 : eqB s0 s1 = false) (h10 : eqB s1 s0 = false) (k : Bool) {i : Nat} {es : List Env} {p : Turn × Turn} (h : Inv s0 s1 i es p) :
    (∀ x, es[posA (nameE (selT k (s0, s1))) es]? = some x → x.holder.job = (selT k p).holder ∧ x.waiting = (selT k p).waiting.map rOf ∧ x.history.length ≤ (selT k p).held.length) ∧
    (es[posA (nameE (selT k (s0, s1))) es]? = none → (selT k p).holder = bE ∧ (selT k p).waiting = []) := by
  obtain ⟨f0, f1, h0, h1, rfl, k0, k1, hd⟩ := h
  have hf := inv_sel h01 h10 (f0, f1) p (h0, h1) k
  have hok : OkT i (selT k (f0, f1)) (selT k p) (selT k (h0, h1)) := by cases k <;> first | exact k0 | exact k1
  cases hfk : selT k (f0, f1) with
  | true =>
    obtain ⟨a, _⟩ := hf.1 hfk
    rw [a]
    refine ⟨fun x hx => ?_, fun h => (by cases h)⟩
    injection hx with hx
    subst hx
    refine ⟨?_, rfl, ?_⟩
    · show (hOf (selT k p).holder).job = _
      unfold hOf
      split
      · rename_i h; rw [eqB_iff.1 h]; rfl
      · rfl
    · have := hok.hl
      show (selT k (h0, h1)).length ≤ _
      omega
  | false =>
    rw [hf.2 hfk]
    refine ⟨fun x hx => (by cases hx), fun _ => ?_⟩
    obtain ⟨a, b, _⟩ := hok.off hfk
    exact ⟨a, b⟩
end
end Go.Proofs.YtennhjkhjplmoaaDoor
