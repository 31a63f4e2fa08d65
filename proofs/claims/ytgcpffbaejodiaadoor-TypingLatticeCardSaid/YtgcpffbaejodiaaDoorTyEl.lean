/- Types as plain data: a list or a map fits a type exactly if its elements fit the element type. No program in sight. -/
import Derived.Test.YtgcpffbaejodiaaDoorTyOf
namespace Go.Proofs.YtgcpffbaejodiaaDoor
theorem ownV_up {f : Nat} {v : Vl} (h : ownV (f + 1) v = 0) : ownV (f + 2) v = 0 := by
 unfold ownV at h ⊢
 rw [if_neg (by omega)] at h ⊢
 by_cases c1 : v.kind < 0 ∨ 5 < v.kind ∨ unusedV v = false
 ·
  rw [if_pos c1] at h; cases h
 ·
  rw [if_neg c1] at h ⊢
  by_cases c2 : v.int < -9007199254740992 ∨ 9007199254740992 < v.int
  ·
   rw [if_pos c2] at h; cases h
  ·
   rw [if_neg c2] at h ⊢
   by_cases c3 : 4096 < v.str.size ∨ 1024 < v.list.length ∨ 1024 < v.keys.length
   ·
    rw [if_pos c3] at h; cases h
   ·
    rw [if_neg c3] at h ⊢
    by_cases c4 : v.kind = 5 ∧ keyedV v = false
    ·
     rw [if_pos c4] at h; cases h
    ·
     rw [if_neg c4] at h ⊢
     rw [if_neg (by omega)]
theorem chkV_up : ∀ (f : Nat) (v : Vl), chkV f v = 0 → chkV (f + 1) v = 0
 | 0, _, h => by cases h
 | f + 1, v, h => by
  obtain ⟨ho, hel⟩ := chkV_own h
  show (if ownV (f + 2) v ≠ 0 then ownV (f + 2) v else firstE (v.list.map (chkV (f + 1)))) = 0
  rw [if_neg (by rw [ownV_up ho]; simp)]
  exact firstE_all fun e he => by
   obtain ⟨x, hx, rfl⟩ := List.mem_map.1 he
   exact chkV_up f x (hel x hx)
theorem findV_up : ∀ (f : Nat) (v : Vl), chkV f v = 0 → findV (f + 1) v = findV f v
 | 0, _, h => by cases h
 | f + 1, v, h => by
  obtain ⟨_, hel⟩ := chkV_own h
  have hm : v.list.map (findV (f + 1)) = v.list.map (findV f) := List.map_congr_left fun x hx => findV_up f x (hel x hx)
  show (if v.kind = 0 then VT.base 1 else if v.kind = 1 then .base 2 else if v.kind = 2 then .base 3 else if v.kind = 3 then .base 4 else .of (if v.kind = 4 then 5 else 6) ((v.list.map (findV (f + 1))).foldl VT.join (.base 7))) = _
  rw [hm]
  rfl
theorem el_valid {v : Vl} (h : validV v = 0) {x : Vl} (hx : x ∈ v.list) : validV x = 0 ∧ findV 16 x = findV 15 x := by
 have h15 := (chkV_own (f := 15) h).2 x hx
 exact ⟨chkV_up 15 x h15, findV_up 15 x h15⟩
theorem sub_join_iff {a b c : VT} (ha : a.Ok) (hb : b.Ok) (hc : c.Ok) : VT.sub (VT.join a b) c = (VT.sub a c && VT.sub b c) := by
 have hj := VT.join_ok ha hb
 rw [Bool.eq_iff_iff, Bool.and_eq_true]
 constructor
 ·
  intro h
  refine ⟨VT.sub_trans ha hj hc (VT.sub_join_left ha hb) h, VT.sub_trans hb hj hc ?_ h⟩
  rw [VT.join_comm ha hb]
  exact VT.sub_join_left hb ha
 ·
  rintro ⟨h1, h2⟩
  rw [VT.sub_join ha hc] at h1
  rw [VT.sub_join hb hc] at h2
  rw [VT.sub_join hj hc, VT.join_assoc, h2, h1]
theorem sub_fold {c : VT} (hc : c.Ok) : ∀ {l : List VT} {a : VT}, (∀ x ∈ l, x.Ok) → a.Ok → VT.sub (l.foldl VT.join a) c = (VT.sub a c && l.all fun x => VT.sub x c)
 | [], a, _, _ => by simp
 | x :: l, a, hl, ha => by
  have hx := hl x (List.mem_cons_self ..)
  show VT.sub (l.foldl VT.join (VT.join a x)) c = _
  rw [sub_fold hc (fun y hy => hl y (List.mem_cons_of_mem _ hy)) (VT.join_ok ha hx), sub_join_iff ha hx hc, List.all_cons, Bool.and_assoc]
theorem sub_never : ∀ c : VT, VT.sub (.base 7) c = true
 | .base _ => rfl
 | .of _ _ => rfl
theorem subS_of {a b : VT} (ha : a.Ok) (hb : b.Ok) (hda : a.depth ≤ 16) (hdb : b.depth ≤ 16) : subS (ofV a) (ofV b) = VT.sub a b := by
 unfold subS
 rw [okV_of ha hda, okV_of hb hdb]
theorem fitsS_eq {v : Vl} (hv : validV v = 0) {b : VT} (hb : b.Ok) (hd : b.depth ≤ 16) : fitsS v (ofV b) = VT.sub (findV 16 v) b := by
 unfold fitsS
 rw [decide_eq_true hv, Bool.true_and, subS_of (findV_ok 16 v) hb (findV_depth 16 v hv) hd]
theorem findV_nest {v : Vl} {K : Nat} (hk : (K = 5 ∧ v.kind = 4) ∨ (K = 6 ∧ v.kind = 5)) : findV 16 v = .of K ((v.list.map (findV 15)).foldl VT.join (.base 7)) := by
 show (if v.kind = 0 then VT.base 1 else if v.kind = 1 then .base 2 else if v.kind = 2 then .base 3 else if v.kind = 3 then .base 4 else .of (if v.kind = 4 then 5 else 6) ((v.list.map (findV 15)).foldl VT.join (.base 7))) = _
 rcases hk with ⟨rfl, h⟩ | ⟨rfl, h⟩ <;> rw [h] <;> rfl
theorem fits_of {v : Vl} (hv : validV v = 0) {K : Nat} (hk : (K = 5 ∧ v.kind = 4) ∨ (K = 6 ∧ v.kind = 5)) {e : VT} (he : (VT.of K e).Ok) (hd : (VT.of K e).depth ≤ 16) : fitsS v (ofV (.of K e)) = v.list.all fun x => fitsS x (ofV e) := by
 have hde : e.depth ≤ 16 := by have : (VT.of K e).depth = e.depth + 1 := rfl; omega
 rw [fitsS_eq hv he hd, findV_nest hk]
 show (K == K && VT.sub _ e) = _
 rw [beq_self_eq_true, Bool.true_and, sub_fold he.2 (fun x hx => by
  obtain ⟨y, _, rfl⟩ := List.mem_map.1 hx
  exact findV_ok 15 y) never_ok, sub_never, Bool.true_and, List.all_map]
 rw [Bool.eq_iff_iff, List.all_eq_true, List.all_eq_true]
 refine ⟨fun h x hx => ?_, fun h x hx => ?_⟩
 ·
  have hx2 := el_valid hv hx
  rw [fitsS_eq hx2.1 he.2 hde, hx2.2]
  exact h x hx
 ·
  have hx2 := el_valid hv hx
  have := h x hx
  rw [fitsS_eq hx2.1 he.2 hde, hx2.2] at this
  exact this
theorem fits_other {v : Vl} (hv : validV v = 0) {K : Nat} (hk : (K = 5 ∧ v.kind = 4) ∨ (K = 6 ∧ v.kind = 5)) {b : VT} (hb : b.Ok) (hd : b.depth ≤ 16) (hne : b.kind ≠ K) : fitsS v (ofV b) = ((b.kind : Int) == 0) := by
 rw [fitsS_eq hv hb hd, findV_nest hk]
 cases b with
 | base k =>
  show (k == 0) = ((k : Int) == 0)
  rw [Bool.eq_iff_iff]
  simp
 | of j f =>
  show (K == j && _) = ((j : Int) == 0)
  have h1 : (K == j) = false := by
   rw [beq_eq_false_iff_ne]
   exact fun e => hne e.symm
  have h2 : ((j : Int) == 0) = false := by
   have := hb.1
   simp
   omega
  rw [h1, h2, Bool.false_and]
theorem of_kind {b : VT} {K : Nat} (hb : b.Ok) (hK : K = 5 ∨ K = 6) (h : b.kind = K) : ∃ e, b = .of K e := by
 cases b with
 | base k =>
  have h2 : k = K := h
  have := hb.2
  omega
 | of j f => exact ⟨f, by rw [show j = K from h]⟩
theorem all_take {l : List Vl} {i : Nat} {x : Vl} (p : Vl → Bool) (h : l[i]? = some x) : (l.take (i + 1)).all p = ((l.take i).all p && p x) := by
 rw [List.take_add_one, h]
 simp
end Go.Proofs.YtgcpffbaejodiaaDoor
