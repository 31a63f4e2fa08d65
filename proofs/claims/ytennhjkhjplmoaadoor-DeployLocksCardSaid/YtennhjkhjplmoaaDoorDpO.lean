/- Deploy: find. Deploy: Clone. Deploy: environments of the call's own. -/
import Derived.Test.YtennhjkhjplmoaaDoorDpI
namespace Go.Proofs.YtennhjkhjplmoaaDoor
open Go.RowKit
set_option maxRecDepth 100000 in
set_option maxHeartbeats 2000000 in
theorem find_any (l : List Env) (s : ByteArray) (A : Option Addr) (n c : Nat) (w : World) (h : Envs w A n c l) :
    Calls Tryd.prog 40 #[.slice A n c, .string s] w fun e w' => e = .returned (.int .i64 (posI (nameE s) l)) ∧ Below w.heap.size w w' := by
  have hb0 := (Below.refl w.heap.size w).alloc (Nat.le_refl _) (.cells #[.string s] 9)
  have q0 := (CellsAt.new w #[.string s] 9).cell 0 _ rfl
  have zz : w.heap.size < (w.alloc (.cells #[.string s] 9)).heap.size := by simp
  have C := idxE_any 76 w.heap.size (enters_of Tryd.func76 (by kernel_rfl) rfl) (nameE s) l A n c _ (h.below hb0)
    (fun x _ A1 c1 A2 c2 w' hb => find1_any x A1 c1 A2 c2 s w.heap.size w' ((hb.cell (p := ⟨w.heap.size, 0, none⟩) zz).trans q0))
  generalize posI (nameE s) l = q at C
  go_enter Tryd.func40, Tryd.ntmps40
  go_upto_region 1 with (fail)
  generalize World.alloc w _ = w1 at *
  replace C := Lib.hid C
  repeat' ((fail_if_success at_builtin); (first | go_skip | go_guarded | go_step))
  refine C.out.mono ?_
  clear C
  rintro e w2 ⟨rfl, hb1⟩
  dsimp only
  repeat' ((fail_if_success at_builtin); (first | go_skip | go_guarded | go_step))
  go_ret
  exact ⟨rfl, hb0.trans (hb1.mono hb0.size)⟩
set_option maxRecDepth 100000 in
set_option maxHeartbeats 2000000 in
theorem rindex_any (l : List Env) (s : ByteArray) (A : Option Addr) (n c : Nat) (w : World) (h : Envs w A n c l) :
    Calls Tryd.prog 48 #[.slice A n c, .string s] w fun e w' => e = .returned (.int .i64 (posI (nameE s) l)) ∧ w' = w := by
  go_enter Tryd.func48, Tryd.ntmps48
  have hn := h.n
  have hl := h.len
  replace hn := Lib.hid hn
  repeat' ((fail_if_success at_builtin); (first | go_skip | go_guarded | go_step))
  go_loopw [5] (fun u8 wr => ∃ i : Nat, i ≤ n ∧ u8 = .int .i64 (i : Int) ∧ wr = w ∧ posA (nameE s) l = i + posA (nameE s) (l.drop i)) (fun u8 _ => n - (intOf u8).toNat)
  case atStart => exact ⟨0, by omega, rfl, rfl, by simp⟩
  case round =>
    obtain ⟨i, hi, rfl, rfl, hp⟩ := hrel
    replace hp := Lib.hid hp
    have i0 : (0 : Int) ≤ (i : Int) := by omega
    have i2 : IntKind.i64.wrap ((i : Int) + 1) = (i : Int) + 1 := IntWalk.i64_in _ (by have := hn.out; omega)
    by_cases hlt : i < n
    · have i1 : (i : Int) < (n : Int) := by omega
      obtain ⟨x, hx⟩ : ∃ x, l[i]? = some x := ⟨_, List.getElem?_eq_getElem (by have := hn.out; omega)⟩
      obtain ⟨g, o, A1, c1, A2, c2, rfl, hg, hS⟩ := env_at h.rd hx
      have e0 := hS.e0
      clear hS
      replace hx := Lib.hid hx
      cases hv : nameE s x with
      | true =>
        have hr := posA_hit hx.out hp.out hv
        replace hr := Lib.hid hr
        have hv2 : (x.name.toList == s.toList) = true := hv
        clear hv
        repeat' ((fail_if_success at_builtin); (first | go_skip | go_guarded | go_step))
        go_ret
        exact ⟨by rw [hr.out]; rfl, rfl⟩
      | false =>
        have hr := posA_miss hx.out hp.out hv
        replace hr := Lib.hid hr
        have hv2 : (x.name.toList == s.toList) = false := hv
        clear hv
        repeat' ((fail_if_success at_builtin); (first | go_skip | go_guarded | go_step))
        go_roundw
        case rel => exact ⟨i + 1, by omega, by first | rfl | go_num, by first | rfl | trivial, hr.out⟩
        case measure => (try go_num); (try simp [intOf]); (try omega)
    · have i1 : ¬ (i : Int) < (n : Int) := by omega
      have hr := posA_end (by rw [hn.out]; omega) hp.out
      replace hr := Lib.hid hr
      repeat' ((fail_if_success at_builtin); (first | go_skip | go_guarded | go_step))
      go_ret
      exact ⟨by rw [hr.out]; rfl, rfl⟩
end Go.Proofs.YtennhjkhjplmoaaDoor
namespace Go.Proofs.YtennhjkhjplmoaaDoor
open Go.RowKit
theorem RSlice.nil_len {α : Type} {r : Rd α} {sz : Nat} {w : World} {S : Nat → Prop} {n c : Nat} {l : List α} (h : RSlice r sz w S none n c l) : l = [] := by
  obtain ⟨h1, h2, h3, _⟩ := h
  have := h3 rfl
  exact List.eq_nil_of_length_eq_zero (by omega)
set_option maxRecDepth 100000 in
set_option maxHeartbeats 2000000 in
theorem cloneR_any (l : List Ref) (A : Option Addr) (c : Nat) (w : World) (hs : RSlice rRef 2 w (fun b => b < w.heap.size) A l.length c l) (hl : l.length ≤ 1000000000) :
    Calls Tryd.prog 32 #[.slice A l.length c] w fun e w' => ∃ A' c', e = .returned (.slice A' l.length c') ∧ OwnR rRef 2 w w' refT (.slice A' l.length c') l := by
  have hby : (([] : List Ref).length + l.length) * 32 ≤ 140737488355328 := by simp; omega
  have q22 : ∀ (w : World) (a : Option Addr) (n c n' c' : Nat), (binOp .eql 58 (.slice a n c) (.slice none n' c')).run Tryd.prog w = .ok (.bool a.isNone) w := fun w a n c n' c' => Lib.run_eql_slice_nil w _ _ a n c n' c' Tryd.underlying58
  cases A with
  | none =>
    have h0 := hs.nil_len
    subst h0
    clear hs
    go_enter Tryd.func32, Tryd.ntmps32
    repeat' ((fail_if_success at_builtin); (first | go_skip | go_guarded | go_step))
    go_ret
    exact ⟨none, 0, rfl, OwnR.nil _ _⟩
  | some a =>
    have hb0 := (Below.refl w.heap.size w).alloc (Nat.le_refl _) (.cells #[] refT)
    have h0 : OwnR rRef 2 w (w.alloc (.cells #[] refT)) refT (.slice (some ⟨w.heap.size, 0, none⟩) 0 0) [] := OwnR.empty w refT
    have hs2 : RSlice rRef 2 (w.alloc (.cells #[] refT)) (Beh (w.alloc (.cells #[] refT)) (.slice (some ⟨w.heap.size, 0, none⟩) 0 0)) (some a) l.length c l := (hs.below rRef_ok hb0).more rRef_ok fun b hb => beh_old h0 hb
    replace hs2 := Lib.hid hs2
    clear hs
    go_enter Tryd.func32, Tryd.ntmps32
    repeat' ((fail_if_success at_builtin); (first | go_skip | go_guarded | go_step))
    refine wp_appRS rRef_ok rRef_one h0 (Below.refl _ _) hs2.out Tryd.underlying58 ref_info hby ?_
    intro v w2 ho
    rw [List.nil_append] at ho
    obtain ⟨A', c', rfl⟩ := ho.form
    replace ho := Lib.hid ho
    repeat' ((fail_if_success at_builtin); (first | go_skip | go_guarded | go_step))
    go_ret
    exact ⟨A', c', rfl, ho.out⟩
set_option maxRecDepth 100000 in
set_option maxHeartbeats 2000000 in
theorem cloneD_any (l : List Dep) (A : Option Addr) (c : Nat) (w : World) (hs : RSlice rDep 5 w (fun b => b < w.heap.size) A l.length c l) (hl : l.length ≤ 1000000000) :
    Calls Tryd.prog 74 #[.slice A l.length c] w fun e w' => ∃ A' c', e = .returned (.slice A' l.length c') ∧ OwnR rDep 5 w w' depT (.slice A' l.length c') l := by
  have hby : (([] : List Dep).length + l.length) * 56 ≤ 140737488355328 := by simp; omega
  have q22 : ∀ (w : World) (a : Option Addr) (n c n' c' : Nat), (binOp .eql 59 (.slice a n c) (.slice none n' c')).run Tryd.prog w = .ok (.bool a.isNone) w := fun w a n c n' c' => Lib.run_eql_slice_nil w _ _ a n c n' c' Tryd.underlying59
  cases A with
  | none =>
    have h0 := hs.nil_len
    subst h0
    clear hs
    go_enter Tryd.func74, Tryd.ntmps74
    repeat' ((fail_if_success at_builtin); (first | go_skip | go_guarded | go_step))
    go_ret
    exact ⟨none, 0, rfl, OwnR.nil _ _⟩
  | some a =>
    have hb0 := (Below.refl w.heap.size w).alloc (Nat.le_refl _) (.cells #[] depT)
    have h0 : OwnR rDep 5 w (w.alloc (.cells #[] depT)) depT (.slice (some ⟨w.heap.size, 0, none⟩) 0 0) [] := OwnR.empty w depT
    have hs2 : RSlice rDep 5 (w.alloc (.cells #[] depT)) (Beh (w.alloc (.cells #[] depT)) (.slice (some ⟨w.heap.size, 0, none⟩) 0 0)) (some a) l.length c l := (hs.below rDep_ok hb0).more rDep_ok fun b hb => beh_old h0 hb
    replace hs2 := Lib.hid hs2
    clear hs
    go_enter Tryd.func74, Tryd.ntmps74
    repeat' ((fail_if_success at_builtin); (first | go_skip | go_guarded | go_step))
    refine wp_appRS rDep_ok rDep_one h0 (Below.refl _ _) hs2.out Tryd.underlying59 dep_info hby ?_
    intro v w2 ho
    rw [List.nil_append] at ho
    obtain ⟨A', c', rfl⟩ := ho.form
    replace ho := Lib.hid ho
    repeat' ((fail_if_success at_builtin); (first | go_skip | go_guarded | go_step))
    go_ret
    exact ⟨A', c', rfl, ho.out⟩
end Go.Proofs.YtennhjkhjplmoaaDoor
namespace Go.Proofs.YtennhjkhjplmoaaDoor
open Go.RowKit
/-- an environment with the values of its two slices -/
structure EnvV where
  x : Env
  u : Value
  v : Value
abbrev vC (e : EnvV) : List Value := [.string e.x.name, .string e.x.holder.run, .string e.x.holder.job, e.u, e.v]
def vsC (L : List EnvV) : List Value := L.flatMap vC
theorem vsC_len : ∀ L : List EnvV, (vsC L).length = L.length * 5
  | [] => rfl
  | e :: L => by
    show (vC e ++ vsC L).length = _
    rw [List.length_append, vsC_len L]
    show 5 + _ = (L.length + 1) * 5
    omega
theorem vsC_app (L M : List EnvV) : vsC (L ++ M) = vsC L ++ vsC M := List.flatMap_append
theorem vsC_at : ∀ {L : List EnvV} {k : Nat} {e : EnvV} (j : Nat) {u : Value}, L[k]? = some e → (vC e)[j]? = some u → (vsC L)[k * 5 + j]? = some u
  | [], _, _, _, _, h, _ => by simp at h
  | y :: L, 0, e, j, u, h, hu => by
    simp only [List.getElem?_cons_zero, Option.some.injEq] at h
    subst h
    have hj := (List.getElem?_eq_some_iff.1 hu).1
    show (vC y ++ vsC L)[_]? = _
    rw [Nat.zero_mul, Nat.zero_add, List.getElem?_append_left hj]
    exact hu
  | y :: L, k + 1, e, j, u, h, hu => by
    show (vC y ++ vsC L)[_]? = _
    rw [List.getElem?_append_right (by show 5 ≤ _; omega), ← vsC_at (L := L) (k := k) j (by simpa using h) hu]
    congr 1
    show (k + 1) * 5 + j - 5 = _
    omega
theorem set_app {α : Type} (l m : List α) (i : Nat) (x : α) (h : i < l.length) : (l ++ m).set i x = l.set i x ++ m := by rw [List.set_append_left _ _ h]
theorem set_app2 {α : Type} (l m : List α) (i : Nat) (x : α) : (l ++ m).set (l.length + i) x = l ++ m.set i x := by rw [List.set_append_right _ _ (by omega), Nat.add_sub_cancel_left]
theorem vsC_set3 : ∀ {L : List EnvV} {k : Nat} {e : EnvV} (u : Value), L[k]? = some e → (vsC L).set (k * 5 + 3) u = vsC (L.set k { e with u := u })
  | [], _, _, _, h => by simp at h
  | y :: L, 0, e, u, h => by
    simp only [List.getElem?_cons_zero, Option.some.injEq] at h
    subst h
    rfl
  | y :: L, k + 1, e, u, h => by
    have ih := vsC_set3 (L := L) (k := k) u (by simpa using h)
    show (vC y ++ vsC L).set _ _ = vC y ++ vsC (L.set k { e with u := u })
    rw [← ih, ← set_app2]
    congr 1
    show _ = 5 + _
    omega
theorem vsC_set4 : ∀ {L : List EnvV} {k : Nat} {e : EnvV} (v : Value), L[k]? = some e → (vsC L).set (k * 5 + 4) v = vsC (L.set k { e with v := v })
  | [], _, _, _, h => by simp at h
  | y :: L, 0, e, v, h => by
    simp only [List.getElem?_cons_zero, Option.some.injEq] at h
    subst h
    rfl
  | y :: L, k + 1, e, v, h => by
    have ih := vsC_set4 (L := L) (k := k) v (by simpa using h)
    show (vC y ++ vsC L).set _ _ = vC y ++ vsC (L.set k { e with v := v })
    rw [← ih, ← set_app2]
    congr 1
    show _ = 5 + _
    omega
/-- the holder -/
abbrev EnvV.hold (e : EnvV) (r : Ref) : EnvV := { e with x := { e.x with holder := r } }
theorem vsC_setH : ∀ {L : List EnvV} {k : Nat} {e : EnvV} (r : Ref), L[k]? = some e → ((vsC L).set (k * 5 + 1) (.string r.run)).set (k * 5 + 2) (.string r.job) = vsC (L.set k (e.hold r))
  | [], _, _, _, h => by simp at h
  | y :: L, 0, e, r, h => by
    simp only [List.getElem?_cons_zero, Option.some.injEq] at h
    subst h
    rfl
  | y :: L, k + 1, e, r, h => by
    have ih := vsC_setH (L := L) (k := k) r (by simpa using h)
    show ((vC y ++ vsC L).set _ _).set _ _ = vC y ++ vsC (L.set k (e.hold r))
    have e1 : (k + 1) * 5 + 1 = (vC y).length + (k * 5 + 1) := by show _ = 5 + _; omega
    have e2 : (k + 1) * 5 + 2 = (vC y).length + (k * 5 + 2) := by show _ = 5 + _; omega
    rw [← ih, e1, e2, set_app2, set_app2]
theorem Own.grown {w0 w w' : World} {e : TypeId} {sz n : Nat} {v : Value} {xs : List Value} {row : Option Nat} (H : Own w0 w e sz v n xs) (hg : w.grownBy w' row) (hne : ∀ g, v.ownBlock = some g → row ≠ some g) (hr : ∀ k, row = some k → w0.heap.size ≤ k) : Own w0 w' e sz v n xs := by
  refine ⟨H.1.kept hg ?_, H.2.grown hg H.2.size hr⟩
  cases hv : v.ownBlock with
  | none => cases row <;> simp
  | some g => exact .inr fun e => hne g hv e.symm
theorem setCell_grown (w : World) (g o : Nat) (u : Value) : w.grownBy (w.setCell ⟨g, o, none⟩ u) (some g) := Lib.grownBy_setB (World.grownBy.refl _ _) o u
/-- two values lie in different blocks -/
def Diff (a b : Value) : Prop := ∀ g, a.ownBlock = some g → b.ownBlock ≠ some g
theorem Diff.symm {a b : Value} (h : Diff a b) : Diff b a := fun g hb ha => h g ha hb
/-- rows of cells alone, of the call's own -/
structure Sub (w0 w : World) (e : EnvV) : Prop where
  wt : Own w0 w refT 2 e.u e.x.waiting.length (e.x.waiting.flatMap refC)
  ht : Own w0 w depT 5 e.v e.x.history.length (e.x.history.flatMap depC)
  d : Diff e.u e.v
/-- the first environments own their rows; behind them the cells 'rest' -/
structure EP (w0 w : World) (g n c i : Nat) (L : List EnvV) (rest : List Value) : Prop where
  row : Own w0 w envT 5 (.slice (some ⟨g, 0, none⟩) n c) n (vsC L ++ rest)
  ln : L.length = i
  lo : w0.heap.size ≤ g
  sub : ∀ e ∈ L, Sub w0 w e
  d0 : ∀ e ∈ L, e.u.ownBlock ≠ some g ∧ e.v.ownBlock ≠ some g
  d1 : ∀ (i j : Nat) (e f : EnvV), i ≠ j → L[i]? = some e → L[j]? = some f → Diff e.u f.u ∧ Diff e.u f.v ∧ Diff e.v f.u ∧ Diff e.v f.v
abbrev EO (w0 w : World) (g n c : Nat) (L : List EnvV) : Prop := EP w0 w g n c n L []
section
variable {w0 w w' : World} {g n c i : Nat} {L : List EnvV} {rest : List Value}
theorem Sub.below {e : EnvV} (h : Sub w0 w e) (hb : Below w.heap.size w w') : Sub w0 w' e := ⟨h.wt.below hb, h.ht.below hb, h.d⟩
theorem EP.below (h : EP w0 w g n c i L rest) (hb : Below w.heap.size w w') : EP w0 w' g n c i L rest := ⟨h.row.below hb, h.ln, h.lo, fun e he => (h.sub e he).below hb, h.d0, h.d1⟩
theorem EP.bel (h : EP w0 w g n c i L rest) : Below w0.heap.size w0 w := h.row.2
theorem Sub.grown {e : EnvV} {row : Option Nat} (h : Sub w0 w e) (hg : w.grownBy w' row) (h1 : ∀ b, e.u.ownBlock = some b → row ≠ some b) (h2 : ∀ b, e.v.ownBlock = some b → row ≠ some b) (hr : ∀ k, row = some k → w0.heap.size ≤ k) : Sub w0 w' e := ⟨h.wt.grown hg h1 hr, h.ht.grown hg h2 hr, h.d⟩
theorem EP.sub_store (h : EP w0 w g n c i L rest) (o : Nat) (u : Value) : ∀ e ∈ L, Sub w0 (w.setCell ⟨g, o, none⟩ u) e := fun e he =>
  (h.sub e he).grown (setCell_grown w g o u) (fun b hb hb2 => (h.d0 e he).1 (by injection hb2 with hb2; rw [hb, hb2])) (fun b hb hb2 => (h.d0 e he).2 (by injection hb2 with hb2; rw [hb, hb2])) (fun k hk => by injection hk with hk; rw [← hk]; exact h.lo)
theorem EP.lt (h : EP w0 w g n c i L rest) : g < w.heap.size := (h.row.1.lt g rfl).2
theorem EP.fr (h : EP w0 w g n c i L rest) (j : Nat) : w.frozen? ⟨g, j, none⟩ = false := h.row.1.frozenAt j
theorem EP.cell (h : EP w0 w g n c i L rest) {k : Nat} {e : EnvV} (hk : L[k]? = some e) (j : Nat) {u : Value} (hu : (vC e)[j]? = some u) : w.cell? ⟨g, k * 5 + j, none⟩ = some u := by
  have hl := (List.getElem?_eq_some_iff.1 (vsC_at j hk hu)).1
  have := h.row.1.cells (g := g) rfl (k * 5 + j) u (by rw [List.getElem?_append_left hl]; exact vsC_at j hk hu)
  rw [Addr.add_lit, Nat.zero_add] at this
  exact this
theorem EP.cellR (h : EP w0 w g n c i L rest) (j : Nat) {u : Value} (hu : rest[j]? = some u) : w.cell? ⟨g, i * 5 + j, none⟩ = some u := by
  have := h.row.1.cells (g := g) rfl (i * 5 + j) u (by rw [List.getElem?_append_right (by rw [vsC_len, h.ln]; omega), vsC_len, h.ln, Nat.add_sub_cancel_left]; exact hu)
  rw [Addr.add_lit, Nat.zero_add] at this
  exact this
/-- a cell of what is not yet own -/
theorem EP.setR (h : EP w0 w g n c i L rest) (o : Nat) (y : Value) : EP w0 (w.setCell ⟨g, i * 5 + o, none⟩ y) g n c i L (rest.set o y) := by
  have h1 := h.row.store h.lo (i * 5 + o) y
  have hl : (vsC L).length = i * 5 := by rw [vsC_len, h.ln]
  rw [← hl, set_app2, hl] at h1
  exact ⟨h1, h.ln, h.lo, h.sub_store _ _, h.d0, h.d1⟩
/-- one environment more -/
theorem EP.take {E : EnvV} {rest' : List Value} (h : EP w0 w g n c i L (vC E ++ rest')) (hs : Sub w0 w E)
    (hu : E.u.ownBlock ≠ some g) (hv : E.v.ownBlock ≠ some g) (hd : ∀ e ∈ L, Diff e.u E.u ∧ Diff e.u E.v ∧ Diff e.v E.u ∧ Diff e.v E.v) : EP w0 w g n c (i + 1) (L ++ [E]) rest' := by
  refine ⟨?_, by rw [List.length_append, h.ln]; rfl, h.lo, ?_, ?_, ?_⟩
  · have e1 : vsC L ++ (vC E ++ rest') = vsC (L ++ [E]) ++ rest' := by
      rw [vsC_app, List.append_assoc]
      rfl
    rw [← e1]
    exact h.row
  · intro e he
    rcases List.mem_append.1 he with he | he
    · exact h.sub e he
    · rw [List.mem_singleton] at he
      subst he
      exact hs
  · intro e he
    rcases List.mem_append.1 he with he | he
    · exact h.d0 e he
    · rw [List.mem_singleton] at he
      subst he
      exact ⟨hu, hv⟩
  · intro p q e f hpq he hf
    have one : ∀ (j : Nat) (e : EnvV), (L ++ [E])[j]? = some e → L[j]? = some e ∨ (j = L.length ∧ e = E) := by
      intro j e hj
      by_cases hjl : j < L.length
      · rw [List.getElem?_append_left hjl] at hj
        exact .inl hj
      · have := (List.getElem?_eq_some_iff.1 hj).1
        simp only [List.length_append, List.length_cons, List.length_nil] at this
        have hj2 : j = L.length := by omega
        subst hj2
        rw [List.getElem?_append_right (Nat.le_refl _), Nat.sub_self] at hj
        injection hj with hj
        exact .inr ⟨rfl, hj.symm⟩
    rcases one p e he with h1 | ⟨h1, rfl⟩ <;> rcases one q f hf with h2 | ⟨h2, rfl⟩
    · exact h.d1 p q e f hpq h1 h2
    · exact hd e (List.mem_of_getElem? h1)
    · obtain ⟨a1, a2, a3, a4⟩ := hd f (List.mem_of_getElem? h2)
      exact ⟨a1.symm, a3.symm, a2.symm, a4.symm⟩
    · omega
/-- a new row lies in a block that the others do not have -/
theorem diff_new {ty : TypeId} {sz m : Nat} {a b : Value} {xs : List Value} (h1 : ∀ k, a.ownBlock = some k → k < w.heap.size) (h2 : Own w w' ty sz b m xs) : Diff a b := fun k ha hb => by
  have := (h2.1.lt k hb).1
  have := h1 k ha
  omega
theorem EP.ltU (h : EP w0 w g n c i L rest) {e : EnvV} (he : e ∈ L) : (∀ k, e.u.ownBlock = some k → k < w.heap.size) ∧ (∀ k, e.v.ownBlock = some k → k < w.heap.size) :=
  ⟨fun k hk => ((h.sub e he).wt.1.lt k hk).2, fun k hk => ((h.sub e he).ht.1.lt k hk).2⟩
end
theorem rref_cells {w : World} {S : Nat → Prop} : ∀ {l : List Ref} {cs : List Value}, RList rRef 2 w S l cs → cs = l.flatMap refC
  | [], _, h => h
  | x :: l, cs, ⟨c1, c2, e, _, h1, h2⟩ => by rw [e, h1, rref_cells h2]; rfl
theorem rdep_cells {w : World} {S : Nat → Prop} : ∀ {l : List Dep} {cs : List Value}, RList rDep 5 w S l cs → cs = l.flatMap depC
  | [], _, h => h
  | x :: l, cs, ⟨c1, c2, e, _, h1, h2⟩ => by rw [e, h1, rdep_cells h2]; rfl
theorem rref_list {w : World} {S : Nat → Prop} : ∀ l : List Ref, RList rRef 2 w S l (l.flatMap refC)
  | [] => rfl
  | x :: l => ⟨refC x, _, rfl, rfl, rfl, rref_list l⟩
theorem rdep_list {w : World} {S : Nat → Prop} : ∀ l : List Dep, RList rDep 5 w S l (l.flatMap depC)
  | [] => rfl
  | x :: l => ⟨depC x, _, rfl, rfl, rfl, rdep_list l⟩
theorem OwnR.refs {w0 w : World} {v : Value} {l : List Ref} (h : OwnR rRef 2 w0 w refT v l) : Own w0 w refT 2 v l.length (l.flatMap refC) := by
  obtain ⟨cs, h1, h2⟩ := h
  rw [← rref_cells h2]
  exact h1
theorem OwnR.deps {w0 w : World} {v : Value} {l : List Dep} (h : OwnR rDep 5 w0 w depT v l) : Own w0 w depT 5 v l.length (l.flatMap depC) := by
  obtain ⟨cs, h1, h2⟩ := h
  rw [← rdep_cells h2]
  exact h1
theorem Own.refR {w0 w : World} {v : Value} {l : List Ref} (h : Own w0 w refT 2 v l.length (l.flatMap refC)) : OwnR rRef 2 w0 w refT v l := ⟨_, h, rref_list l⟩
theorem Own.depR {w0 w : World} {v : Value} {l : List Dep} (h : Own w0 w depT 5 v l.length (l.flatMap depC)) : OwnR rDep 5 w0 w depT v l := ⟨_, h, rdep_list l⟩
theorem RList.cut {α : Type} {r : Rd α} {sz : Nat} {w : World} {S : Nat → Prop} {l : List α} {cs : List Value} {i : Nat} {x : α} (h : RList r sz w S l cs) (hx : l[i]? = some x) : ∃ c1, cs.drop (i * sz) = c1 ++ cs.drop ((i + 1) * sz) ∧ r w S x c1 ∧ c1.length = sz := by
  have h1 := h.drop_ i
  have hi := (List.getElem?_eq_some_iff.1 hx).1
  rw [List.drop_eq_getElem_cons hi, (List.getElem?_eq_some_iff.1 hx).2] at h1
  obtain ⟨c1, c2, e, h2, h3, _⟩ := h1
  refine ⟨c1, ?_, h3, h2⟩
  rw [e]
  congr 1
  rw [Nat.add_mul, Nat.one_mul, ← List.drop_drop, e, List.drop_append, ← h2, List.drop_length, Nat.sub_self]
  rfl
/-- a list of the call's own, read -/
theorem EP.read {w0 w : World} {g n c : Nat} {L : List EnvV} (h : EO w0 w g n c L) : RSlice rEnv 5 w (fun b => b < w.heap.size) (some ⟨g, 0, none⟩) n c (L.map (·.x)) := by
  have hr : ∀ M : List EnvV, (∀ e ∈ M, Sub w0 w e) → RList rEnv 5 w (fun b => b < w.heap.size) (M.map (·.x)) (vsC M) := by
    intro M
    induction M with
    | nil => intro _; rfl
    | cons e M ih =>
      intro hM
      have hs := hM e (List.mem_cons_self ..)
      obtain ⟨A1, c1, e1⟩ := hs.wt.slice_form
      obtain ⟨A2, c2, e2⟩ := hs.ht.slice_form
      refine ⟨vC e, vsC M, rfl, rfl, ⟨A1, c1, A2, c2, ?_, ?_, ?_⟩, ih fun e he => hM e (List.mem_cons_of_mem _ he)⟩
      · show [Value.string e.x.name, .string e.x.holder.run, .string e.x.holder.job, e.u, e.v] = _
        rw [e1, e2]
      · have := hs.wt
        rw [e1] at this
        exact (this.refR).slice rRef_ok
      · have := hs.ht
        rw [e2] at this
        exact (this.depR).slice rDep_ok
  have hrow := h.row
  rw [List.append_nil] at hrow
  refine ⟨by rw [List.length_map]; exact h.ln, hrow.cap_le, fun h => (by cases h), _, hrow.seq, hr L h.sub⟩
end Go.Proofs.YtennhjkhjplmoaaDoor
