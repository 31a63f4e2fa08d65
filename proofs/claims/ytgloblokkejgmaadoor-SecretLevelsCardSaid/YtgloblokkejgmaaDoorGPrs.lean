/- A pattern's elements: plain, and the walk of parse. -/
import Derived.Test.YtgloblokkejgmaaDoorGFst
namespace Go.Proofs.YtgloblokkejgmaaDoor
open Go.RowKit
theorem clsF_ok (l : List UInt8) : ∀ (k a : Nat) (out s : Set4) (n : Nat), out.fit → clsF l k a out = some (s, n) → s.fit ∧ 1 ≤ n ∧ n ≤ l.length
  | 0, _, _, _, _, _, h => by cases h
  | k + 1, a, out, s, n, ho, h => by
    unfold clsF at h
    split at h
    · split at h
      · cases h
      · split at h
        · split at h
          · cases h
          · split at h
            · cases h
            · exact clsF_ok l k _ _ s n (addN_fit _ _ _ ho) h
        · exact clsF_ok l k _ _ s n (addN_fit _ _ _ ho) h
    · split at h
      · cases h
      · simp only [Option.some.injEq, Prod.mk.injEq] at h
        obtain ⟨rfl, rfl⟩ := h
        exact ⟨fit_drop ho _, by omega, by omega⟩
theorem fstS_ok {l : List UInt8} {e : El} {n : Nat} (h : fstS l = some (e, n)) : e.set.fit ∧ 1 ≤ n ∧ n ≤ l.length := by
  have hmost : ∀ b, (mostS b).fit := by
    intro b; unfold mostS; split
    · exact fit_full
    · exact fit_drop fit_full _
  unfold fstS at h
  split at h
  · cases h
  · rename_i c hc
    have h1 := (List.getElem?_eq_some_iff.1 hc).1
    split at h
    · split at h
      · rename_i h2
        cases h
        refine ⟨hmost _, by omega, ?_⟩
        cases hq : l[1]? with
        | none => rw [hq] at h2; cases h2
        | some z => have := (List.getElem?_eq_some_iff.1 hq).1; omega
      · cases h; exact ⟨hmost _, by omega, by omega⟩
    · split at h
      · cases h; exact ⟨hmost _, by omega, by omega⟩
      · split at h
        · split at h
          · cases h
          · rename_i s m hcl
            cases h
            exact clsF_ok l _ _ _ _ _ fit_zero hcl
        · split at h
          · split at h
            · cases h
            · rename_i d hd
              have h2 := (List.getElem?_eq_some_iff.1 hd).1
              cases h; exact ⟨fit_add fit_zero _, by omega, by omega⟩
          · cases h; exact ⟨fit_add fit_zero _, by omega, by omega⟩
/-- the elements of a pattern -/
def prsF : Nat → List UInt8 → Option (List El)
  | _, [] => some []
  | 0, _ :: _ => none
  | k + 1, c :: l => match fstS (c :: l) with
    | none => none
    | some (e, n) => (prsF k ((c :: l).drop n)).map (e :: ·)
def prsS (l : List UInt8) : Option (List El) := if 4096 < l.length then none else prsF l.length l
theorem prsF_step {k : Nat} {l : List UInt8} (h : l ≠ []) : prsF (k + 1) l = match fstS l with
    | none => none
    | some (e, n) => (prsF k (l.drop n)).map (e :: ·) := by
  cases l with
  | nil => exact absurd rfl h
  | cons c l => rfl
abbrev elcs (es : List El) : List Value := es.flatMap fun e => (ecells e).toList
def slenG : Value → Nat
  | .string s => s.size
  | _ => 0
def OwnE (W0 w : World) (v : Value) (es : List El) : Prop := Own W0 w 110 7 v es.length (elcs es)
def RetP (w : World) (r : Option (List El)) (e : Ending) (w' : World) : Prop := match r with
  | none => ∃ x : Int, x ≠ 0 ∧ e = .returned (.tuple #[.slice none 0 0, .int .i64 x]) ∧ Below w.heap.size w w'
  | some es => ∃ (A : Option Addr) (c : Nat), e = .returned (.tuple #[.slice A es.length c, .int .i64 0]) ∧ OwnE w w' (.slice A es.length c) es
theorem el_info : Info Tryd.prog 110 (.agg #[.int .u64 0, .int .u64 0, .int .u64 0, .int .u64 0, .bool false, .bool false, .int .u8 0]) 7 40 := by unfold Info; kernel_rfl
set_option maxRecDepth 100000 in
set_option maxHeartbeats 800000 in
theorem parse_any (s : ByteArray) (w : World) (hs : s.size ≤ 1000000) : Calls Tryd.prog 73 #[.string s] w (RetP w (prsS s.data.toList)) := by
  have hsz : s.data.toList.length = s.size := by simp
  unfold prsS
  rw [hsz]
  generalize hl : s.data.toList = l at *
  go_enter Tryd.func73, Tryd.ntmps73
  by_cases hb : 4096 < s.size
  · rw [if_pos hb]
    have hb' : (4096 : Int) < (s.size : Int) := by omega
    repeat' ((fail_if_success at_builtin); (first | go_skip | go_guarded | go_step))
    go_ret2
    exact ⟨3, by decide, rfl, Below.refl _ _⟩
  · rw [if_neg hb]
    have hb' : ¬ ((4096 : Int) < (s.size : Int)) := by omega
    repeat' ((fail_if_success at_builtin); (first | go_skip | go_guarded | go_step))
    go_loopw [0, 4] (fun u0 u4 wr => ∃ (r : ByteArray) (k : Nat) (es : List El), u0 = .string r ∧ r.size ≤ k ∧ r.size + es.length ≤ s.size ∧ OwnE w wr u4 es ∧ prsF s.size l = (prsF k r.data.toList).map (es ++ ·)) (fun u0 _ _ => slenG u0)
    case atStart => exact ⟨s, s.size, [], rfl, by omega, by simp, Own.nil_ _ _ _, by rw [hl]; simp⟩
    case round =>
      obtain ⟨r, k, es, rfl, hrk, hrs, hown, hpr⟩ := hrel
      have hbr := hown.2
      have hrl : r.data.toList.length = r.size := by simp
      by_cases h0 : r.size = 0
      · have hl0 : r.data.toList = [] := List.eq_nil_of_length_eq_zero (by omega)
        have hr : r = ByteArray.empty := by
          cases r with
          | mk d => simp at hl0; subst hl0; rfl
        subst hr
        obtain ⟨A, c, rfl⟩ := Own.slice_form hown
        have hpr2 : prsF s.size l = some es := by
          rw [hpr, hl0]
          cases k <;> simp [prsF]
        clear hpr
        replace hpr2 := Lib.hid hpr2
        repeat' ((fail_if_success at_builtin); (first | go_skip | go_guarded | go_step))
        go_ret2
        show RetP w (prsF s.size l) _ _
        rw [hpr2.out]
        exact ⟨A, c, rfl, hown⟩
      · have h0' : 0 < r.size := by omega
        have hne2 := toList_ne h0'
        obtain ⟨k, rfl⟩ : ∃ k', k = k' + 1 := ⟨k - 1, by omega⟩
        have hne : r.data.toList ≠ [] := by
          intro h; rw [h] at hrl; simp at hrl; omega
        rw [prsF_step hne] at hpr
        have C := first_any r wr (by omega) h0'
        have hext := fun n => ext_list r n r.size
        replace C := Lib.hid C
        replace hpr := Lib.hid hpr
        replace hext := Lib.hid hext
        repeat' ((fail_if_success at_builtin); (first | go_skip | go_guarded | go_step))
        refine C.out.mono ?_
        rintro e w1 ⟨E, n, rfl, hnone, hsome, hb1⟩
        dsimp only
        cases hq : fstS r.data.toList with
        | none =>
          have hn0 := hnone hq
          have hn1 : (n : Int) = 0 := by omega
          have hpr2 : prsF s.size l = none := by rw [hpr.out, hq]; rfl
          clear hpr hext hsome hnone C
          replace hpr2 := Lib.hid hpr2
          repeat' ((fail_if_success at_builtin); (first | go_skip | go_guarded | go_step))
          go_ret2
          show RetP w (prsF s.size l) _ _
          rw [hpr2.out]
          exact ⟨5, by decide, rfl, (hbr.trans (hb1.mono hbr.size)).alloc (Nat.le_trans hbr.size hb1.size) _⟩
        | some q =>
          obtain ⟨E2, n2⟩ := q
          obtain ⟨rfl, rfl⟩ := hsome E2 n2 hq
          obtain ⟨hfit, hn1, hn2⟩ := fstS_ok hq
          rw [hrl] at hn2
          have hpr2 : prsF s.size l = (prsF k (r.data.toList.drop n)).map (es ++ [E] ++ ·) := by
            rw [hpr.out, hq]
            dsimp only
            rw [Option.map_map]
            congr 1
            funext x
            simp
          clear hpr hsome hnone C
          replace hpr2 := Lib.hid hpr2
          have hn0 : ((n : Int) == 0) = false := by simp; omega
          have hnz : ¬ ((n : Int) = 0) := by omega
          have hn3 : (n : Int) ≤ (r.size : Int) := by omega
          have hn4 : (0 : Int) ≤ (n : Int) := by omega
          have hown1 : OwnE w w1 _ es := hown.below hb1
          have hb40 : (es.length + 1) * 40 ≤ 140737488355328 := by omega
          have hb2 := (Below.refl w1.heap.size w1).alloc (Nat.le_refl _) (.cells (ecells E) 110)
          have hown2 : OwnE w _ _ es := hown1.below hb2
          clear hb2 hown1 hown
          repeat' ((fail_if_success at_builtin); (first | go_skip | go_guarded | go_step))
          refine wp_app1 hown2 Tryd.underlying97 el_info hb40 ?_
          intro v3 w3 hown3 _
          have hdl : (r.extract n r.size).data.toList = r.data.toList.drop n := by
            rw [hext.out]; exact List.take_of_length_le (by rw [List.length_drop, hrl]; omega)
          have hds : (r.extract n r.size).size = r.size - n := by
            have h := congrArg List.length hdl
            rw [List.length_drop, hrl] at h
            rw [← h]; simp
          replace hdl := Lib.hid hdl
          replace hds := Lib.hid hds
          repeat' ((fail_if_success at_builtin); (first | go_skip | go_guarded | go_step))
          go_roundw
          case rel =>
            refine ⟨_, k, es ++ [E], rfl, ?_, ?_, ?_, ?_⟩
            · rw [hds.out]; omega
            · rw [hds.out]; simp; omega
            · unfold OwnE elcs
              rw [List.length_append, List.flatMap_append, List.flatMap_cons, List.flatMap_nil, List.append_nil]
              exact hown3
            · rw [hdl.out]; exact hpr2.out
          case measure => simp only [slenG]; rw [hds.out]; omega
end Go.Proofs.YtgloblokkejgmaaDoor
