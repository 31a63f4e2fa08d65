/- Deploy: the document's Refs. -/
import Derived.Test.YtennhjkhjplmoaaDoorDpU
import Derived.Test.YtennhjkhjplmoaaDoorDpO
namespace Go.Proofs.YtennhjkhjplmoaaDoor
open Go.RowKit
theorem posI_head (l : List Ref) (r : Ref) : (posI (fun x => eqR x r) l == 0) = headR l r := by
  cases l with
  | nil => rfl
  | cons x l =>
    unfold posI
    show ((if posA (fun x => eqR x r) (x :: l) < (x :: l).length then ((posA (fun x => eqR x r) (x :: l) : Nat) : Int) else -1) == 0) = eqR x r
    have hle := posA_le (fun x => eqR x r) l
    have hp : posA (fun x => eqR x r) (x :: l) = if eqR x r = true then 0 else posA (fun x => eqR x r) l + 1 := rfl
    cases h : eqR x r with
    | true =>
      rw [hp, h, if_pos rfl, if_pos (by simp)]
      rfl
    | false =>
      have hp2 : posA (fun x => eqR x r) (x :: l) = posA (fun x => eqR x r) l + 1 := by rw [hp, h]; exact if_neg (by simp)
      rw [hp2]
      by_cases hc : posA (fun x => eqR x r) l + 1 < (x :: l).length
      · rw [if_pos hc]
        apply beq_false_of_ne
        omega
      · rw [if_neg hc]
        rfl
theorem posI_has (l : List Ref) (r : Ref) : decide (0 ≤ posI (fun x => eqR x r) l) = hasR l r := posI_nonneg _ _
theorem refsL_app (l m : List Env) : refsL (l ++ m) = refsL l ++ refsL m := List.flatMap_append
theorem refsL_take {l : List Env} {i : Nat} {x : Env} (hx : l[i]? = some x) : refsL (l.take (i + 1)) = refsL (l.take i) ++ refsE x := by
  rw [List.take_add_one, hx, refsL_app]
  show _ ++ (refsE x ++ []) = _
  rw [List.append_nil]
theorem refsL_len (l : List Env) (i : Nat) : (refsL (l.take i)).length ≤ (refsL l).length := by
  have h : refsL l = refsL (l.take i) ++ refsL (l.drop i) := by rw [← refsL_app, List.take_append_drop]
  rw [h, List.length_append]
  omega
set_option maxRecDepth 100000 in
set_option maxHeartbeats 4000000 in
theorem refs_any (l : List Env) (A : Option Addr) (n c : Nat) (w : World) (h : Envs w A n c l) (hR : (refsL l).length ≤ 1000000) :
    Calls Tryd.prog 47 #[.slice A n c] w fun e w' => ∃ A' n' c', e = .returned (.slice A' n' c') ∧ Below w.heap.size w w' ∧ Refs w' A' n' c' (refsL l) := by
  go_enter Tryd.func47, Tryd.ntmps47
  have hn := h.n
  have hl := h.len
  have hW := h.each
  replace hn := Lib.hid hn
  repeat' ((fail_if_success at_builtin); (first | go_skip | go_guarded | go_step))
  go_loopw [3, 4] (fun u3 u4 wr => ∃ i : Nat, i ≤ n ∧ u4 = .int .i64 (i : Int) ∧ OwnR rRef 2 w wr refT u3 (refsL (l.take i))) (fun _ u4 _ => n - (intOf u4).toNat)
  case atStart => exact ⟨0, by omega, rfl, OwnR.nil w refT⟩
  case round =>
    obtain ⟨i, hi, rfl, hO⟩ := hrel
    have i0 : (0 : Int) ≤ (i : Int) := by omega
    have i2 : IntKind.i64.wrap ((i : Int) + 1) = (i : Int) + 1 := IntWalk.i64_in _ (by have := hn.out; omega)
    by_cases hlt : i < n
    · have i1 : (i : Int) < (n : Int) := by omega
      obtain ⟨x, hx⟩ : ∃ x, l[i]? = some x := ⟨_, List.getElem?_eq_getElem (by have := hn.out; omega)⟩
      have hxW := hW x (List.mem_of_getElem? hx)
      have hnx := refsL_take hx
      have hre : refsE x = (if eqR x.holder zR = true then [] else [x.holder]) ++ x.waiting := rfl
      have hlen := refsL_len l (i + 1)
      rw [hnx, List.length_append, hre, List.length_append] at hlen
      obtain ⟨g, o, A1, c1, A2, c2, rfl, hg, hS⟩ := env_at h.rd hx
      have hb := hO.bel
      have hT := hS.below hg hb
      have e1 := hT.e1
      have e2 := hT.e2
      have e3 := hT.e3
      have qE1 := qE_R x.holder zR
      clear hx hT
      obtain ⟨A3, c3, rfl⟩ := hO.form
      cases hz : eqR x.holder zR with
      | true =>
        rw [hre, hz, if_pos rfl, List.nil_append] at hnx
        replace hnx := Lib.hid hnx
        simp only [hz] at qE1
        have hO1 := hO
        clear hO hre hz
        repeat' ((fail_if_success at_builtin); (first | ((with_reducible show wpList _ _ _ _ _ _); first | refine wpList_eqS rfl rfl rfl rfl (by first | exact qE1 _ | exact qE2 _ | exact qE3 _ | exact qE4 _) (by kernel_rfl) ?_ | refine wpList_neS rfl rfl rfl rfl (by first | exact qE1 _ | exact qE2 _ | exact qE3 _ | exact qE4 _) (by kernel_rfl) ?_) | go_skip | go_guarded | go_step))
        have hbr := hO1.bel
        have hxs := (hS.wait.below rRef_ok hbr).more rRef_ok (S' := Beh wr (.slice A3 (refsL (l.take i)).length c3)) (fun b hb => beh_old hO1 hb)
        have hby2 : ((refsL (l.take i)).length + x.waiting.length) * 32 ≤ 140737488355328 := by omega
        replace hxs := Lib.hid hxs
        refine wp_appRS rRef_ok rRef_one hO1 (Below.refl _ _) hxs.out Tryd.underlying58 ref_info hby2 ?_
        intro v6 w6 hO2
        repeat' ((fail_if_success at_builtin); (first | go_skip | go_guarded | go_step))
        go_roundw
        case rel => exact ⟨i + 1, by omega, by first | rfl | go_num, by rw [hnx.out]; exact hO2⟩
        case measure => (try go_num); (try simp [intOf]); (try omega)
      | false =>
        rw [hre, hz, if_neg (by simp), ← List.append_assoc] at hnx
        rw [hz, if_neg (by simp)] at hlen
        replace hnx := Lib.hid hnx
        simp only [hz] at qE1
        have hl1 : ([x.holder] : List Ref).length = 1 := rfl
        rw [hl1] at hlen
        clear hre hz hl1
        have hby : ((refsL (l.take i)).length + 1) * 32 ≤ 140737488355328 := by omega
        repeat' ((fail_if_success at_builtin); (first | ((with_reducible show wpList _ _ _ _ _ _); first | refine wpList_eqS rfl rfl rfl rfl (by first | exact qE1 _ | exact qE2 _ | exact qE3 _ | exact qE4 _) (by kernel_rfl) ?_ | refine wpList_neS rfl rfl rfl rfl (by first | exact qE1 _ | exact qE2 _ | exact qE3 _ | exact qE4 _) (by kernel_rfl) ?_) | go_skip | go_guarded | go_step))
        refine wp_appR1 rRef_ok (cs := #[.string x.holder.run, .string x.holder.job]) hO (Below.refl _ _) (x := x.holder) rfl Tryd.underlying58 ref_info hby ?_
        intro v5 w5 hO1
        obtain ⟨A5, c5, rfl⟩ := hO1.form
        have hl5 : (refsL (l.take i) ++ [x.holder]).length = (refsL (l.take i)).length + 1 := by rw [List.length_append]; rfl
        rw [hl5] at hO1 ⊢
        have hb5 := hO1.bel
        have hT := hS.below hg hb5
        clear e1 e2 e3 hO qE1
        have e3 := hT.e3
        clear hT
        replace hl5 := Lib.hid hl5
        repeat' ((fail_if_success at_builtin); (first | ((with_reducible show wpList _ _ _ _ _ _); first | refine wpList_eqS rfl rfl rfl rfl (by first | exact qE1 _ | exact qE2 _ | exact qE3 _ | exact qE4 _) (by kernel_rfl) ?_ | refine wpList_neS rfl rfl rfl rfl (by first | exact qE1 _ | exact qE2 _ | exact qE3 _ | exact qE4 _) (by kernel_rfl) ?_) | go_skip | go_guarded | go_step))
        have hbr := hO1.bel
        have hxs := (hS.wait.below rRef_ok hbr).more rRef_ok (S' := Beh w5 (.slice A5 ((refsL (l.take i)).length + 1) c5)) (fun b hb => beh_old hO1 hb)
        have hby2 : ((refsL (l.take i) ++ [x.holder]).length + x.waiting.length) * 32 ≤ 140737488355328 := by rw [hl5.out]; omega
        replace hxs := Lib.hid hxs
        refine wp_appRS rRef_ok rRef_one hO1 (Below.refl _ _) hxs.out Tryd.underlying58 ref_info hby2 ?_
        intro v6 w6 hO2
        repeat' ((fail_if_success at_builtin); (first | go_skip | go_guarded | go_step))
        go_roundw
        case rel => exact ⟨i + 1, by omega, by first | rfl | go_num, by rw [hnx.out]; exact hO2⟩
        case measure => (try go_num); (try simp [intOf]); (try omega)
    · have i1 : ¬ (i : Int) < (n : Int) := by omega
      rw [List.take_of_length_le (by have := hn.out; omega)] at hO
      obtain ⟨A3, c3, rfl⟩ := hO.form
      have hs := hO.slice rRef_ok
      have hb := hO.bel
      generalize hq : (refsL l).length = q at *
      replace hs := Lib.hid hs
      clear hO
      repeat' ((fail_if_success at_builtin); (first | go_skip | go_guarded | go_step))
      go_ret
      exact ⟨A3, q, c3, rfl, hb, ⟨hs.out, by rw [hq]; exact hR⟩⟩
end Go.Proofs.YtennhjkhjplmoaaDoor
