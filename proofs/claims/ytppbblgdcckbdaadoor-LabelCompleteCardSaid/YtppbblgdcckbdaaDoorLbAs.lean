/- Label: ascends. -/
import Derived.Test.YtppbblgdcckbdaaDoorLbSa
import Derived.Test.YtppbblgdcckbdaaDoorCmpW
import Derived.Test.YtppbblgdcckbdaaDoorLbV
namespace Go.Proofs.YtppbblgdcckbdaaDoor
open Go.RowKit
theorem ordBad_succ {l : List ByteArray} {k : Nat} {p : ByteArray} (hp : l[k]? = some p) (s : List UInt8) : ordBad (toLs (l.take (k + 1))) s = decide (0 ≤ cmpN p.data.toList s) := by
  have : (toLs l)[k]? = some p.data.toList := by rw [List.getElem?_map, hp]; rfl
  rw [show toLs (l.take (k + 1)) = (toLs l).take (k + 1) from List.map_take]
  exact ordBad_at this
set_option maxRecDepth 100000 in
set_option maxHeartbeats 2000000 in
theorem ascends_any (l : List ByteArray) (i : Nat) (q : ByteArray) (A : Option Addr) (n c : Nat) (w : World) (hq : l[i]? = some q) (hn : n = l.length) (hs : Seq w w.heap.size 1 A n (cellsS l)) (hl : n ≤ 1000000) (hm : ∀ q ∈ l, q.size ≤ 1000000) :
    Calls Tryd.prog 22 #[.slice A n c, .int .i64 (i : Int)] w fun e w' => e = .returned (.bool (!ordBad (toLs (l.take i)) q.data.toList)) ∧ Below w.heap.size w w' := by
  have hi := (List.getElem?_eq_some_iff.1 hq).1
  cases i with
  | zero =>
    have hv : ordBad (toLs (l.take 0)) q.data.toList = false := by rw [List.take_zero]; rfl
    rw [hv]
    clear hv hs hm
    go_enter Tryd.func22, Tryd.ntmps22
    repeat' ((fail_if_success at_builtin); (first | go_skip | go_guarded | go_step))
    have hS1 : Below w.heap.size w w.drew := (Below.refl _ _).drew
    refine wp_region_held_drew (S := fun w' => Below w.heap.size w w') (by kernel_rfl) ?_ (fun hHeld => ?_)
    · (try dsimp only)
      exact hS1
    refine tkY 0 (v := ?v29) rfl (.inl ⟨by rfl, ?hy29⟩) ?hr29
    case hy29 => (intro w hSw; (try dsimp only at hSw); go_simp; try with_reducible rfl)
    simp only [Act.put, List.getElem_toArray, List.getElem_cons_zero, List.setIfInBounds_toArray, List.set_cons_zero, List.set_cons_succ]
    refine tkY 1 (v := ?v30) rfl (.inl ⟨by rfl, ?hy30⟩) ?hr30
    case hy30 => (intro w hSw; (try dsimp only at hSw); go_simp; try with_reducible rfl)
    simp only [Act.put, List.getElem_toArray, List.getElem_cons_zero, List.getElem_cons_succ, List.setIfInBounds_toArray, List.set_cons_zero, List.set_cons_succ]
    refine tkY 2 (v := ?v31) rfl (.inl ⟨by rfl, ?hy31⟩) ?hr31
    case hy31 => (intro w hSw; (try dsimp only at hSw); go_simp; try with_reducible rfl)
    simp only [Act.put, List.getElem_toArray, List.getElem_cons_zero, List.getElem_cons_succ, List.setIfInBounds_toArray, List.set_cons_zero, List.set_cons_succ]
    refine tkN 3 rfl ?_
    simp only [Act.put, List.getElem_toArray, List.getElem_cons_zero, List.getElem_cons_succ, List.setIfInBounds_toArray, List.set_cons_zero, List.set_cons_succ]
    refine tkN 4 rfl ?_
    simp only [Act.put, List.getElem_toArray, List.getElem_cons_zero, List.getElem_cons_succ, List.setIfInBounds_toArray, List.set_cons_zero, List.set_cons_succ]
    refine tkN 5 rfl ?_
    simp only [Act.put, List.getElem_toArray, List.getElem_cons_zero, List.getElem_cons_succ, List.setIfInBounds_toArray, List.set_cons_zero, List.set_cons_succ]
    refine tkN 6 rfl ?_
    simp only [Act.put, List.getElem_toArray, List.getElem_cons_zero, List.getElem_cons_succ, List.setIfInBounds_toArray, List.set_cons_zero, List.set_cons_succ]
    refine tkN 7 rfl ?_
    simp only [Act.put, List.getElem_toArray, List.getElem_cons_zero, List.getElem_cons_succ, List.setIfInBounds_toArray, List.set_cons_zero, List.set_cons_succ]
    refine tkN 8 rfl ?_
    simp only [Act.put, List.getElem_toArray, List.getElem_cons_zero, List.getElem_cons_succ, List.setIfInBounds_toArray, List.set_cons_zero, List.set_cons_succ]
    refine tkN 9 rfl ?_
    simp only [Act.put, List.getElem_toArray, List.getElem_cons_zero, List.getElem_cons_succ, List.setIfInBounds_toArray, List.set_cons_zero, List.set_cons_succ]
    refine tkN 10 rfl ?_
    simp only [Act.put, List.getElem_toArray, List.getElem_cons_zero, List.getElem_cons_succ, List.setIfInBounds_toArray, List.set_cons_zero, List.set_cons_succ]
    refine tkN 11 rfl ?_
    simp only [Act.put, List.getElem_toArray, List.getElem_cons_zero, List.getElem_cons_succ, List.setIfInBounds_toArray, List.set_cons_zero, List.set_cons_succ]
    refine tkN 12 rfl ?_
    simp only [Act.put, List.getElem_toArray, List.getElem_cons_zero, List.getElem_cons_succ, List.setIfInBounds_toArray, List.set_cons_zero, List.set_cons_succ]
    refine tkN 13 rfl ?_
    simp only [Act.put, List.getElem_toArray, List.getElem_cons_zero, List.getElem_cons_succ, List.setIfInBounds_toArray, List.set_cons_zero, List.set_cons_succ]
    refine tkY 14 (v := ?v32) rfl (.inl ⟨by rfl, ?hy32⟩) ?hr32
    case hy32 => (intro w hSw; (try dsimp only at hSw); go_simp; try with_reducible rfl)
    simp only [Act.put, List.getElem_toArray, List.getElem_cons_zero, List.getElem_cons_succ, List.setIfInBounds_toArray, List.set_cons_zero, List.set_cons_succ]
    refine tkY 15 (v := ?v33) rfl (.inl ⟨by rfl, ?hy33⟩) ?hr33
    case hy33 => (intro w hSw; (try dsimp only at hSw); go_simp; try with_reducible rfl)
    simp only [Act.put, List.getElem_toArray, List.getElem_cons_zero, List.getElem_cons_succ, List.setIfInBounds_toArray, List.set_cons_zero, List.set_cons_succ]
    refine wpAnyH_done (by kernel_rfl) ?_ _
    have hbq := hHeld
    repeat' ((fail_if_success at_builtin); (first | go_skip | go_guarded | go_step))
    go_ret
    exact ⟨rfl, hbq⟩
  | succ k =>
    obtain ⟨p, hp⟩ : ∃ p, l[k]? = some p := ⟨_, List.getElem?_eq_getElem (by omega)⟩
    obtain ⟨bl, off, rfl, hbl, hcq⟩ := strs_at hs (by omega : k + 1 < n) hq
    obtain ⟨bl2, off2, hA2, hbl2, hcp⟩ := strs_at hs (by omega : k < n) hp
    cases hA2
    have hv := ordBad_succ hp q.data.toList
    rw [hv]
    have hp6 := hm p (List.mem_of_getElem? hp)
    have hq6 := hm q (List.mem_of_getElem? hq)
    have k0 : (0 : Int) ≤ (k : Int) := by omega
    have k1 : (k : Int) < (n : Int) := by omega
    have k2 : (0 : Int) ≤ (k : Int) + 1 := by omega
    have k3 : (k : Int) + 1 < (n : Int) := by omega
    have k4 : IntKind.i64.wrap ((k : Int) + 1 - 1) = (k : Int) := by rw [IntWalk.i64_in _ (by omega)]; omega
    have k4b : IntKind.i64.wrap (k : Int) = (k : Int) := IntWalk.i64_in _ (by omega)
    have k5 : ((k : Int) + 1 == 0) = false := by simp; omega
    have k6 : ((k : Int) + 1).toNat = k + 1 := by omega
    have hS : ∀ w', Below w.heap.size w w' → (Below w.heap.size w w' ∧ w'.cell? ⟨bl, off + k, none⟩ = some (.string p) ∧ w'.cell? ⟨bl, off + (k + 1), none⟩ = some (.string q)) := fun w' h => ⟨h, (h.cell (p := ⟨bl, off + k, none⟩) hbl).trans hcp, (h.cell (p := ⟨bl, off + (k + 1), none⟩) hbl).trans hcq⟩
    have keepS : ∀ w' w'', (Below w.heap.size w w' ∧ w'.cell? ⟨bl, off + k, none⟩ = some (.string p) ∧ w'.cell? ⟨bl, off + (k + 1), none⟩ = some (.string q)) → Below w'.heap.size w' w'' → (Below w.heap.size w w'' ∧ w''.cell? ⟨bl, off + k, none⟩ = some (.string p) ∧ w''.cell? ⟨bl, off + (k + 1), none⟩ = some (.string q)) := fun w' w'' h hq => hS _ (h.1.trans (hq.mono h.1.size))
    have hS1 := hS w.drew (Below.refl _ _).drew
    replace keepS := Lib.hid keepS
    clear hS hp hq hv hn hs hm hi
    have hk : ((k + 1 : Nat) : Int) = (k : Int) + 1 := by omega
    rw [hk]
    clear hk
    generalize hcv : cmpN p.data.toList q.data.toList = cv at *
    replace hcv := Lib.hid hcv
    go_enter Tryd.func22, Tryd.ntmps22
    repeat' ((fail_if_success at_builtin); (first | go_skip | go_guarded | go_step))
    refine wp_region_held_drew (S := fun w' => Below w.heap.size w w' ∧ w'.cell? ⟨bl, off + k, none⟩ = some (.string p) ∧ w'.cell? ⟨bl, off + (k + 1), none⟩ = some (.string q)) (by kernel_rfl) ?_ (fun hHeld => ?_)
    · (try dsimp only)
      exact hS1
    refine tkY 0 (v := ?v14) rfl (.inl ⟨by rfl, ?hy14⟩) ?hr14
    case hy14 => (intro w hSw; (try dsimp only at hSw); go_simp; try with_reducible rfl)
    simp only [Act.put, List.getElem_toArray, List.getElem_cons_zero, List.setIfInBounds_toArray, List.set_cons_zero, List.set_cons_succ]
    refine tkY 1 (v := ?v15) rfl (.inl ⟨by rfl, ?hy15⟩) ?hr15
    case hy15 => (intro w hSw; (try dsimp only at hSw); go_simp; try with_reducible rfl)
    simp only [Act.put, List.getElem_toArray, List.getElem_cons_zero, List.getElem_cons_succ, List.setIfInBounds_toArray, List.set_cons_zero, List.set_cons_succ]
    refine tkY 2 (v := ?v16) rfl (.inl ⟨by rfl, ?hy16⟩) ?hr16
    case hy16 => (intro w hSw; (try dsimp only at hSw); go_simp; try with_reducible rfl)
    simp only [Act.put, List.getElem_toArray, List.getElem_cons_zero, List.getElem_cons_succ, List.setIfInBounds_toArray, List.set_cons_zero, List.set_cons_succ]
    refine tkY 3 (v := ?v17) rfl (.inl ⟨by rfl, ?hy17⟩) ?hr17
    case hy17 => (intro w hSw; (try dsimp only at hSw); go_simp; try with_reducible rfl)
    simp only [Act.put, List.getElem_toArray, List.getElem_cons_zero, List.getElem_cons_succ, List.setIfInBounds_toArray, List.set_cons_zero, List.set_cons_succ]
    refine tkY 4 (v := ?v18) rfl (.inl ⟨by rfl, ?hy18⟩) ?hr18
    case hy18 => (intro w hSw; (try dsimp only at hSw); go_simp; try with_reducible rfl)
    simp only [Act.put, List.getElem_toArray, List.getElem_cons_zero, List.getElem_cons_succ, List.setIfInBounds_toArray, List.set_cons_zero, List.set_cons_succ]
    refine tkY 5 (v := ?v19) rfl (.inl ⟨by rfl, ?hy19⟩) ?hr19
    case hy19 => (intro w hSw; (try dsimp only at hSw); go_simp; try with_reducible rfl)
    simp only [Act.put, List.getElem_toArray, List.getElem_cons_zero, List.getElem_cons_succ, List.setIfInBounds_toArray, List.set_cons_zero, List.set_cons_succ]
    refine tkY 6 (v := ?v20) rfl (.inl ⟨by rfl, ?hy20⟩) ?hr20
    case hy20 => (intro w hSw; (try dsimp only at hSw); go_simp; try with_reducible rfl)
    simp only [Act.put, List.getElem_toArray, List.getElem_cons_zero, List.getElem_cons_succ, List.setIfInBounds_toArray, List.set_cons_zero, List.set_cons_succ]
    refine tkY 7 (v := ?v21) rfl (.inl ⟨by rfl, ?hy21⟩) ?hr21
    case hy21 => (intro w hSw; (try dsimp only at hSw); go_simp; try with_reducible rfl)
    simp only [Act.put, List.getElem_toArray, List.getElem_cons_zero, List.getElem_cons_succ, List.setIfInBounds_toArray, List.set_cons_zero, List.set_cons_succ]
    refine tkY 8 (v := ?v22) rfl (.inl ⟨by rfl, ?hy22⟩) ?hr22
    case hy22 => (intro w hSw; (try dsimp only at hSw); go_simp; try with_reducible rfl)
    simp only [Act.put, List.getElem_toArray, List.getElem_cons_zero, List.getElem_cons_succ, List.setIfInBounds_toArray, List.set_cons_zero, List.set_cons_succ]
    refine tkY 9 (v := ?v23) rfl (.inl ⟨by rfl, ?hy23⟩) ?hr23
    case hy23 => (intro w hSw; (try dsimp only at hSw); go_simp; try with_reducible rfl)
    simp only [Act.put, List.getElem_toArray, List.getElem_cons_zero, List.getElem_cons_succ, List.setIfInBounds_toArray, List.set_cons_zero, List.set_cons_succ]
    refine tkY 10 (v := ?v24) rfl (.inl ⟨by rfl, ?hy24⟩) ?hr24
    case hy24 => (intro w hSw; (try dsimp only at hSw); go_simp; try with_reducible rfl)
    simp only [Act.put, List.getElem_toArray, List.getElem_cons_zero, List.getElem_cons_succ, List.setIfInBounds_toArray, List.set_cons_zero, List.set_cons_succ]
    refine tkY 11 (v := ?v25) rfl (.inl ⟨by rfl, ?hy25⟩) ?hr25
    case hy25 => (intro w hSw; (try dsimp only at hSw); go_simp; try with_reducible rfl)
    simp only [Act.put, List.getElem_toArray, List.getElem_cons_zero, List.getElem_cons_succ, List.setIfInBounds_toArray, List.set_cons_zero, List.set_cons_succ]
    refine wpAnyH_ready (rs := [12]) (by kernel_rfl) (by simp) ?_
    refine AllReadyH.cons rfl (fun K hK => ?_) AllReadyH.nil
    go_simp
    go_at_call 37
    refine (compare_any p q _ (by omega) (by omega)).mono ?_
    rintro e w7 ⟨rfl, hbq⟩
    dsimp only
    refine hK.out _ _ ?_ (fun hHeld => ?_)
    · (try dsimp only)
      exact keepS.out _ _ hHeld hbq
    clear hK K
    try simp only [Act.put, List.getElem_toArray, List.getElem_cons_zero, List.getElem_cons_succ, List.setIfInBounds_toArray, List.set_cons_zero, List.set_cons_succ]
    refine tkY 13 (v := ?v26) rfl (.inl ⟨by rfl, ?hy26⟩) ?hr26
    case hy26 => (intro w hSw; (try dsimp only at hSw); go_simp; try with_reducible rfl)
    simp only [Act.put, List.getElem_toArray, List.getElem_cons_zero, List.getElem_cons_succ, List.setIfInBounds_toArray, List.set_cons_zero, List.set_cons_succ]
    refine tkY 14 (v := ?v27) rfl (.inl ⟨by rfl, ?hy27⟩) ?hr27
    case hy27 => (intro w hSw; (try dsimp only at hSw); go_simp; try with_reducible rfl)
    simp only [Act.put, List.getElem_toArray, List.getElem_cons_zero, List.getElem_cons_succ, List.setIfInBounds_toArray, List.set_cons_zero, List.set_cons_succ]
    refine tkY 15 (v := ?v28) rfl (.inl ⟨by rfl, ?hy28⟩) ?hr28
    case hy28 => (intro w hSw; (try dsimp only at hSw); go_simp; try with_reducible rfl)
    simp only [Act.put, List.getElem_toArray, List.getElem_cons_zero, List.getElem_cons_succ, List.setIfInBounds_toArray, List.set_cons_zero, List.set_cons_succ]
    refine wpAnyH_done (by kernel_rfl) ?_ _
    have hbq := hHeld.1
    repeat' ((fail_if_success at_builtin); (first | go_skip | go_guarded | go_step))
    go_ret
    exact ⟨retB (by rw [Bool.eq_iff_iff]; simp; rw [hcv.out]), hbq⟩
end Go.Proofs.YtppbblgdcckbdaaDoor
