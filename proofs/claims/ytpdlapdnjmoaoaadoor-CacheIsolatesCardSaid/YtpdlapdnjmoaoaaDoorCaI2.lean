/- Cache: the law's possible and best. -/
import Derived.Test.YtpdlapdnjmoaoaaDoorCaI1
import Derived.Test.YtpdlapdnjmoaoaaDoorHk
namespace Go.Proofs.YtpdlapdnjmoaoaaDoor
open Go.RowKit
set_option maxRecDepth 100000 in
set_option maxHeartbeats 1000000 in
theorem begins2_any (s h : ByteArray) (w : World) : Calls Tryd.prog 57 #[.string s, .string h] w fun e w' => e = .returned (.bool (Lib.hasPrefix s.data.toList h.data.toList)) ∧ w' = w := by
  have hr := Lib.hasPrefix_raw s h
  by_cases hle : h.size ≤ s.size
  · have h1 : (h.size : Int) ≤ (s.size : Int) := by omega
    have h2 : (0 : Int) ≤ (h.size : Int) := by omega
    simp only [hle, decide_true, Bool.true_and] at hr
    go_enter Tryd.func57, Tryd.ntmps57
    repeat' ((fail_if_success at_builtin); (first | go_skip | go_guarded | go_step))
    go_ret
    exact ⟨by rw [← hr]; rfl, rfl⟩
  · have h1 : ¬ ((h.size : Int) ≤ (s.size : Int)) := by omega
    simp only [hle, decide_false, Bool.false_and] at hr
    rw [← hr]
    clear hr
    go_enter Tryd.func57, Tryd.ntmps57
    repeat' ((fail_if_success at_builtin); (first | go_skip | go_guarded | go_step))
    go_ret
    exact ⟨rfl, rfl⟩
def hitK (k : ByteArray) (ps : List ByteArray) (x : Ent) : Bool := keyP k x || ps.any fun q => preP q x
theorem strs_at {w : World} {A : Option Addr} {m j : Nat} {ps : List ByteArray} {q : ByteArray} (hs : Seq w w.heap.size 1 A m (ps.map Value.string)) (hj : j < m) (hq : ps[j]? = some q) :
    ∃ b o, A = some ⟨b, o, none⟩ ∧ b < w.heap.size ∧ w.cell? ⟨b, o + j, none⟩ = some (.string q) := by
  obtain ⟨b, o, rfl, hb, hc⟩ := hs.2 (by omega)
  exact ⟨b, o, rfl, hb, hc j (.string q) (by rw [List.getElem?_map, hq]; rfl)⟩
set_option maxRecDepth 100000 in
set_option maxHeartbeats 4000000 in
theorem possible_any (l : List Ent) (A : Option Addr) (n c : Nat) (k : ByteArray) (ps : List ByteArray) (A2 : Option Addr) (m c2 : Nat) (w : World) (hn : n = l.length) (hs : Seq w w.heap.size 8 A n (entsC l)) (hl : n ≤ 1000000000) (hm : m = ps.length) (hs2 : Seq w w.heap.size 1 A2 m (ps.map Value.string)) (hl2 : m ≤ 1000000000) :
    Calls Tryd.prog 33 #[.slice A n c, .string k, .slice A2 m c2] w fun e w' => e = .returned (.bool (possS l k ps)) ∧ Below w.heap.size w w' := by
  have hst : possS l k ps = (l.drop 0).any (hitK k ps) := rfl
  generalize possS l k ps = fin at *
  replace hst := Lib.hid hst
  replace hs := Lib.hid hs
  replace hs2 := Lib.hid hs2
  replace hn := Lib.hid hn
  replace hm := Lib.hid hm
  go_enter Tryd.func33, Tryd.ntmps33
  repeat' ((fail_if_success at_builtin); (first | go_skip | go_guarded | go_step))
  go_loopw [7] (fun uI wr => ∃ i : Nat, i ≤ n ∧ uI = .int .i64 (i : Int) ∧ Below w.heap.size w wr ∧ fin = (l.drop i).any (hitK k ps)) (fun uI _ => n - (intOf uI).toNat)
  case atStart => exact ⟨0, by omega, rfl, Below.refl _ _, hst.out⟩
  case round =>
    clear hst
    obtain ⟨i, hi, rfl, hb, hu⟩ := hrel
    by_cases hlt : i < n
    · have hlt2 : i < l.length := by have := hn.out; omega
      have hx : l[i]? = some l[i] := List.getElem?_eq_getElem hlt2
      obtain ⟨bl, off, rfl, hbB, hc⟩ := ent_at hs.out hn.out hx
      rw [List.drop_eq_getElem_cons hlt2, List.any_cons] at hu
      have c3 := (hc.map (fun j => hb.cell (p := ⟨bl, off + i * 8 + j, none⟩) hbB)).c3
      generalize l[i] = x at *
      have i0 : (0 : Int) ≤ (i : Int) := by omega
      have i1 : (i : Int) < (n : Int) := by omega
      have i2 : IntKind.i64.wrap ((i : Int) + 1) = (i : Int) + 1 := IntWalk.i64_in _ (by omega)
      generalize hrest : (l.drop (i + 1)).any (hitK k ps) = rest at hu
      replace hrest := hrest.symm
      replace hx := Lib.hid hx
      cases hk : keyP k x with
      | true =>
        have hf : fin = true := by rw [hu, hitK, hk]; rfl
        have hk' : (x.key.toList == k.toList) = true := hk
        replace hf := Lib.hid hf
        clear hu hc hx
        repeat' ((fail_if_success at_builtin); (first | go_skip | go_guarded | go_step))
        go_ret
        exact ⟨ret_b hf.out.symm, hb⟩
      | false =>
        have hk' : (x.key.toList == k.toList) = false := hk
        have hst : fin = ((ps.drop 0).any (fun q => preP q x) || rest) := by rw [hu, hitK, hk]; rfl
        replace hst := Lib.hid hst
        replace hrest := Lib.hid hrest
        clear hu hc hk
        repeat' ((fail_if_success at_builtin); (first | go_skip | go_guarded | go_step))
        go_loopw [8] (fun uJ wr => ∃ j : Nat, j ≤ m ∧ uJ = .int .i64 (j : Int) ∧ Below w.heap.size w wr ∧ fin = ((ps.drop j).any (fun q => preP q x) || rest)) (fun uJ _ => m - (intOf uJ).toNat)
        case atStart => exact ⟨0, by omega, rfl, hb, hst.out⟩
        case round =>
          clear hst c3
          have hb0 := hb
          clear hb
          obtain ⟨j, hj, rfl, hb, hu⟩ := hrel
          by_cases hlj : j < m
          · have hlj2 : j < ps.length := by have := hm.out; omega
            have hq : ps[j]? = some ps[j] := List.getElem?_eq_getElem hlj2
            obtain ⟨bq, oq, rfl, hbq, hcq⟩ := strs_at hs2.out hlj hq
            rw [List.drop_eq_getElem_cons hlj2, List.any_cons] at hu
            obtain ⟨bl', off', heq, hbB', hc⟩ := ent_at hs.out hn.out hx.out
            cases heq
            have c3 := (hc.map (fun j => hb.cell (p := ⟨bl, off + i * 8 + j, none⟩) hbB)).c3
            have ks := (hb.cell (p := ⟨bq, oq + j, none⟩) hbq).trans hcq
            generalize ps[j] = q at *
            have j0 : (0 : Int) ≤ (j : Int) := by omega
            have j1 : (j : Int) < (m : Int) := by omega
            have j2 : IntKind.i64.wrap ((j : Int) + 1) = (j : Int) + 1 := IntWalk.i64_in _ (by omega)
            clear hc hcq hq
            cases hp : preP q x with
            | true =>
              have hsel : Lib.hasPrefix x.key.data.toList q.data.toList = true := hp
              have hf : fin = true := by rw [hu, hp]; rfl
              replace hf := Lib.hid hf
              clear hu
              have hS1 : Below w.heap.size w wr.drew ∧ wr.drew.cell? ⟨bl, off + i * 8 + 3, none⟩ = some (.string x.key) ∧ wr.drew.cell? ⟨bq, oq + j, none⟩ = some (.string q) := ⟨hb.drew, c3, ks⟩
              repeat' ((fail_if_success at_builtin); (first | go_skip | go_guarded | go_step))
              refine wp_region_held_drew (S := fun w' => Below w.heap.size w w' ∧ w'.cell? ⟨bl, off + i * 8 + 3, none⟩ = some (.string x.key) ∧ w'.cell? ⟨bq, oq + j, none⟩ = some (.string q)) (by kernel_rfl) ?_ (fun hHeld => ?_)
              · (try dsimp only)
                exact hS1
              refine tkY 0 (v := ?v606) rfl (.inl ⟨by rfl, ?hy606⟩) ?hr606
              case hy606 => (intro w hSw; (try dsimp only at hSw); go_simp; try with_reducible rfl)
              simp only [Act.put, List.getElem_toArray, List.getElem_cons_zero, List.getElem_cons_succ, List.setIfInBounds_toArray, List.set_cons_zero, List.set_cons_succ]
              refine tkY 1 (v := ?v607) rfl (.inl ⟨by rfl, ?hy607⟩) ?hr607
              case hy607 => (intro w hSw; (try dsimp only at hSw); go_simp; try with_reducible rfl)
              simp only [Act.put, List.getElem_toArray, List.getElem_cons_zero, List.getElem_cons_succ, List.setIfInBounds_toArray, List.set_cons_zero, List.set_cons_succ]
              refine tkY 2 (v := ?v608) rfl (.inl ⟨by rfl, ?hy608⟩) ?hr608
              case hy608 => (intro w hSw; (try dsimp only at hSw); go_simp; try with_reducible rfl)
              simp only [Act.put, List.getElem_toArray, List.getElem_cons_zero, List.getElem_cons_succ, List.setIfInBounds_toArray, List.set_cons_zero, List.set_cons_succ]
              refine tkY 3 (v := ?v609) rfl (.inl ⟨by rfl, ?hy609⟩) ?hr609
              case hy609 => (intro w hSw; (try dsimp only at hSw); go_simp; try with_reducible rfl)
              simp only [Act.put, List.getElem_toArray, List.getElem_cons_zero, List.getElem_cons_succ, List.setIfInBounds_toArray, List.set_cons_zero, List.set_cons_succ]
              refine tkY 4 (v := ?v610) rfl (.inl ⟨by rfl, ?hy610⟩) ?hr610
              case hy610 => (intro w hSw; (try dsimp only at hSw); go_simp; try with_reducible rfl)
              simp only [Act.put, List.getElem_toArray, List.getElem_cons_zero, List.getElem_cons_succ, List.setIfInBounds_toArray, List.set_cons_zero, List.set_cons_succ]
              refine tkY 5 (v := ?v611) rfl (.inl ⟨by rfl, ?hy611⟩) ?hr611
              case hy611 => (intro w hSw; (try dsimp only at hSw); go_simp; try with_reducible rfl)
              simp only [Act.put, List.getElem_toArray, List.getElem_cons_zero, List.getElem_cons_succ, List.setIfInBounds_toArray, List.set_cons_zero, List.set_cons_succ]
              refine tkY 6 (v := ?v612) rfl (.inl ⟨by rfl, ?hy612⟩) ?hr612
              case hy612 => (intro w hSw; (try dsimp only at hSw); go_simp; try with_reducible rfl)
              simp only [Act.put, List.getElem_toArray, List.getElem_cons_zero, List.getElem_cons_succ, List.setIfInBounds_toArray, List.set_cons_zero, List.set_cons_succ]
              refine tkY 7 (v := ?v613) rfl (.inl ⟨by rfl, ?hy613⟩) ?hr613
              case hy613 => (intro w hSw; (try dsimp only at hSw); go_simp; try with_reducible rfl)
              simp only [Act.put, List.getElem_toArray, List.getElem_cons_zero, List.getElem_cons_succ, List.setIfInBounds_toArray, List.set_cons_zero, List.set_cons_succ]
              refine tkY 8 (v := ?v614) rfl (.inl ⟨by rfl, ?hy614⟩) ?hr614
              case hy614 => (intro w hSw; (try dsimp only at hSw); go_simp; try with_reducible rfl)
              simp only [Act.put, List.getElem_toArray, List.getElem_cons_zero, List.getElem_cons_succ, List.setIfInBounds_toArray, List.set_cons_zero, List.set_cons_succ]
              refine wpAnyH_ready (rs := [9]) (by kernel_rfl) (by simp) ?_
              refine AllReadyH.cons rfl (fun K hK => ?_) AllReadyH.nil
              go_simp
              go_at_call 57
              refine (begins2_any _ _ _).mono ?_
              rintro e v9 ⟨rfl, rfl⟩
              dsimp only
              (try rw [hsel])
              (try simp only [hsel])
              refine hK.out _ _ ?_ (fun hHeld => ?_)
              · (try dsimp only)
                exact hHeld
              clear hK K
              try simp only [Act.put, List.getElem_toArray, List.getElem_cons_zero, List.getElem_cons_succ, List.setIfInBounds_toArray, List.set_cons_zero, List.set_cons_succ]
              refine wpAnyH_done (by kernel_rfl) ?_ _
              have hb9 := hHeld.1
              repeat' ((fail_if_success at_builtin); (first | go_skip | go_guarded | go_step))
              go_ret
              exact ⟨ret_b hf.out.symm, hb9⟩
            | false =>
              have hsel : Lib.hasPrefix x.key.data.toList q.data.toList = false := hp
              rw [hp, Bool.false_or] at hu
              replace hu := Lib.hid hu
              have hS1 : Below w.heap.size w wr.drew ∧ wr.drew.cell? ⟨bl, off + i * 8 + 3, none⟩ = some (.string x.key) ∧ wr.drew.cell? ⟨bq, oq + j, none⟩ = some (.string q) := ⟨hb.drew, c3, ks⟩
              repeat' ((fail_if_success at_builtin); (first | go_skip | go_guarded | go_step))
              refine wp_region_held_drew (S := fun w' => Below w.heap.size w w' ∧ w'.cell? ⟨bl, off + i * 8 + 3, none⟩ = some (.string x.key) ∧ w'.cell? ⟨bq, oq + j, none⟩ = some (.string q)) (by kernel_rfl) ?_ (fun hHeld => ?_)
              · (try dsimp only)
                exact hS1
              refine tkY 0 (v := ?v615) rfl (.inl ⟨by rfl, ?hy615⟩) ?hr615
              case hy615 => (intro w hSw; (try dsimp only at hSw); go_simp; try with_reducible rfl)
              simp only [Act.put, List.getElem_toArray, List.getElem_cons_zero, List.getElem_cons_succ, List.setIfInBounds_toArray, List.set_cons_zero, List.set_cons_succ]
              refine tkY 1 (v := ?v616) rfl (.inl ⟨by rfl, ?hy616⟩) ?hr616
              case hy616 => (intro w hSw; (try dsimp only at hSw); go_simp; try with_reducible rfl)
              simp only [Act.put, List.getElem_toArray, List.getElem_cons_zero, List.getElem_cons_succ, List.setIfInBounds_toArray, List.set_cons_zero, List.set_cons_succ]
              refine tkY 2 (v := ?v617) rfl (.inl ⟨by rfl, ?hy617⟩) ?hr617
              case hy617 => (intro w hSw; (try dsimp only at hSw); go_simp; try with_reducible rfl)
              simp only [Act.put, List.getElem_toArray, List.getElem_cons_zero, List.getElem_cons_succ, List.setIfInBounds_toArray, List.set_cons_zero, List.set_cons_succ]
              refine tkY 3 (v := ?v618) rfl (.inl ⟨by rfl, ?hy618⟩) ?hr618
              case hy618 => (intro w hSw; (try dsimp only at hSw); go_simp; try with_reducible rfl)
              simp only [Act.put, List.getElem_toArray, List.getElem_cons_zero, List.getElem_cons_succ, List.setIfInBounds_toArray, List.set_cons_zero, List.set_cons_succ]
              refine tkY 4 (v := ?v619) rfl (.inl ⟨by rfl, ?hy619⟩) ?hr619
              case hy619 => (intro w hSw; (try dsimp only at hSw); go_simp; try with_reducible rfl)
              simp only [Act.put, List.getElem_toArray, List.getElem_cons_zero, List.getElem_cons_succ, List.setIfInBounds_toArray, List.set_cons_zero, List.set_cons_succ]
              refine tkY 5 (v := ?v620) rfl (.inl ⟨by rfl, ?hy620⟩) ?hr620
              case hy620 => (intro w hSw; (try dsimp only at hSw); go_simp; try with_reducible rfl)
              simp only [Act.put, List.getElem_toArray, List.getElem_cons_zero, List.getElem_cons_succ, List.setIfInBounds_toArray, List.set_cons_zero, List.set_cons_succ]
              refine tkY 6 (v := ?v621) rfl (.inl ⟨by rfl, ?hy621⟩) ?hr621
              case hy621 => (intro w hSw; (try dsimp only at hSw); go_simp; try with_reducible rfl)
              simp only [Act.put, List.getElem_toArray, List.getElem_cons_zero, List.getElem_cons_succ, List.setIfInBounds_toArray, List.set_cons_zero, List.set_cons_succ]
              refine tkY 7 (v := ?v622) rfl (.inl ⟨by rfl, ?hy622⟩) ?hr622
              case hy622 => (intro w hSw; (try dsimp only at hSw); go_simp; try with_reducible rfl)
              simp only [Act.put, List.getElem_toArray, List.getElem_cons_zero, List.getElem_cons_succ, List.setIfInBounds_toArray, List.set_cons_zero, List.set_cons_succ]
              refine tkY 8 (v := ?v623) rfl (.inl ⟨by rfl, ?hy623⟩) ?hr623
              case hy623 => (intro w hSw; (try dsimp only at hSw); go_simp; try with_reducible rfl)
              simp only [Act.put, List.getElem_toArray, List.getElem_cons_zero, List.getElem_cons_succ, List.setIfInBounds_toArray, List.set_cons_zero, List.set_cons_succ]
              refine wpAnyH_ready (rs := [9]) (by kernel_rfl) (by simp) ?_
              refine AllReadyH.cons rfl (fun K hK => ?_) AllReadyH.nil
              go_simp
              go_at_call 57
              refine (begins2_any _ _ _).mono ?_
              rintro e v9 ⟨rfl, rfl⟩
              dsimp only
              (try rw [hsel])
              (try simp only [hsel])
              refine hK.out _ _ ?_ (fun hHeld => ?_)
              · (try dsimp only)
                exact hHeld
              clear hK K
              try simp only [Act.put, List.getElem_toArray, List.getElem_cons_zero, List.getElem_cons_succ, List.setIfInBounds_toArray, List.set_cons_zero, List.set_cons_succ]
              refine wpAnyH_done (by kernel_rfl) ?_ _
              have hb9 := hHeld.1
              repeat' ((fail_if_success at_builtin); (first | go_skip | go_guarded | go_step))
              go_roundw
              case rel => exact ⟨j + 1, by omega, by go_num, hb9, hu.out⟩
              case measure => simp [intOf]; omega
          · have j1 : ¬ ((j : Int) < (m : Int)) := by omega
            rw [List.drop_of_length_le (by have := hm.out; omega), List.any_nil, Bool.false_or, hrest.out] at hu
            replace hu := Lib.hid hu
            repeat' ((fail_if_success at_builtin); (first | go_skip | go_guarded | go_step))
            go_roundw
            case rel => exact ⟨i + 1, by omega, by go_num, hb, hu.out⟩
            case measure => simp [intOf]; omega
    · have i1 : ¬ ((i : Int) < (n : Int)) := by omega
      rw [List.drop_of_length_le (by have := hn.out; omega), List.any_nil] at hu
      replace hu := Lib.hid hu
      repeat' ((fail_if_success at_builtin); (first | go_skip | go_guarded | go_step))
      go_ret
      exact ⟨ret_b hu.out.symm, hb⟩
end Go.Proofs.YtpdlapdnjmoaoaaDoor
