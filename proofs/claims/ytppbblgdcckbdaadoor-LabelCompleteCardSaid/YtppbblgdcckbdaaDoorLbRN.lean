/- Label: the document's Need and Valid. -/
import Derived.Test.YtppbblgdcckbdaaDoorLbVl
import Derived.Test.YtppbblgdcckbdaaDoorLbM
import Derived.BigQuiet
namespace Go.Proofs.YtppbblgdcckbdaaDoor
open Go.RowKit
theorem any_step {f : List UInt8 → Bool} {l : List ByteArray} {k : Nat} {p : ByteArray} (h : l[k]? = some p) : (toLs (l.take (k + 1))).any f = ((toLs (l.take k)).any f || f p.data.toList) := by
  rw [take_snoc h]
  unfold toLs
  rw [List.map_append, List.any_append]
  simp
theorem any_hit {f : List UInt8 → Bool} {l : List ByteArray} {k i : Nat} {p : ByteArray} (h : l[k]? = some p) (hk : k < i) (hf : f p.data.toList = true) : (toLs (l.take i)).any f = true := by
  rw [List.any_eq_true]
  refine ⟨p.data.toList, List.mem_map.2 ⟨p, List.mem_of_getElem? (i := k) ?_, rfl⟩, hf⟩
  rw [List.getElem?_take, if_pos hk, h]
theorem chk_at {bd : List UInt8 → Bool} {key : List UInt8 → List UInt8} {l : List ByteArray} {i : Nat} {q : ByteArray} {fin : Int} (h : ChkI bd key l i fin) (hq : l[i]? = some q) : fin = if bd q.data.toList then 5 else if (toLs (l.take i)).any (fun x => key x == key q.data.toList) then 7 else if ordBad (toLs (l.take i)) q.data.toList then 22 else chkF bd key ((toLs l).take (i + 1)) ((toLs l).drop (i + 1)) := by
  unfold ChkI at h
  rw [h, chkF_at (toLs_at hq), toLs_take]
set_option maxRecDepth 100000 in
set_option maxHeartbeats 4000000 in
theorem refNeed_any (l : List ByteArray) (A : Option Addr) (n c : Nat) (w : World) (hn : n = l.length) (hs : Seq w w.heap.size 1 A n (cellsS l)) (hl : n ≤ 1000000) (hm : ∀ q ∈ l, q.size ≤ 1000000) :
    Calls Tryd.prog 20 #[.slice A n c] w fun e w' => e = .returned (.int .i64 (needL (toLs l))) ∧ Below w.heap.size w w' := by
  obtain ⟨fin, hfin⟩ : ∃ fin, fin = needL (toLs l) := ⟨_, rfl⟩
  replace hfin := Lib.hid hfin
  have hfl : ∀ (w' : World) (u v x : Value), (Instr.field 38 (.agg #[u, v, x]) 0).run Tryd.prog w' = .ok u w' := fun _ _ _ _ => by kernel_rfl
  have hfl1 : ∀ (w' : World) (u v x : Value), (Instr.field 38 (.agg #[u, v, x]) 1).run Tryd.prog w' = .ok v w' := fun _ _ _ _ => by kernel_rfl
  by_cases hbig : 32 < n
  · have g1 : (32 : Int) < (n : Int) := by omega
    have hv : fin = 3 := by rw [hfin.out]; unfold needL; rw [if_pos (by rw [toLs_len]; omega)]
    replace hv := Lib.hid hv
    replace hn := Lib.hid hn
    go_enter Tryd.func20, Tryd.ntmps20
    repeat' ((fail_if_success at_builtin); (first | go_skip | go_guarded | go_step))
    go_ret
    exact ⟨by rw [← hfin.out, hv.out]; rfl, Below.refl _ _⟩
  · have g1 : ¬ (32 : Int) < (n : Int) := by omega
    have hst : ChkI reqBd id l 0 fin := by unfold ChkI; rw [hfin.out]; unfold needL; rw [if_neg (by rw [toLs_len]; omega)]; rfl
    replace hst := Lib.hid hst
    replace hs := Lib.hid hs
    replace hn := Lib.hid hn
    replace hm := Lib.hid hm
    go_enter Tryd.func20, Tryd.ntmps20
    repeat' ((fail_if_success at_builtin); (first | go_skip | go_guarded | go_step))
    go_loopw [3] (fun u3 wr => ∃ i : Nat, i ≤ n ∧ u3 = .int .i64 (i : Int) ∧ Below w.heap.size w wr ∧ ChkI reqBd id l i fin) (fun u3 _ => n - (intOf u3).toNat)
    case atStart => exact ⟨0, by omega, rfl, Below.refl _ _, hst.out⟩
    case round =>
      clear hst
      obtain ⟨i, hi, rfl, hb, hu⟩ := hrel
      by_cases hlt : i < n
      · have i0 : (0 : Int) ≤ (i : Int) := by omega
        have i1 : (i : Int) < (n : Int) := by omega
        have i2 : IntKind.i64.wrap ((i : Int) + 1) = (i : Int) + 1 := IntWalk.i64_in _ (by omega)
        obtain ⟨q, hq⟩ : ∃ q, l[i]? = some q := ⟨_, List.getElem?_eq_getElem (by have := hn.out; omega)⟩
        obtain ⟨bl, off, rfl, hbl, hcq⟩ := strs_at hs.out hlt hq
        have hq6 := hm.out q (List.mem_of_getElem? hq)
        have hu2 := chk_at hu hq
        have cq := (hb.cell (p := ⟨bl, off + i, none⟩) hbl).trans hcq
        clear hu
        repeat' ((fail_if_success at_builtin); (first | go_skip | go_guarded | go_step))
        refine (read_any q wr (by omega)).mono ?_
        rintro e w2 ⟨rfl, hb2⟩
        dsimp only
        have hb3 := hb.trans (hb2.mono hb.size)
        by_cases hF : (readL q.data.toList).form = 0
        · have hf : fin = 5 := by rw [hu2]; unfold reqBd; rw [hF]; rfl
          have hFb : (((readL q.data.toList).form : Int) == 0) = true := by rw [hF]; rfl
          replace hf := Lib.hid hf
          clear hu2 hF
          repeat' ((fail_if_success at_builtin); (first | go_skip | go_guarded | go_step))
          go_ret
          exact ⟨by rw [← hfin.out, hf.out]; rfl, hb3⟩
        · have hFb : (((readL q.data.toList).form : Int) == 0) = false := by simp; omega
          have hFc : reqBd q.data.toList = false := by unfold reqBd; simp; omega
          rw [hFc] at hu2
          have hu3 : fin = if (toLs (l.take i)).any (fun x => id x == id q.data.toList) then 7 else if ordBad (toLs (l.take i)) q.data.toList then 22 else chkF reqBd id ((toLs l).take (i + 1)) ((toLs l).drop (i + 1)) := hu2
          replace hu3 := Lib.hid hu3
          clear hu2 hF hFc cq
          obtain ⟨wo, hwo⟩ : ∃ wo : World, wo = wr := ⟨wr, rfl⟩
          subst hwo
          repeat' ((fail_if_success at_builtin); (first | go_skip | go_guarded | go_step))
          go_loopw [4] (fun u4 wr => ∃ k : Nat, k ≤ i ∧ u4 = .int .i64 (k : Int) ∧ Below w.heap.size w wr ∧ (toLs (l.take k)).any (fun x => id x == id q.data.toList) = false) (fun u4 _ => i - (intOf u4).toNat)
          case atStart => exact ⟨0, by omega, rfl, hb3, by rw [List.take_zero]; rfl⟩
          case round =>
            obtain ⟨k, hk, rfl, hbk, hno⟩ := hrel
            by_cases hlk : k < i
            · have k0 : (0 : Int) ≤ (k : Int) := by omega
              have k1 : (k : Int) < (n : Int) := by omega
              have k3 : (k : Int) < (i : Int) := by omega
              have k2 : IntKind.i64.wrap ((k : Int) + 1) = (k : Int) + 1 := IntWalk.i64_in _ (by omega)
              obtain ⟨p, hp⟩ : ∃ p, l[k]? = some p := ⟨_, List.getElem?_eq_getElem (by have := hn.out; omega)⟩
              obtain ⟨bl2, off2, hA2, hbl2, hcp⟩ := strs_at hs.out (by omega : k < n) hp
              cases hA2
              have hp6 := hm.out p (List.mem_of_getElem? hp)
              have cp := (hbk.cell (p := ⟨bl, off + k, none⟩) hbl).trans hcp
              have cq2 := (hbk.cell (p := ⟨bl, off + i, none⟩) hbl).trans hcq
              have hbeq : (p.toList == q.toList) = (p.data.toList == q.data.toList) := by rw [ByteArray.toList_eq, ByteArray.toList_eq]
              cases hpq : (id p.data.toList == id q.data.toList) with
              | true =>
                have hf : fin = 7 := by rw [hu3.out, any_hit hp hlk hpq]; rfl
                replace hf := Lib.hid hf
                replace hpq := hbeq.trans hpq
                clear hu3 hbeq
                repeat' ((fail_if_success at_builtin); (first | go_skip | go_guarded | go_step))
                go_quiet (fail)
                have hb9 := hbk.trans (Below.mono (Below.drewN wr nq) hbk.size)
                repeat' ((fail_if_success at_builtin); (first | go_skip | go_guarded | go_step))
                go_ret
                exact ⟨by rw [← hfin.out, hf.out]; rfl, hb9⟩
              | false =>
                have hno2 : (toLs (l.take (k + 1))).any (fun x => id x == id q.data.toList) = false := by rw [any_step hp, hno, hpq]; rfl
                replace hno2 := Lib.hid hno2
                replace hpq := hbeq.trans hpq
                clear hbeq hno
                repeat' ((fail_if_success at_builtin); (first | go_skip | go_guarded | go_step))
                go_quiet (fail)
                have hb9 := hbk.trans (Below.mono (Below.drewN wr nq) hbk.size)
                repeat' ((fail_if_success at_builtin); (first | go_skip | go_guarded | go_step))
                go_roundw
                case rel => exact ⟨k + 1, by omega, by go_num, hb9, hno2.out⟩
                case measure => simp [intOf]; omega
            · have hki : k = i := by omega
              subst hki
              have k3 : ¬ (k : Int) < (k : Int) := by omega
              rw [hno] at hu3
              have hu4 : fin = if ordBad (toLs (l.take k)) q.data.toList then 22 else chkF reqBd id ((toLs l).take (k + 1)) ((toLs l).drop (k + 1)) := hu3.out
              replace hu4 := Lib.hid hu4
              clear hu3 hno hk hlk
              rcases Nat.eq_zero_or_pos k with h0 | h0
              · subst h0
                have hf : ChkI reqBd id l (0 + 1) fin := by
                  unfold ChkI
                  rw [hu4.out, List.take_zero]
                  rfl
                replace hf := Lib.hid hf
                clear hu4
                have hS1 : Below w.heap.size w wr.drew := hbk.drew
                repeat' ((fail_if_success at_builtin); (first | go_skip | go_guarded | go_step))
                refine wp_region_held_drew (S := fun w' => Below w.heap.size w w') (by kernel_rfl) ?_ (fun hHeld => ?_)
                · (try dsimp only)
                  exact hS1
                refine tkY 0 (v := ?v48) rfl (.inl ⟨by rfl, ?hy48⟩) ?hr48
                case hy48 => (intro w hSw; (try dsimp only at hSw); go_simp; try with_reducible rfl)
                simp only [Act.put, List.getElem_toArray, List.getElem_cons_zero, List.setIfInBounds_toArray, List.set_cons_zero, List.set_cons_succ]
                refine tkY 1 (v := ?v49) rfl (.inl ⟨by rfl, ?hy49⟩) ?hr49
                case hy49 => (intro w hSw; (try dsimp only at hSw); go_simp; try with_reducible rfl)
                simp only [Act.put, List.getElem_toArray, List.getElem_cons_zero, List.getElem_cons_succ, List.setIfInBounds_toArray, List.set_cons_zero, List.set_cons_succ]
                refine tkY 2 (v := ?v50) rfl (.inl ⟨by rfl, ?hy50⟩) ?hr50
                case hy50 => (intro w hSw; (try dsimp only at hSw); go_simp; try with_reducible rfl)
                simp only [Act.put, List.getElem_toArray, List.getElem_cons_zero, List.getElem_cons_succ, List.setIfInBounds_toArray, List.set_cons_zero, List.set_cons_succ]
                refine tkN 3 rfl ?_
                simp only [Act.put, List.getElem_toArray, List.getElem_cons_zero, List.getElem_cons_succ, List.setIfInBounds_toArray, List.set_cons_zero, List.set_cons_succ]
                refine tkN 4 rfl ?_
                simp only [Act.put, List.getElem_toArray, List.getElem_cons_zero, List.getElem_cons_succ, List.setIfInBounds_toArray, List.set_cons_zero, List.set_cons_succ]
                refine tkN 5 rfl ?_
                simp only [Act.put, List.getElem_toArray, List.getElem_cons_zero, List.getElem_cons_succ, List.setIfInBounds_toArray, List.set_cons_zero, List.set_cons_succ]
                refine tkN 6 rfl ?_
                simp only [Act.put, List.getElem_toArray, List.getElem_cons_zero, List.getElem_cons_succ, List.setIfInBounds_toArray, List.set_cons_zero, List.set_cons_succ]
                refine tkN 7 rfl ?_
                simp only [Act.put, List.getElem_toArray, List.getElem_cons_zero, List.getElem_cons_succ, List.setIfInBounds_toArray, List.set_cons_zero, List.set_cons_succ]
                refine tkN 8 rfl ?_
                simp only [Act.put, List.getElem_toArray, List.getElem_cons_zero, List.getElem_cons_succ, List.setIfInBounds_toArray, List.set_cons_zero, List.set_cons_succ]
                refine tkN 9 rfl ?_
                simp only [Act.put, List.getElem_toArray, List.getElem_cons_zero, List.getElem_cons_succ, List.setIfInBounds_toArray, List.set_cons_zero, List.set_cons_succ]
                refine tkN 10 rfl ?_
                simp only [Act.put, List.getElem_toArray, List.getElem_cons_zero, List.getElem_cons_succ, List.setIfInBounds_toArray, List.set_cons_zero, List.set_cons_succ]
                refine tkN 11 rfl ?_
                simp only [Act.put, List.getElem_toArray, List.getElem_cons_zero, List.getElem_cons_succ, List.setIfInBounds_toArray, List.set_cons_zero, List.set_cons_succ]
                refine tkN 12 rfl ?_
                simp only [Act.put, List.getElem_toArray, List.getElem_cons_zero, List.getElem_cons_succ, List.setIfInBounds_toArray, List.set_cons_zero, List.set_cons_succ]
                refine tkN 13 rfl ?_
                simp only [Act.put, List.getElem_toArray, List.getElem_cons_zero, List.getElem_cons_succ, List.setIfInBounds_toArray, List.set_cons_zero, List.set_cons_succ]
                refine tkY 14 (v := ?v51) rfl (.inl ⟨by rfl, ?hy51⟩) ?hr51
                case hy51 => (intro w hSw; (try dsimp only at hSw); go_simp; try with_reducible rfl)
                simp only [Act.put, List.getElem_toArray, List.getElem_cons_zero, List.getElem_cons_succ, List.setIfInBounds_toArray, List.set_cons_zero, List.set_cons_succ]
                refine wpAnyH_done (by kernel_rfl) ?_ _
                have hb9 := hHeld
                repeat' ((fail_if_success at_builtin); (first | go_skip | go_guarded | go_step))
                go_roundw
                case rel => exact ⟨0 + 1, by omega, by go_num, hb9, hf.out⟩
                case measure => simp [intOf]; omega
              · obtain ⟨i, rfl⟩ : ∃ i : Nat, i = k := ⟨k, rfl⟩
                obtain ⟨j, hj⟩ : ∃ j, i = j + 1 := ⟨i - 1, by omega⟩
                obtain ⟨p, hp⟩ : ∃ p, l[j]? = some p := ⟨_, List.getElem?_eq_getElem (by have := hn.out; omega)⟩
                obtain ⟨bl2, off2, hA2, hbl2, hcp⟩ := strs_at hs.out (by omega : j < n) hp
                cases hA2
                have hp6 := hm.out p (List.mem_of_getElem? hp)
                have hob : ordBad (toLs (l.take i)) q.data.toList = decide (0 ≤ cmpN p.data.toList q.data.toList) := by rw [hj]; exact ordBad_succ hp _
                have j0 : (0 : Int) ≤ (j : Int) := by omega
                have j1 : (j : Int) < (n : Int) := by omega
                have j2 : (0 : Int) < (i : Int) := by omega
                have j4 : IntKind.i64.wrap ((i : Int) - 1) = (j : Int) := by rw [IntWalk.i64_in _ (by omega)]; omega
                have hS : ∀ w', Below w.heap.size w w' → (Below w.heap.size w w' ∧ w'.cell? ⟨bl, off + j, none⟩ = some (.string p) ∧ w'.cell? ⟨bl, off + i, none⟩ = some (.string q)) := fun w' h => ⟨h, (h.cell (p := ⟨bl, off + j, none⟩) hbl).trans hcp, (h.cell (p := ⟨bl, off + i, none⟩) hbl).trans hcq⟩
                have keepS : ∀ w' w'', (Below w.heap.size w w' ∧ w'.cell? ⟨bl, off + j, none⟩ = some (.string p) ∧ w'.cell? ⟨bl, off + i, none⟩ = some (.string q)) → Below w'.heap.size w' w'' → (Below w.heap.size w w'' ∧ w''.cell? ⟨bl, off + j, none⟩ = some (.string p) ∧ w''.cell? ⟨bl, off + i, none⟩ = some (.string q)) := fun w' w'' h hq => hS _ (h.1.trans (hq.mono h.1.size))
                have hS1 := hS wr.drew hbk.drew
                replace keepS := Lib.hid keepS
                rw [hob] at hu4
                generalize hcv : cmpN p.data.toList q.data.toList = cv at *
                replace hcv := Lib.hid hcv
                replace hj := Lib.hid hj
                clear hS hp hob hcp
                repeat' ((fail_if_success at_builtin); (first | go_skip | go_guarded | go_step))
                refine wp_region_held_drew (S := fun w' => Below w.heap.size w w' ∧ w'.cell? ⟨bl, off + j, none⟩ = some (.string p) ∧ w'.cell? ⟨bl, off + i, none⟩ = some (.string q)) (by kernel_rfl) ?_ (fun hHeld => ?_)
                · (try dsimp only)
                  exact hS1
                refine tkY 0 (v := ?v34) rfl (.inl ⟨by rfl, ?hy34⟩) ?hr34
                case hy34 => (intro w hSw; (try dsimp only at hSw); go_simp; try with_reducible rfl)
                simp only [Act.put, List.getElem_toArray, List.getElem_cons_zero, List.setIfInBounds_toArray, List.set_cons_zero, List.set_cons_succ]
                refine tkY 1 (v := ?v35) rfl (.inl ⟨by rfl, ?hy35⟩) ?hr35
                case hy35 => (intro w hSw; (try dsimp only at hSw); go_simp; try with_reducible rfl)
                simp only [Act.put, List.getElem_toArray, List.getElem_cons_zero, List.getElem_cons_succ, List.setIfInBounds_toArray, List.set_cons_zero, List.set_cons_succ]
                refine tkY 2 (v := ?v36) rfl (.inl ⟨by rfl, ?hy36⟩) ?hr36
                case hy36 => (intro w hSw; (try dsimp only at hSw); go_simp; try with_reducible rfl)
                simp only [Act.put, List.getElem_toArray, List.getElem_cons_zero, List.getElem_cons_succ, List.setIfInBounds_toArray, List.set_cons_zero, List.set_cons_succ]
                refine tkY 3 (v := ?v37) rfl (.inl ⟨by rfl, ?hy37⟩) ?hr37
                case hy37 => (intro w hSw; (try dsimp only at hSw); go_simp; try with_reducible rfl)
                simp only [Act.put, List.getElem_toArray, List.getElem_cons_zero, List.getElem_cons_succ, List.setIfInBounds_toArray, List.set_cons_zero, List.set_cons_succ]
                refine tkY 4 (v := ?v38) rfl (.inl ⟨by rfl, ?hy38⟩) ?hr38
                case hy38 => (intro w hSw; (try dsimp only at hSw); go_simp; try with_reducible rfl)
                simp only [Act.put, List.getElem_toArray, List.getElem_cons_zero, List.getElem_cons_succ, List.setIfInBounds_toArray, List.set_cons_zero, List.set_cons_succ]
                refine tkY 5 (v := ?v39) rfl (.inl ⟨by rfl, ?hy39⟩) ?hr39
                case hy39 => (intro w hSw; (try dsimp only at hSw); go_simp; try with_reducible rfl)
                simp only [Act.put, List.getElem_toArray, List.getElem_cons_zero, List.getElem_cons_succ, List.setIfInBounds_toArray, List.set_cons_zero, List.set_cons_succ]
                refine tkY 6 (v := ?v40) rfl (.inl ⟨by rfl, ?hy40⟩) ?hr40
                case hy40 => (intro w hSw; (try dsimp only at hSw); go_simp; try with_reducible rfl)
                simp only [Act.put, List.getElem_toArray, List.getElem_cons_zero, List.getElem_cons_succ, List.setIfInBounds_toArray, List.set_cons_zero, List.set_cons_succ]
                refine tkY 7 (v := ?v41) rfl (.inl ⟨by rfl, ?hy41⟩) ?hr41
                case hy41 => (intro w hSw; (try dsimp only at hSw); go_simp; try with_reducible rfl)
                simp only [Act.put, List.getElem_toArray, List.getElem_cons_zero, List.getElem_cons_succ, List.setIfInBounds_toArray, List.set_cons_zero, List.set_cons_succ]
                refine tkY 8 (v := ?v42) rfl (.inl ⟨by rfl, ?hy42⟩) ?hr42
                case hy42 => (intro w hSw; (try dsimp only at hSw); go_simp; try with_reducible rfl)
                simp only [Act.put, List.getElem_toArray, List.getElem_cons_zero, List.getElem_cons_succ, List.setIfInBounds_toArray, List.set_cons_zero, List.set_cons_succ]
                refine tkY 9 (v := ?v43) rfl (.inl ⟨by rfl, ?hy43⟩) ?hr43
                case hy43 => (intro w hSw; (try dsimp only at hSw); go_simp; try with_reducible rfl)
                simp only [Act.put, List.getElem_toArray, List.getElem_cons_zero, List.getElem_cons_succ, List.setIfInBounds_toArray, List.set_cons_zero, List.set_cons_succ]
                refine tkY 10 (v := ?v44) rfl (.inl ⟨by rfl, ?hy44⟩) ?hr44
                case hy44 => (intro w hSw; (try dsimp only at hSw); go_simp; try with_reducible rfl)
                simp only [Act.put, List.getElem_toArray, List.getElem_cons_zero, List.getElem_cons_succ, List.setIfInBounds_toArray, List.set_cons_zero, List.set_cons_succ]
                refine tkY 11 (v := ?v45) rfl (.inl ⟨by rfl, ?hy45⟩) ?hr45
                case hy45 => (intro w hSw; (try dsimp only at hSw); go_simp; try with_reducible rfl)
                simp only [Act.put, List.getElem_toArray, List.getElem_cons_zero, List.getElem_cons_succ, List.setIfInBounds_toArray, List.set_cons_zero, List.set_cons_succ]
                refine wpAnyH_ready (rs := [12]) (by kernel_rfl) (by simp) ?_
                refine AllReadyH.cons rfl (fun K hK => ?_) AllReadyH.nil
                go_simp
                go_at_call 24
                refine (refCompare_any p q _ (by omega) (by omega)).mono ?_
                rintro e w7 ⟨rfl, hbq⟩
                dsimp only
                rw [hcv.out]
                refine hK.out _ _ ?_ (fun hHeld => ?_)
                · (try dsimp only)
                  exact keepS.out _ _ hHeld hbq
                clear hK K
                try simp only [Act.put, List.getElem_toArray, List.getElem_cons_zero, List.getElem_cons_succ, List.setIfInBounds_toArray, List.set_cons_zero, List.set_cons_succ]
                refine tkY 13 (v := ?v46) rfl (.inl ⟨by rfl, ?hy46⟩) ?hr46
                case hy46 => (intro w hSw; (try dsimp only at hSw); go_simp; try with_reducible rfl)
                simp only [Act.put, List.getElem_toArray, List.getElem_cons_zero, List.getElem_cons_succ, List.setIfInBounds_toArray, List.set_cons_zero, List.set_cons_succ]
                refine tkY 14 (v := ?v47) rfl (.inl ⟨by rfl, ?hy47⟩) ?hr47
                case hy47 => (intro w hSw; (try dsimp only at hSw); go_simp; try with_reducible rfl)
                simp only [Act.put, List.getElem_toArray, List.getElem_cons_zero, List.getElem_cons_succ, List.setIfInBounds_toArray, List.set_cons_zero, List.set_cons_succ]
                refine wpAnyH_done (by kernel_rfl) ?_ _
                have hb9 := hHeld.1
                clear hHeld
                by_cases hc : (0 : Int) ≤ cv
                · have hf : fin = 22 := by rw [hu4.out, decide_eq_true hc]; rfl
                  replace hf := Lib.hid hf
                  clear hu4
                  repeat' ((fail_if_success at_builtin); (first | go_skip | go_guarded | go_step))
                  go_ret
                  exact ⟨by rw [← hfin.out, hf.out]; rfl, hb9⟩
                · have hf : ChkI reqBd id l (i + 1) fin := by
                    unfold ChkI
                    rw [hu4.out, decide_eq_false hc]
                    rfl
                  replace hf := Lib.hid hf
                  clear hu4
                  repeat' ((fail_if_success at_builtin); (first | go_skip | go_guarded | go_step))
                  go_roundw
                  case rel => exact ⟨i + 1, by omega, by go_num, hb9, hf.out⟩
                  case measure => simp [intOf]; omega
      · have i1 : ¬ (i : Int) < (n : Int) := by omega
        have hf : fin = 0 := by
          have h := hu
          unfold ChkI at h
          rw [h, chkF_end (by rw [toLs_len]; have := hn.out; omega)]
        replace hf := Lib.hid hf
        clear hu
        repeat' ((fail_if_success at_builtin); (first | go_skip | go_guarded | go_step))
        go_ret
        exact ⟨by rw [← hfin.out, hf.out]; rfl, hb⟩
end Go.Proofs.YtppbblgdcckbdaaDoor
