/- Label: the document's Implies. -/
import Derived.Test.YtppbblgdcckbdaaDoorLbPe
namespace Go.Proofs.YtppbblgdcckbdaaDoor
open Go.RowKit
def impT2 (a b : List Prt) (t : Prt) : Bool := decide (t.form ≠ 0) && withC (permC a t.name) (permC b t.name)
theorem impT2_at {l : List ByteArray} {i : Nat} {q : ByteArray} {a b : List Prt} (h : l[i]? = some q) : (PA (l.drop i)).all (impT2 a b) = (impT2 a b (readL q.data.toList) && (PA (l.drop (i + 1))).all (impT2 a b)) := by
  rw [PA_drop h]
  rfl
theorem impR_def (a b : List Prt) : impR a b = (!canR a || b.all (impT2 a b)) := rfl
set_option maxRecDepth 100000 in
set_option maxHeartbeats 4000000 in
theorem refImplies_any (l l2 : List ByteArray) (A A2 : Option Addr) (n c n2 c2 : Nat) (w : World) (hn : n = l.length) (hs : Seq w w.heap.size 1 A n (cellsS l)) (hl : n ≤ 1000000) (hm : ∀ q ∈ l, q.size ≤ 1000000) (hn2 : n2 = l2.length) (hs2 : Seq w w.heap.size 1 A2 n2 (cellsS l2)) (hl2 : n2 ≤ 1000000) (hm2 : ∀ q ∈ l2, q.size ≤ 1000000) :
    Calls Tryd.prog 17 #[.slice A n c, .slice A2 n2 c2] w fun e w' => e = .returned (.bool (impR (PA l) (PA l2))) ∧ Below w.heap.size w w' := by
  have CP := fun w' (h : Below w.heap.size w w') (nm : List UInt8) => permits_any l nm A n c w' hn ((hs.below h).more h.size) hl hm
  have CP2 := fun w' (h : Below w.heap.size w w') (nm : List UInt8) => permits_any l2 nm A2 n2 c2 w' hn2 ((hs2.below h).more h.size) hl2 hm2
  have CC := refCan_any l A n c w hn hs hl hm
  obtain ⟨fin, hfin⟩ : ∃ fin, fin = impR (PA l) (PA l2) := ⟨_, rfl⟩
  replace hfin := Lib.hid hfin
  replace CP := Lib.hid CP
  replace CP2 := Lib.hid CP2
  replace CC := Lib.hid CC
  replace hs := Lib.hid hs
  replace hn := Lib.hid hn
  replace hm := Lib.hid hm
  replace hs2 := Lib.hid hs2
  replace hn2 := Lib.hid hn2
  replace hm2 := Lib.hid hm2
  go_enter Tryd.func17, Tryd.ntmps17
  repeat' ((fail_if_success at_builtin); (first | go_skip | go_guarded | go_step))
  refine CC.out.mono ?_
  rintro e w1 ⟨rfl, hb1⟩
  dsimp only
  clear CC
  cases hcr : canR (PA l) with
  | false =>
    have hf : fin = true := by rw [hfin.out, impR_def, hcr]; rfl
    replace hf := Lib.hid hf
    clear hcr
    repeat' ((fail_if_success at_builtin); (first | go_skip | go_guarded | go_step))
    go_ret
    exact ⟨retB (by rw [← hfin.out, hf.out]), hb1⟩
  | true =>
    have hst : fin = (PA (l2.drop 0)).all (impT2 (PA l) (PA l2)) := by rw [hfin.out, impR_def, hcr]; rfl
    replace hst := Lib.hid hst
    clear hcr
    repeat' ((fail_if_success at_builtin); (first | go_skip | go_guarded | go_step))
    go_loopw [5] (fun u5 wr => ∃ i : Nat, i ≤ n2 ∧ u5 = .int .i64 (i : Int) ∧ Below w.heap.size w wr ∧ fin = (PA (l2.drop i)).all (impT2 (PA l) (PA l2))) (fun u5 _ => n2 - (intOf u5).toNat)
    case atStart => exact ⟨0, by omega, rfl, hb1, hst.out⟩
    case round =>
      clear hst
      obtain ⟨i, hi, rfl, hb, hu⟩ := hrel
      by_cases hlt : i < n2
      · have i0 : (0 : Int) ≤ (i : Int) := by omega
        have i1 : (i : Int) < (n2 : Int) := by omega
        have i2 : IntKind.i64.wrap ((i : Int) + 1) = (i : Int) + 1 := IntWalk.i64_in _ (by omega)
        obtain ⟨q, hq⟩ : ∃ q, l2[i]? = some q := ⟨_, List.getElem?_eq_getElem (by have := hn2.out; omega)⟩
        obtain ⟨bl, off, rfl, hbl, hcq⟩ := strs_at hs2.out hlt hq
        have hq6 := hm2.out q (List.mem_of_getElem? hq)
        have hu2 := hu.trans (impT2_at hq)
        have cq := (hb.cell (p := ⟨bl, off + i, none⟩) hbl).trans hcq
        clear hcq hu hq
        repeat' ((fail_if_success at_builtin); (first | go_skip | go_guarded | go_step))
        refine (read_any q wr (by omega)).mono ?_
        rintro e w2 ⟨rfl, hb2⟩
        dsimp only
        obtain ⟨p, hp⟩ : ∃ p, p = readL q.data.toList := ⟨_, rfl⟩
        have hnl : p.name.length ≤ q.size := by rw [hp]; have := read_len q.data.toList; rw [list_size] at this; exact this
        have hp5 : p.form ≤ 5 := by rw [hp]; exact read_form _
        rw [← hp] at hu2 ⊢
        clear hp
        obtain ⟨pf, pn, pm⟩ := p
        replace hnl : pn.length ≤ q.size := hnl
        replace hp5 : pf ≤ 5 := hp5
        go_upto_region 7 with (fail)
        generalize hx_ : World.alloc w2 _ = wo1
        have hO1 : OwnB w wo1 [(w2.heap.size, [.int .i64 (pf : Int), .string (strS pn), .int .i64 (pm : Int)])] := by rw [← hx_]; exact (OwnB.of (hb.trans (hb2.mono hb.size))).new #[.int .i64 (pf : Int), .string (strS pn), .int .i64 (pm : Int)] _
        clear hx_
        have c0_0 : wo1.cell? ⟨w2.heap.size, 0, none⟩ = some (.int .i64 (pf : Int)) := hO1.c 0 0
        have c0_1 : wo1.cell? ⟨w2.heap.size, 1, none⟩ = some (.string (strS pn)) := hO1.c 0 1
        have c0_2 : wo1.cell? ⟨w2.heap.size, 2, none⟩ = some (.int .i64 (pm : Int)) := hO1.c 0 2
        have cf0 := hO1.fr 0
        have hb9 := hO1.below
        have hl1 := hO1.lt 0
        obtain ⟨w3, hw3⟩ : ∃ w3 : World, w3 = wo1 := ⟨wo1, rfl⟩
        subst hw3
        have hS : ∀ w', Below w3.heap.size w3 w' → (Below w3.heap.size w3 w' ∧ w'.cell? ⟨w2.heap.size, 0, none⟩ = some (.int .i64 (pf : Int)) ∧ w'.cell? ⟨w2.heap.size, 1, none⟩ = some (.string (strS pn))) := fun w' h => ⟨h, (h.cell (p := ⟨w2.heap.size, 0, none⟩) hl1).trans c0_0, (h.cell (p := ⟨w2.heap.size, 1, none⟩) hl1).trans c0_1⟩
        have keepS : ∀ w' w'', (Below w3.heap.size w3 w' ∧ w'.cell? ⟨w2.heap.size, 0, none⟩ = some (.int .i64 (pf : Int)) ∧ w'.cell? ⟨w2.heap.size, 1, none⟩ = some (.string (strS pn))) → Below w'.heap.size w' w'' → (Below w3.heap.size w3 w'' ∧ w''.cell? ⟨w2.heap.size, 0, none⟩ = some (.int .i64 (pf : Int)) ∧ w''.cell? ⟨w2.heap.size, 1, none⟩ = some (.string (strS pn))) := fun w' w'' h hq => hS _ (h.1.trans (hq.mono h.1.size))
        have hS1 := hS w3.drew (Below.refl _ _).drew
        replace keepS := Lib.hid keepS
        clear hS
        by_cases hF : pf = 0
        · have hf : fin = false := by rw [hu2, hF]; rfl
          replace hf := Lib.hid hf
          have hFb : ((pf : Int) == 0) = true := by simp; omega
          clear hu2
          replace hF := Lib.hid hF
          repeat' ((fail_if_success at_builtin); (first | go_skip | go_guarded | go_step))
          refine wp_region_held_drew (S := fun w' => Below w3.heap.size w3 w' ∧ w'.cell? ⟨w2.heap.size, 0, none⟩ = some (.int .i64 (pf : Int)) ∧ w'.cell? ⟨w2.heap.size, 1, none⟩ = some (.string (strS pn))) (by kernel_rfl) ?_ (fun hHeld => ?_)
          · (try dsimp only)
            exact hS1
          refine tkY 0 (v := ?v102) rfl (.inl ⟨by rfl, ?hy102⟩) ?hr102
          case hy102 => (intro w hSw; (try dsimp only at hSw); go_simp; try with_reducible rfl)
          simp only [Act.put, List.getElem_toArray, List.getElem_cons_zero, List.setIfInBounds_toArray, List.set_cons_zero, List.set_cons_succ]
          refine tkY 1 (v := ?v103) rfl (.inl ⟨by rfl, ?hy103⟩) ?hr103
          case hy103 => (intro w hSw; (try dsimp only at hSw); go_simp; try with_reducible rfl)
          simp only [Act.put, List.getElem_toArray, List.getElem_cons_zero, List.getElem_cons_succ, List.setIfInBounds_toArray, List.set_cons_zero, List.set_cons_succ]
          refine tkY 2 (v := ?v104) rfl (.inl ⟨by rfl, ?hy104⟩) ?hr104
          case hy104 => (intro w hSw; (try dsimp only at hSw); go_simp; try with_reducible rfl)
          simp only [Act.put, List.getElem_toArray, List.getElem_cons_zero, List.getElem_cons_succ, List.setIfInBounds_toArray, List.set_cons_zero, List.set_cons_succ]
          refine tkY 3 (v := ?v105) rfl (.inl ⟨by rfl, ?hy105⟩) ?hr105
          case hy105 => (intro w hSw; (try dsimp only at hSw); go_simp; try with_reducible rfl)
          simp only [Act.put, List.getElem_toArray, List.getElem_cons_zero, List.getElem_cons_succ, List.setIfInBounds_toArray, List.set_cons_zero, List.set_cons_succ]
          refine tkN 4 rfl ?_
          simp only [Act.put, List.getElem_toArray, List.getElem_cons_zero, List.getElem_cons_succ, List.setIfInBounds_toArray, List.set_cons_zero, List.set_cons_succ]
          refine tkN 5 rfl ?_
          simp only [Act.put, List.getElem_toArray, List.getElem_cons_zero, List.getElem_cons_succ, List.setIfInBounds_toArray, List.set_cons_zero, List.set_cons_succ]
          refine tkN 6 rfl ?_
          simp only [Act.put, List.getElem_toArray, List.getElem_cons_zero, List.getElem_cons_succ, List.setIfInBounds_toArray, List.set_cons_zero, List.set_cons_succ]
          refine tkN 7 rfl ?_
          simp only [Act.put, List.getElem_toArray, List.getElem_cons_zero, List.getElem_cons_succ, List.setIfInBounds_toArray, List.set_cons_zero, List.set_cons_succ]
          refine tkN 8 rfl ?_
          simp only [Act.put, List.getElem_toArray, List.getElem_cons_zero, List.getElem_cons_succ, List.setIfInBounds_toArray, List.set_cons_zero, List.set_cons_succ]
          refine tkN 9 rfl ?_
          simp only [Act.put, List.getElem_toArray, List.getElem_cons_zero, List.getElem_cons_succ, List.setIfInBounds_toArray, List.set_cons_zero, List.set_cons_succ]
          refine tkN 10 rfl ?_
          simp only [Act.put, List.getElem_toArray, List.getElem_cons_zero, List.getElem_cons_succ, List.setIfInBounds_toArray, List.set_cons_zero, List.set_cons_succ]
          refine tkN 11 rfl ?_
          simp only [Act.put, List.getElem_toArray, List.getElem_cons_zero, List.getElem_cons_succ, List.setIfInBounds_toArray, List.set_cons_zero, List.set_cons_succ]
          refine tkN 12 rfl ?_
          simp only [Act.put, List.getElem_toArray, List.getElem_cons_zero, List.getElem_cons_succ, List.setIfInBounds_toArray, List.set_cons_zero, List.set_cons_succ]
          refine tkN 13 rfl ?_
          simp only [Act.put, List.getElem_toArray, List.getElem_cons_zero, List.getElem_cons_succ, List.setIfInBounds_toArray, List.set_cons_zero, List.set_cons_succ]
          refine tkY 14 (v := ?v106) rfl (.inl ⟨by rfl, ?hy106⟩) ?hr106
          case hy106 => (intro w hSw; (try dsimp only at hSw); go_simp; try with_reducible rfl)
          simp only [Act.put, List.getElem_toArray, List.getElem_cons_zero, List.getElem_cons_succ, List.setIfInBounds_toArray, List.set_cons_zero, List.set_cons_succ]
          refine wpAnyH_done (by kernel_rfl) ?_ _
          have hb10 := hb9.trans (hHeld.1.mono hb9.size)
          repeat' ((fail_if_success at_builtin); (first | go_skip | go_guarded | go_step))
          go_ret
          exact ⟨retB (by rw [← hfin.out, hf.out]), hb10⟩
        · have hFb : ((pf : Int) == 0) = false := by simp; omega
          have hu3 : fin = (withC (permC (PA l) pn) (permC (PA l2) pn) && (PA (l2.drop (i + 1))).all (impT2 (PA l) (PA l2))) := by
            rw [hu2]
            show ((decide (pf ≠ 0) && withC (permC (PA l) pn) (permC (PA l2) pn)) && _) = _
            rw [decide_eq_true hF]
            rfl
          have CPn := fun w' (h : Below w.heap.size w w') => CP.out w' h pn
          have CPm := fun w' (h : Below w.heap.size w w') => CP2.out w' h pn
          generalize permC (PA l) pn = Y at CPn hu3
          generalize permC (PA l2) pn = Z at CPm hu3
          obtain ⟨ya, yp, yl, yh⟩ := Y
          obtain ⟨za, zp, zl, zh⟩ := Z
          replace CPn := Lib.hid CPn
          replace CPm := Lib.hid CPm
          replace hu3 := Lib.hid hu3
          clear hu2
          repeat' ((fail_if_success at_builtin); (first | go_skip | go_guarded | go_step))
          refine wp_region_held_drew (S := fun w' => Below w3.heap.size w3 w' ∧ w'.cell? ⟨w2.heap.size, 0, none⟩ = some (.int .i64 (pf : Int)) ∧ w'.cell? ⟨w2.heap.size, 1, none⟩ = some (.string (strS pn))) (by kernel_rfl) ?_ (fun hHeld => ?_)
          · (try dsimp only)
            exact hS1
          refine tkY 0 (v := ?v90) rfl (.inl ⟨by rfl, ?hy90⟩) ?hr90
          case hy90 => (intro w hSw; (try dsimp only at hSw); go_simp; try with_reducible rfl)
          simp only [Act.put, List.getElem_toArray, List.getElem_cons_zero, List.setIfInBounds_toArray, List.set_cons_zero, List.set_cons_succ]
          refine tkY 1 (v := ?v91) rfl (.inl ⟨by rfl, ?hy91⟩) ?hr91
          case hy91 => (intro w hSw; (try dsimp only at hSw); go_simp; try with_reducible rfl)
          simp only [Act.put, List.getElem_toArray, List.getElem_cons_zero, List.getElem_cons_succ, List.setIfInBounds_toArray, List.set_cons_zero, List.set_cons_succ]
          refine tkY 2 (v := ?v92) rfl (.inl ⟨by rfl, ?hy92⟩) ?hr92
          case hy92 => (intro w hSw; (try dsimp only at hSw); go_simp; try with_reducible rfl)
          simp only [Act.put, List.getElem_toArray, List.getElem_cons_zero, List.getElem_cons_succ, List.setIfInBounds_toArray, List.set_cons_zero, List.set_cons_succ]
          refine tkY 3 (v := ?v93) rfl (.inl ⟨by rfl, ?hy93⟩) ?hr93
          case hy93 => (intro w hSw; (try dsimp only at hSw); go_simp; try with_reducible rfl)
          simp only [Act.put, List.getElem_toArray, List.getElem_cons_zero, List.getElem_cons_succ, List.setIfInBounds_toArray, List.set_cons_zero, List.set_cons_succ]
          refine tkY 4 (v := ?v94) rfl (.inl ⟨by rfl, ?hy94⟩) ?hr94
          case hy94 => (intro w hSw; (try dsimp only at hSw); go_simp; try with_reducible rfl)
          simp only [Act.put, List.getElem_toArray, List.getElem_cons_zero, List.getElem_cons_succ, List.setIfInBounds_toArray, List.set_cons_zero, List.set_cons_succ]
          refine tkY 5 (v := ?v95) rfl (.inl ⟨by rfl, ?hy95⟩) ?hr95
          case hy95 => (intro w hSw; (try dsimp only at hSw); go_simp; try with_reducible rfl)
          simp only [Act.put, List.getElem_toArray, List.getElem_cons_zero, List.getElem_cons_succ, List.setIfInBounds_toArray, List.set_cons_zero, List.set_cons_succ]
          refine tkY 6 (v := ?v96) rfl (.inl ⟨by rfl, ?hy96⟩) ?hr96
          case hy96 => (intro w hSw; (try dsimp only at hSw); go_simp; try with_reducible rfl)
          simp only [Act.put, List.getElem_toArray, List.getElem_cons_zero, List.getElem_cons_succ, List.setIfInBounds_toArray, List.set_cons_zero, List.set_cons_succ]
          refine tkY 8 (v := ?v97) rfl (.inl ⟨by rfl, ?hy97⟩) ?hr97
          case hy97 => (intro w hSw; (try dsimp only at hSw); go_simp; try with_reducible rfl)
          simp only [Act.put, List.getElem_toArray, List.getElem_cons_zero, List.getElem_cons_succ, List.setIfInBounds_toArray, List.set_cons_zero, List.set_cons_succ]
          refine tkY 9 (v := ?v98) rfl (.inl ⟨by rfl, ?hy98⟩) ?hr98
          case hy98 => (intro w hSw; (try dsimp only at hSw); go_simp; try with_reducible rfl)
          simp only [Act.put, List.getElem_toArray, List.getElem_cons_zero, List.getElem_cons_succ, List.setIfInBounds_toArray, List.set_cons_zero, List.set_cons_succ]
          refine tkY 10 (v := ?v99) rfl (.inl ⟨by rfl, ?hy99⟩) ?hr99
          case hy99 => (intro w hSw; (try dsimp only at hSw); go_simp; try with_reducible rfl)
          simp only [Act.put, List.getElem_toArray, List.getElem_cons_zero, List.getElem_cons_succ, List.setIfInBounds_toArray, List.set_cons_zero, List.set_cons_succ]
          refine wpAnyH_ready (rs := [7]) (by kernel_rfl) (by simp) ?_
          refine AllReadyH.cons rfl (fun K hK => ?_) AllReadyH.nil
          go_simp
          go_at_call 34
          refine (CPn.out _ (hb9.trans (hHeld.1.mono hb9.size))).mono ?_
          rintro e w7 ⟨rfl, hbq⟩
          dsimp only
          refine hK.out _ _ ?_ (fun hHeld => ?_)
          · (try dsimp only)
            exact keepS.out _ _ hHeld hbq
          clear hK K
          try simp only [Act.put, List.getElem_toArray, List.getElem_cons_zero, List.getElem_cons_succ, List.setIfInBounds_toArray, List.set_cons_zero, List.set_cons_succ]
          refine wpAnyH_ready (rs := [11]) (by kernel_rfl) (by simp) ?_
          refine AllReadyH.cons rfl (fun K hK => ?_) AllReadyH.nil
          go_simp
          go_at_call 34
          refine (CPm.out _ (hb9.trans (hHeld.1.mono hb9.size))).mono ?_
          rintro e w7 ⟨rfl, hbq⟩
          dsimp only
          refine hK.out _ _ ?_ (fun hHeld => ?_)
          · (try dsimp only)
            exact keepS.out _ _ hHeld hbq
          clear hK K
          try simp only [Act.put, List.getElem_toArray, List.getElem_cons_zero, List.getElem_cons_succ, List.setIfInBounds_toArray, List.set_cons_zero, List.set_cons_succ]
          refine wpAnyH_ready (rs := [12]) (by kernel_rfl) (by simp) ?_
          refine AllReadyH.cons rfl (fun K hK => ?_) AllReadyH.nil
          go_simp
          go_at_call 33
          refine (within_any ⟨ya, yp, yl, yh⟩ ⟨za, zp, zl, zh⟩ _).mono ?_
          rintro e w8 ⟨rfl, hbq⟩
          dsimp only
          refine hK.out _ _ ?_ (fun hHeld => ?_)
          · (try dsimp only)
            exact keepS.out _ _ hHeld hbq
          clear hK K
          try simp only [Act.put, List.getElem_toArray, List.getElem_cons_zero, List.getElem_cons_succ, List.setIfInBounds_toArray, List.set_cons_zero, List.set_cons_succ]
          refine tkY 13 (v := ?v100) rfl (.inl ⟨by rfl, ?hy100⟩) ?hr100
          case hy100 => (intro w hSw; (try dsimp only at hSw); go_simp; try with_reducible rfl)
          simp only [Act.put, List.getElem_toArray, List.getElem_cons_zero, List.getElem_cons_succ, List.setIfInBounds_toArray, List.set_cons_zero, List.set_cons_succ]
          refine tkY 14 (v := ?v101) rfl (.inl ⟨by rfl, ?hy101⟩) ?hr101
          case hy101 => (intro w hSw; (try dsimp only at hSw); go_simp; try with_reducible rfl)
          simp only [Act.put, List.getElem_toArray, List.getElem_cons_zero, List.getElem_cons_succ, List.setIfInBounds_toArray, List.set_cons_zero, List.set_cons_succ]
          refine wpAnyH_done (by kernel_rfl) ?_ _
          have hb10 := hb9.trans (hHeld.1.mono hb9.size)
          cases hwi : withC ⟨ya, yp, yl, yh⟩ ⟨za, zp, zl, zh⟩ with
          | false =>
            have hf : fin = false := by rw [hu3.out, hwi]; rfl
            replace hf := Lib.hid hf
            clear hu3 hwi
            repeat' ((fail_if_success at_builtin); (first | go_skip | go_guarded | go_step))
            go_ret
            exact ⟨retB (by rw [← hfin.out, hf.out]), hb10⟩
          | true =>
            have hf : fin = (PA (l2.drop (i + 1))).all (impT2 (PA l) (PA l2)) := by rw [hu3.out, hwi]; rfl
            replace hf := Lib.hid hf
            clear hu3 hwi
            repeat' ((fail_if_success at_builtin); (first | go_skip | go_guarded | go_step))
            go_roundw
            case rel => exact ⟨i + 1, by omega, by go_num, hb10, hf.out⟩
            case measure => simp [intOf]; omega
      · have i1 : ¬ (i : Int) < (n2 : Int) := by omega
        have hf : fin = true := by rw [hu, allP_end (by have := hn2.out; omega)]
        replace hf := Lib.hid hf
        clear hu
        repeat' ((fail_if_success at_builtin); (first | go_skip | go_guarded | go_step))
        go_ret
        exact ⟨retB (by rw [← hfin.out, hf.out]), hb⟩
end Go.Proofs.YtppbblgdcckbdaaDoor
