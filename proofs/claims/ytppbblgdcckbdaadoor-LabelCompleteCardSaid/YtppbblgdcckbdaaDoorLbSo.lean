/- The document's Sorted: its elements. -/
import Derived.Test.YtppbblgdcckbdaaDoorLbFw
import Derived.Test.YtppbblgdcckbdaaDoorStrs
import Derived.BigQuiet
namespace Go.Proofs.YtppbblgdcckbdaaDoor
open Go.RowKit
theorem mem_step {l : List ByteArray} {i : Nat} {q : ByteArray} (hq : l[i]? = some q) (x : ByteArray) : x ∈ l.take (i + 1) ↔ x ∈ l.take i ∨ x = q := by
  rw [take_snoc hq, List.mem_append, List.mem_singleton]
theorem mem_ins {L : List ByteArray} {k : Nat} {q x : ByteArray} : x ∈ L.take k ++ q :: L.drop k ↔ x ∈ L ∨ x = q := by
  rw [List.mem_append, List.mem_cons]
  constructor
  · rintro (h | h | h)
    · exact .inl (List.mem_of_mem_take h)
    · exact .inr h
    · exact .inl (List.mem_of_mem_drop h)
  · rintro (h | h)
    · rw [← List.take_append_drop k L, List.mem_append] at h
      rcases h with h | h
      · exact .inl h
      · exact .inr (.inr h)
    · exact .inr (.inl h)
theorem len_ins {L : List ByteArray} {k : Nat} {q : ByteArray} : (L.take k ++ q :: L.drop k).length = L.length + 1 := by
  simp [List.length_take, List.length_drop]
  omega
theorem bytes_eq {a b : ByteArray} (h : (a.toList == b.toList) = true) : a = b := by
  rw [ByteArray.toList_eq, ByteArray.toList_eq, beq_iff_eq] at h
  rw [← strS_data a, ← strS_data b, h]
set_option maxRecDepth 100000 in
set_option maxHeartbeats 6000000 in
theorem sorted_any (l : List ByteArray) (A : Option Addr) (c : Nat) (w : World) (hs : Seq w w.heap.size 1 A l.length (cellsS l)) (hl : l.length ≤ 1000) (hm : ∀ q ∈ l, q.size ≤ 1000000) :
    Calls Tryd.prog 35 #[.slice A l.length c] w fun e w' => ∃ (L : List ByteArray) (A' : Option Addr) (c' : Nat), e = .returned (.slice A' L.length c') ∧ L.length ≤ l.length ∧ (∀ x, x ∈ L ↔ x ∈ l) ∧ Own w w' 9 1 (.slice A' L.length c') L.length (cellsS L) := by
  replace hs := Lib.hid hs
  replace hm := Lib.hid hm
  go_enter Tryd.func35, Tryd.ntmps35
  repeat' ((fail_if_success at_builtin); (first | go_skip | go_guarded | go_step))
  go_loopw [3, 4] (fun u3 u4 wr => ∃ (i : Nat) (L : List ByteArray) (A' : Option Addr) (c' : Nat), i ≤ l.length ∧ u4 = .int .i64 (i : Int) ∧ u3 = .slice A' L.length c' ∧ Own w wr 9 1 (.slice A' L.length c') L.length (cellsS L) ∧ L.length ≤ i ∧ ∀ x, x ∈ L ↔ x ∈ l.take i) (fun _ u4 _ => l.length - (intOf u4).toNat)
  case atStart => exact ⟨0, [], none, 0, by omega, rfl, rfl, Own.nil_ w _ _, by simp, by simp⟩
  case round =>
    obtain ⟨i, L, A', c', hi, rfl, rfl, hO, hLi, hmem⟩ := hrel
    replace hmem := Lib.hid hmem
    by_cases hlt : i < l.length
    · have i0 : (0 : Int) ≤ (i : Int) := by omega
      have i1 : (i : Int) < (l.length : Int) := by omega
      have i2 : IntKind.i64.wrap ((i : Int) + 1) = (i : Int) + 1 := IntWalk.i64_in _ (by omega)
      obtain ⟨q, hq⟩ : ∃ q, l[i]? = some q := ⟨_, List.getElem?_eq_getElem hlt⟩
      obtain ⟨bl, off, rfl, hbl, hcq⟩ := strs_at hs.out hlt hq
      have hq6 := hm.out q (List.mem_of_getElem? hq)
      have hqc := Lib.hid hq
      have hLm : ∀ x ∈ L, x.size ≤ 1000000 := fun x hx => hm.out x (List.mem_of_mem_take ((hmem.out x).1 hx))
      replace hLm := Lib.hid hLm
      obtain ⟨wo, hwo⟩ : ∃ wo : World, wo = wr := ⟨wr, rfl⟩
      subst hwo
      repeat' ((fail_if_success at_builtin); (first | go_skip | go_guarded | go_step))
      go_loopw [5] (fun u5 wr => ∃ k : Nat, k ≤ L.length ∧ u5 = .int .i64 (k : Int) ∧ Own w wr 9 1 (.slice A' L.length c') L.length (cellsS L)) (fun u5 _ => (intOf u5).toNat)
      case atStart => exact ⟨L.length, Nat.le_refl _, rfl, hO⟩
      case round =>
        clear hO
        obtain ⟨k, hk, rfl, hO⟩ := hrel
        have cq := (hO.2.cell (p := ⟨bl, off + i, none⟩) hbl).trans hcq
        rcases Nat.eq_zero_or_pos k with h0 | h0
        · subst h0
          have hS1 : Below wr.heap.size wr wr.drew := (Below.refl _ _).drew
          repeat' ((fail_if_success at_builtin); (first | go_skip | go_guarded | go_step))
          refine wp_region_held_drew (S := fun w' => Below wr.heap.size wr w') (by kernel_rfl) ?_ (fun hHeld => ?_)
          · (try dsimp only)
            exact hS1
          refine tkY 0 (v := ?v121) rfl (.inl ⟨by rfl, ?hy121⟩) ?hr121
          case hy121 => (intro w hSw; (try dsimp only at hSw); go_simp; try with_reducible rfl)
          simp only [Act.put, List.getElem_toArray, List.getElem_cons_zero, List.getElem_cons_succ, List.setIfInBounds_toArray, List.set_cons_zero, List.set_cons_succ]
          refine tkY 1 (v := ?v122) rfl (.inl ⟨by rfl, ?hy122⟩) ?hr122
          case hy122 => (intro w hSw; (try dsimp only at hSw); go_simp; try with_reducible rfl)
          simp only [Act.put, List.getElem_toArray, List.getElem_cons_zero, List.getElem_cons_succ, List.setIfInBounds_toArray, List.set_cons_zero, List.set_cons_succ]
          refine tkY 2 (v := ?v123) rfl (.inl ⟨by rfl, ?hy123⟩) ?hr123
          case hy123 => (intro w hSw; (try dsimp only at hSw); go_simp; try with_reducible rfl)
          simp only [Act.put, List.getElem_toArray, List.getElem_cons_zero, List.getElem_cons_succ, List.setIfInBounds_toArray, List.set_cons_zero, List.set_cons_succ]
          refine tkN 3 rfl ?_
          simp only [Act.put, List.getElem_toArray, List.getElem_cons_zero, List.getElem_cons_succ, List.setIfInBounds_toArray, List.set_cons_zero, List.set_cons_succ]
          refine tkN 4 rfl ?_
          simp only [Act.put, List.getElem_toArray, List.getElem_cons_zero, List.getElem_cons_succ, List.setIfInBounds_toArray, List.set_cons_zero, List.set_cons_succ]
          refine tkN 5 rfl ?_
          simp only [Act.put, List.getElem_toArray, List.getElem_cons_zero, List.getElem_cons_succ, List.setIfInBounds_toArray, List.set_cons_zero, List.set_cons_succ]
          refine tkN 6 rfl ?_
          simp only [Act.put, List.getElem_toArray, List.getElem_cons_zero, List.getElem_cons_succ, List.setIfInBounds_toArray, List.set_cons_zero, List.set_cons_succ]
          refine tkN 7 rfl ?_
          simp only [Act.put, List.getElem_toArray, List.getElem_cons_zero, List.getElem_cons_succ, List.setIfInBounds_toArray, List.set_cons_zero, List.set_cons_succ]
          refine tkN 8 rfl ?_
          simp only [Act.put, List.getElem_toArray, List.getElem_cons_zero, List.getElem_cons_succ, List.setIfInBounds_toArray, List.set_cons_zero, List.set_cons_succ]
          refine tkN 9 rfl ?_
          simp only [Act.put, List.getElem_toArray, List.getElem_cons_zero, List.getElem_cons_succ, List.setIfInBounds_toArray, List.set_cons_zero, List.set_cons_succ]
          refine tkN 10 rfl ?_
          simp only [Act.put, List.getElem_toArray, List.getElem_cons_zero, List.getElem_cons_succ, List.setIfInBounds_toArray, List.set_cons_zero, List.set_cons_succ]
          refine tkN 11 rfl ?_
          simp only [Act.put, List.getElem_toArray, List.getElem_cons_zero, List.getElem_cons_succ, List.setIfInBounds_toArray, List.set_cons_zero, List.set_cons_succ]
          refine tkN 12 rfl ?_
          simp only [Act.put, List.getElem_toArray, List.getElem_cons_zero, List.getElem_cons_succ, List.setIfInBounds_toArray, List.set_cons_zero, List.set_cons_succ]
          refine tkN 13 rfl ?_
          simp only [Act.put, List.getElem_toArray, List.getElem_cons_zero, List.getElem_cons_succ, List.setIfInBounds_toArray, List.set_cons_zero, List.set_cons_succ]
          refine tkY 14 (v := ?v124) rfl (.inl ⟨by rfl, ?hy124⟩) ?hr124
          case hy124 => (intro w hSw; (try dsimp only at hSw); go_simp; try with_reducible rfl)
          simp only [Act.put, List.getElem_toArray, List.getElem_cons_zero, List.getElem_cons_succ, List.setIfInBounds_toArray, List.set_cons_zero, List.set_cons_succ]
          refine wpAnyH_done (by kernel_rfl) ?_ _
          have hO2 := hO.below hHeld
          have cq2 := (hO2.2.cell (p := ⟨bl, off + i, none⟩) hbl).trans hcq
          clear cq hO
          generalize hwy : World.drew wr = wy at *
          clear hwy
          repeat' ((fail_if_success at_builtin); (first | go_skip | go_guarded | go_step))
          go_quiet (fail)
          have hO3 := hO2.below (Below.drewN wy nq)
          clear hO2 cq2
          have hq := hqc.out
          obtain ⟨NL, hNL⟩ : ∃ NL, NL = L.take 0 ++ q :: L.drop 0 := ⟨_, rfl⟩
          have hNlen : NL.length = L.length + 1 := by rw [hNL]; exact len_ins
          have hNmem : ∀ x, x ∈ NL ↔ x ∈ l.take (i + 1) := fun x => by rw [hNL, mem_ins, mem_step hq, hmem.out]
          have hcs : cellsS NL = [] ++ cellsS (L.take 0) ++ (#[Value.string q] : Array Value).toList ++ cellsS (L.drop 0) := by rw [hNL]; simp
          replace hNL := Lib.hid hNL
          replace hNlen := Lib.hid hNlen
          replace hNmem := Lib.hid hNmem
          replace hcs := Lib.hid hcs
          have hcap := hO3.cap_le
          have hci : (0 : Int) ≤ (c' : Int) := by omega
          have hli : (0 : Int) ≤ (L.length : Int) := by omega
          have hki : (0 : Int) ≤ (0 : Int) := by omega
          have hb3 := hO3.2
          have hsL := hO3.seq
          have cq3 := (hb3.cell (p := ⟨bl, off + i, none⟩) hbl).trans hcq
          have lq3 := Nat.lt_of_lt_of_le hbl hb3.size
          have hL1000 : L.length ≤ 1000 := by omega
          generalize hwx : World.drewN wy nq = wx at *
          clear hwx
          repeat' ((fail_if_success at_builtin); (first | go_skip | go_guarded | go_step))
          refine wp_appS (Own.empty_lit wx 9 1) Tryd.underlying22 str_info (Seq.below (seqS_take hsL hk) ((Below.refl _ _).alloc (Nat.le_refl _) _)) (strsC_one _) (by omega) ?_
          intro v3 w3 hown3 _
          have hb4 := hown3.2
          have cq4 := (hb4.cell (p := ⟨bl, off + i, none⟩) lq3).trans cq3
          repeat' ((fail_if_success at_builtin); (first | go_skip | go_guarded | go_step))
          refine wp_app1 hown3 Tryd.underlying22 str_info (by omega) ?_
          intro v4 w4 hown4 _
          have hs4 := hsL.below hown4.2
          repeat' ((fail_if_success at_builtin); (first | go_skip | go_guarded | go_step))
          have hd : Seq w4 wx.heap.size 1 A' (L.length - 0) (cellsS (L.drop 0)) := hs4
          refine wp_appS hown4 Tryd.underlying22 str_info hd (strsC_one _) (by omega) ?_
          intro v5 w5 hown5 _
          have hown6 := Own.up hb3 hown5
          rw [show 0 + 0 + 1 + (L.length - 0) = NL.length by rw [hNlen.out]; omega] at hown6
          rw [← hcs.out] at hown6
          obtain ⟨A5, c5, rfl⟩ := Own.slice_form hown6
          repeat' ((fail_if_success at_builtin); (first | go_skip | go_guarded | go_step))
          go_roundw
          case rel => exact ⟨i + 1, NL, A5, c5, by omega, by go_num, rfl, hown6, by rw [hNlen.out]; omega, hNmem.out⟩
          case measure => simp [intOf]; omega
        · obtain ⟨j, hj⟩ : ∃ j, k = j + 1 := ⟨k - 1, by omega⟩
          obtain ⟨p, hp⟩ : ∃ p, L[j]? = some p := ⟨_, List.getElem?_eq_getElem (by omega)⟩
          obtain ⟨bo, oo, hA, hbo, hcp⟩ := strs_at hO.seq (by omega : j < L.length) hp
          have hp6 := hLm.out p (List.mem_of_getElem? hp)
          have k0 : (0 : Int) < (k : Int) := by omega
          have j0 : (0 : Int) ≤ (j : Int) := by omega
          have j1 : (j : Int) < (L.length : Int) := by omega
          have j4 : IntKind.i64.wrap ((k : Int) - 1) = (j : Int) := by rw [IntWalk.i64_in _ (by omega)]; omega
          have hlq := Nat.lt_of_lt_of_le hbl hO.2.size
          subst hA
          have hS : ∀ w', Below wr.heap.size wr w' → (Below wr.heap.size wr w' ∧ w'.cell? ⟨bl, off + i, none⟩ = some (.string q) ∧ w'.cell? ⟨bo, oo + j, none⟩ = some (.string p)) := fun w' h => ⟨h, (h.cell (p := ⟨bl, off + i, none⟩) hlq).trans cq, (h.cell (p := ⟨bo, oo + j, none⟩) hbo).trans hcp⟩
          have keepS : ∀ w' w'', (Below wr.heap.size wr w' ∧ w'.cell? ⟨bl, off + i, none⟩ = some (.string q) ∧ w'.cell? ⟨bo, oo + j, none⟩ = some (.string p)) → Below w'.heap.size w' w'' → (Below wr.heap.size wr w'' ∧ w''.cell? ⟨bl, off + i, none⟩ = some (.string q) ∧ w''.cell? ⟨bo, oo + j, none⟩ = some (.string p)) := fun w' w'' h hq => hS _ (h.1.trans (hq.mono h.1.size))
          have hS1 := hS wr.drew (Below.refl _ _).drew
          replace keepS := Lib.hid keepS
          replace hp := Lib.hid hp
          replace hj := Lib.hid hj
          clear hS hq
          obtain ⟨cv, hcv⟩ : ∃ cv, cmpN q.data.toList p.data.toList = cv := ⟨_, rfl⟩
          replace hcv := Lib.hid hcv
          repeat' ((fail_if_success at_builtin); (first | go_skip | go_guarded | go_step))
          refine wp_region_held_drew (S := fun w' => Below wr.heap.size wr w' ∧ w'.cell? ⟨bl, off + i, none⟩ = some (.string q) ∧ w'.cell? ⟨bo, oo + j, none⟩ = some (.string p)) (by kernel_rfl) ?_ (fun hHeld => ?_)
          · (try dsimp only)
            exact hS1
          refine tkY 0 (v := ?v107) rfl (.inl ⟨by rfl, ?hy107⟩) ?hr107
          case hy107 => (intro w hSw; (try dsimp only at hSw); go_simp; try with_reducible rfl)
          simp only [Act.put, List.getElem_toArray, List.getElem_cons_zero, List.getElem_cons_succ, List.setIfInBounds_toArray, List.set_cons_zero, List.set_cons_succ]
          refine tkY 1 (v := ?v108) rfl (.inl ⟨by rfl, ?hy108⟩) ?hr108
          case hy108 => (intro w hSw; (try dsimp only at hSw); go_simp; try with_reducible rfl)
          simp only [Act.put, List.getElem_toArray, List.getElem_cons_zero, List.getElem_cons_succ, List.setIfInBounds_toArray, List.set_cons_zero, List.set_cons_succ]
          refine tkY 2 (v := ?v109) rfl (.inl ⟨by rfl, ?hy109⟩) ?hr109
          case hy109 => (intro w hSw; (try dsimp only at hSw); go_simp; try with_reducible rfl)
          simp only [Act.put, List.getElem_toArray, List.getElem_cons_zero, List.getElem_cons_succ, List.setIfInBounds_toArray, List.set_cons_zero, List.set_cons_succ]
          refine tkY 3 (v := ?v110) rfl (.inl ⟨by rfl, ?hy110⟩) ?hr110
          case hy110 => (intro w hSw; (try dsimp only at hSw); go_simp; try with_reducible rfl)
          simp only [Act.put, List.getElem_toArray, List.getElem_cons_zero, List.getElem_cons_succ, List.setIfInBounds_toArray, List.set_cons_zero, List.set_cons_succ]
          refine tkY 4 (v := ?v111) rfl (.inl ⟨by rfl, ?hy111⟩) ?hr111
          case hy111 => (intro w hSw; (try dsimp only at hSw); go_simp; try with_reducible rfl)
          simp only [Act.put, List.getElem_toArray, List.getElem_cons_zero, List.getElem_cons_succ, List.setIfInBounds_toArray, List.set_cons_zero, List.set_cons_succ]
          refine tkY 5 (v := ?v112) rfl (.inl ⟨by rfl, ?hy112⟩) ?hr112
          case hy112 => (intro w hSw; (try dsimp only at hSw); go_simp; try with_reducible rfl)
          simp only [Act.put, List.getElem_toArray, List.getElem_cons_zero, List.getElem_cons_succ, List.setIfInBounds_toArray, List.set_cons_zero, List.set_cons_succ]
          refine tkY 6 (v := ?v113) rfl (.inl ⟨by rfl, ?hy113⟩) ?hr113
          case hy113 => (intro w hSw; (try dsimp only at hSw); go_simp; try with_reducible rfl)
          simp only [Act.put, List.getElem_toArray, List.getElem_cons_zero, List.getElem_cons_succ, List.setIfInBounds_toArray, List.set_cons_zero, List.set_cons_succ]
          refine tkY 7 (v := ?v114) rfl (.inl ⟨by rfl, ?hy114⟩) ?hr114
          case hy114 => (intro w hSw; (try dsimp only at hSw); go_simp; try with_reducible rfl)
          simp only [Act.put, List.getElem_toArray, List.getElem_cons_zero, List.getElem_cons_succ, List.setIfInBounds_toArray, List.set_cons_zero, List.set_cons_succ]
          refine tkY 8 (v := ?v115) rfl (.inl ⟨by rfl, ?hy115⟩) ?hr115
          case hy115 => (intro w hSw; (try dsimp only at hSw); go_simp; try with_reducible rfl)
          simp only [Act.put, List.getElem_toArray, List.getElem_cons_zero, List.getElem_cons_succ, List.setIfInBounds_toArray, List.set_cons_zero, List.set_cons_succ]
          refine tkY 9 (v := ?v116) rfl (.inl ⟨by rfl, ?hy116⟩) ?hr116
          case hy116 => (intro w hSw; (try dsimp only at hSw); go_simp; try with_reducible rfl)
          simp only [Act.put, List.getElem_toArray, List.getElem_cons_zero, List.getElem_cons_succ, List.setIfInBounds_toArray, List.set_cons_zero, List.set_cons_succ]
          refine tkY 10 (v := ?v117) rfl (.inl ⟨by rfl, ?hy117⟩) ?hr117
          case hy117 => (intro w hSw; (try dsimp only at hSw); go_simp; try with_reducible rfl)
          simp only [Act.put, List.getElem_toArray, List.getElem_cons_zero, List.getElem_cons_succ, List.setIfInBounds_toArray, List.set_cons_zero, List.set_cons_succ]
          refine tkY 11 (v := ?v118) rfl (.inl ⟨by rfl, ?hy118⟩) ?hr118
          case hy118 => (intro w hSw; (try dsimp only at hSw); go_simp; try with_reducible rfl)
          simp only [Act.put, List.getElem_toArray, List.getElem_cons_zero, List.getElem_cons_succ, List.setIfInBounds_toArray, List.set_cons_zero, List.set_cons_succ]
          refine wpAnyH_ready (rs := [12]) (by kernel_rfl) (by simp) ?_
          refine AllReadyH.cons rfl (fun K hK => ?_) AllReadyH.nil
          go_simp
          go_at_call 24
          refine (refCompare_any q p _ (by omega) (by omega)).mono ?_
          rintro e w7 ⟨rfl, hbq⟩
          dsimp only
          rw [hcv.out]
          refine hK.out _ _ ?_ (fun hHeld => ?_)
          · (try dsimp only)
            exact keepS.out _ _ hHeld hbq
          clear hK K
          try simp only [Act.put, List.getElem_toArray, List.getElem_cons_zero, List.getElem_cons_succ, List.setIfInBounds_toArray, List.set_cons_zero, List.set_cons_succ]
          refine tkY 13 (v := ?v119) rfl (.inl ⟨by rfl, ?hy119⟩) ?hr119
          case hy119 => (intro w hSw; (try dsimp only at hSw); go_simp; try with_reducible rfl)
          simp only [Act.put, List.getElem_toArray, List.getElem_cons_zero, List.getElem_cons_succ, List.setIfInBounds_toArray, List.set_cons_zero, List.set_cons_succ]
          refine tkY 14 (v := ?v120) rfl (.inl ⟨by rfl, ?hy120⟩) ?hr120
          case hy120 => (intro w hSw; (try dsimp only at hSw); go_simp; try with_reducible rfl)
          simp only [Act.put, List.getElem_toArray, List.getElem_cons_zero, List.getElem_cons_succ, List.setIfInBounds_toArray, List.set_cons_zero, List.set_cons_succ]
          refine wpAnyH_done (by kernel_rfl) ?_ _
          obtain ⟨hb9, cq9, cp9⟩ := hHeld
          have hO2 := hO.below hb9
          clear cq hcp hO hS1 keepS
          by_cases hc : cv < 0
          · repeat' ((fail_if_success at_builtin); (first | go_skip | go_guarded | go_step))
            go_roundw
            case rel => exact ⟨j, by have := hj.out; omega, by go_num, hO2⟩
            case measure => have := hj.out; simp [intOf]; omega
          · cases hpq : (p.toList == q.toList) with
            | true =>
              have hpe := bytes_eq hpq
              have hmem2 : ∀ x, x ∈ L ↔ x ∈ l.take (i + 1) := fun x => by
                rw [mem_step hqc.out, ← hmem.out]
                exact ⟨.inl, fun h => h.elim id (fun h => by rw [h, ← hpe]; exact List.mem_of_getElem? hp.out)⟩
              replace hmem2 := Lib.hid hmem2
              clear hpe
              repeat' ((fail_if_success at_builtin); (first | go_skip | go_guarded | go_step))
              go_quiet (fail)
              have hO3 := hO2.below (Below.drewN _ nq)
              clear hO2
              repeat' ((fail_if_success at_builtin); (first | go_skip | go_guarded | go_step))
              go_roundw
              case rel => exact ⟨i + 1, L, _, c', by omega, by go_num, rfl, hO3, by omega, hmem2.out⟩
              case measure => simp [intOf]; omega
            | false =>
              repeat' ((fail_if_success at_builtin); (first | go_skip | go_guarded | go_step))
              go_quiet (fail)
              have hO3 := hO2.below (Below.drewN _ nq)
              clear hO2 cq9 cp9
              have hq := hqc.out
              obtain ⟨NL, hNL⟩ : ∃ NL, NL = L.take k ++ q :: L.drop k := ⟨_, rfl⟩
              have hNlen : NL.length = L.length + 1 := by rw [hNL]; exact len_ins
              have hNmem : ∀ x, x ∈ NL ↔ x ∈ l.take (i + 1) := fun x => by rw [hNL, mem_ins, mem_step hq, hmem.out]
              have hcs : cellsS NL = [] ++ cellsS (L.take k) ++ (#[Value.string q] : Array Value).toList ++ cellsS (L.drop k) := by rw [hNL]; simp
              replace hNL := Lib.hid hNL
              replace hNlen := Lib.hid hNlen
              replace hNmem := Lib.hid hNmem
              replace hcs := Lib.hid hcs
              have hcap := hO3.cap_le
              have hci : (k : Int) ≤ (c' : Int) := by omega
              have hli : (k : Int) ≤ (L.length : Int) := by omega
              have hki : (0 : Int) ≤ (k : Int) := by omega
              have hb3 := hO3.2
              have hsL := hO3.seq
              have cq3 := (hb3.cell (p := ⟨bl, off + i, none⟩) hbl).trans hcq
              have lq3 := Nat.lt_of_lt_of_le hbl hb3.size
              have hL1000 : L.length ≤ 1000 := by omega
              generalize hwx : World.drewN _ nq = wx at *
              clear hwx
              repeat' ((fail_if_success at_builtin); (first | go_skip | go_guarded | go_step))
              refine wp_appS (Own.empty_lit wx 9 1) Tryd.underlying22 str_info (Seq.below (seqS_take hsL hk) ((Below.refl _ _).alloc (Nat.le_refl _) _)) (strsC_one _) (by omega) ?_
              intro v3 w3 hown3 _
              have hb4 := hown3.2
              have cq4 := (hb4.cell (p := ⟨bl, off + i, none⟩) lq3).trans cq3
              repeat' ((fail_if_success at_builtin); (first | go_skip | go_guarded | go_step))
              refine wp_app1 hown3 Tryd.underlying22 str_info (by omega) ?_
              intro v4 w4 hown4 _
              have hs4 := hsL.below hown4.2
              repeat' ((fail_if_success at_builtin); (first | go_skip | go_guarded | go_step))
              have hd := seqS_drop hs4 hk hcap
              simp only [Option.map_some, Addr.add_lit] at hd
              refine wp_appS hown4 Tryd.underlying22 str_info hd (strsC_one _) (by omega) ?_
              intro v5 w5 hown5 _
              have hown6 := Own.up hb3 hown5
              rw [show 0 + k + 1 + (L.length - k) = NL.length by rw [hNlen.out]; omega] at hown6
              rw [← hcs.out] at hown6
              obtain ⟨A5, c5, rfl⟩ := Own.slice_form hown6
              repeat' ((fail_if_success at_builtin); (first | go_skip | go_guarded | go_step))
              go_roundw
              case rel => exact ⟨i + 1, NL, A5, c5, by omega, by go_num, rfl, hown6, by rw [hNlen.out]; omega, hNmem.out⟩
              case measure => simp [intOf]; omega
    · have i1 : ¬ (i : Int) < (l.length : Int) := by omega
      have htk : l.take i = l := List.take_of_length_le (by omega)
      have hmem2 : ∀ x, x ∈ L ↔ x ∈ l := fun x => by rw [hmem.out, htk]
      replace hmem2 := Lib.hid hmem2
      clear htk
      repeat' ((fail_if_success at_builtin); (first | go_skip | go_guarded | go_step))
      go_ret
      exact ⟨L, A', c', rfl, by omega, hmem2.out, hO⟩
end Go.Proofs.YtppbblgdcckbdaaDoor
