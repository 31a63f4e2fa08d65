/- Expire, on both sides. -/
import Derived.Test.YtclinbpkcmcokaaDoorArtFew
namespace Go.Proofs.YtclinbpkcmcokaaDoor
open Go.RowKit
def alive (now : Int) (a : Art) : Bool := decide (now < a.expires)
theorem filter_at {α : Type} {l : List α} {p : α → Bool} {i : Nat} {x : α} (h : l[i]? = some x) : (l.take (i + 1)).filter p = (l.take i).filter p ++ (if p x = true then [x] else []) := by
  rw [List.take_add_one, h, List.filter_append]
  cases hp : p x <;> simp [hp]
theorem filter_le {α : Type} (l : List α) (p : α → Bool) (i : Nat) : ((l.take i).filter p).length ≤ l.length := by
  have h1 := List.length_filter_le p (l.take i)
  have h2 : (l.take i).length ≤ l.length := by rw [List.length_take]; omega
  omega
set_option maxRecDepth 100000 in
set_option maxHeartbeats 800000 in
theorem alive_any (a : Art) (now : Int) (g : Nat) (w : World) (l1 : g < w.heap.size) (e1 : w.cell? ⟨g, 0, none⟩ = some (.int .i64 now)) :
    Calls Tryd.prog 29 #[.agg (acells a), .pointer (some ⟨g, 0, none⟩)] w fun e w' => e = .returned (.bool (alive now a)) ∧ Below w.heap.size w w' := by
  have hb := (abox w a 30).1
  have d1 := (hb.cell (p := ⟨g, 0, none⟩) l1).trans e1
  go_enter Tryd.func29, Tryd.ntmps29
  repeat' ((fail_if_success at_builtin); (first | go_skip | go_guarded | go_step))
  go_ret
  exact ⟨rfl, hb⟩
set_option maxRecDepth 100000 in
set_option maxHeartbeats 800000 in
theorem filter_any (now : Int) (l : List Art) (A : Option Addr) (c : Nat) (w : World) (B g : Nat) (hB : B ≤ w.heap.size) (hs : SeqA w B A l) (hl : l.length ≤ 1000000) (l1 : g < w.heap.size) (e1 : w.cell? ⟨g, 0, none⟩ = some (.int .i64 now)) :
    Calls Tryd.prog 28 #[.slice A l.length c, .func (.func 29) #[] #[.pointer (some ⟨g, 0, none⟩)]] w fun e w' =>
      ∃ A c, e = .returned (.slice A (l.filter (alive now)).length c) ∧ OwnA w w' (.slice A (l.filter (alive now)).length c) (l.filter (alive now)) := by
  have C := fun (x : Art) (w' : World) (hb : Below w.heap.size w w') => alive_any x now g w' (Nat.lt_of_lt_of_le l1 hb.size) ((hb.cell (p := ⟨g, 0, none⟩) l1).trans e1)
  replace C := Lib.hid C
  clear e1
  go_enter Tryd.func28, Tryd.ntmps28
  repeat' ((fail_if_success at_builtin); (first | go_skip | go_guarded | go_step))
  go_loopw [5, 10] (fun u5 u10 wr => ∃ i : Nat, i ≤ l.length ∧ u10 = .int .i64 (i : Int) ∧ OwnA w wr u5 ((l.take i).filter (alive now))) (fun _ u10 _ => l.length - (intOf u10).toNat)
  case atStart => exact ⟨0, by omega, rfl, Own.nil_ _ _ _⟩
  case round =>
    obtain ⟨i, hi, rfl, hown⟩ := hrel
    have hbr := hown.2
    by_cases hlt : i < l.length
    · have hle := filter_le l (alive now) i
      obtain ⟨b, o, rfl, hbB, hcell⟩ := hs.2 (by omega)
      have hci : l[i]? = some l[i] := List.getElem?_eq_getElem hlt
      have hcell' := fun j u hu => (hbr.cell (p := ⟨b, o + (i * 8 + j), none⟩) (by dsimp only; omega)).trans (hcell (i * 8 + j) u (flat_at acl_len hci hu))
      clear hcell
      generalize l[i] = x at *
      have e0 := hcell' 0 _ rfl
      have e1 := hcell' 1 _ rfl
      have e2 := hcell' 2 _ rfl
      have e3 := hcell' 3 _ rfl
      have e4 := hcell' 4 _ rfl
      have e5 := hcell' 5 _ rfl
      have e6 := hcell' 6 _ rfl
      have e7 := hcell' 7 _ rfl
      simp only [← Nat.add_assoc, Nat.add_zero] at e0 e1 e2 e3 e4 e5 e6 e7
      clear hcell'
      have i0 : (0 : Int) ≤ (i : Int) := by omega
      have i1 : (i : Int) < (l.length : Int) := by omega
      have hfa := filter_at (p := alive now) hci
      replace hfa := Lib.hid hfa
      clear hci
      have hb88 : (((l.take i).filter (alive now)).length + 1) * 88 ≤ 140737488355328 := by omega
      generalize (l.take i).filter (alive now) = fl at *
      repeat' ((fail_if_success at_builtin); (first | go_skip | go_guarded | go_step))
      generalize hw1 : World.alloc wr _ = w1
      have c0 : w1.cell? ⟨wr.heap.size, 0, none⟩ = some (.string x.run) := by rw [← hw1]; simp [go_sem]
      have c1 : w1.cell? ⟨wr.heap.size, 1, none⟩ = some (.string x.job) := by rw [← hw1]; simp [go_sem]
      have c2 : w1.cell? ⟨wr.heap.size, 2, none⟩ = some (.int .i64 x.att) := by rw [← hw1]; simp [go_sem]
      have c3 : w1.cell? ⟨wr.heap.size, 3, none⟩ = some (.string x.nm) := by rw [← hw1]; simp [go_sem]
      have c4 : w1.cell? ⟨wr.heap.size, 4, none⟩ = some (.int .u64 x.dig) := by rw [← hw1]; simp [go_sem]
      have c5 : w1.cell? ⟨wr.heap.size, 5, none⟩ = some (.int .i64 x.size) := by rw [← hw1]; simp [go_sem]
      have c6 : w1.cell? ⟨wr.heap.size, 6, none⟩ = some (.int .i64 x.created) := by rw [← hw1]; simp [go_sem]
      have c7 : w1.cell? ⟨wr.heap.size, 7, none⟩ = some (.int .i64 x.expires) := by rw [← hw1]; simp [go_sem]
      have hb1 : Below wr.heap.size wr w1 := by rw [← hw1]; exact (Below.refl _ _).alloc (Nat.le_refl _) _
      have k1 : wr.heap.size < w1.heap.size := by rw [← hw1]; simp
      clear hw1
      have hown1 := hown.below hb1
      refine (C.out x w1 hown1.2).mono ?_
      rintro e w2 ⟨rfl, hb2⟩
      have d0 := (hb2.cell (p := ⟨wr.heap.size, 0, none⟩) k1).trans c0
      have d1 := (hb2.cell (p := ⟨wr.heap.size, 1, none⟩) k1).trans c1
      have d2 := (hb2.cell (p := ⟨wr.heap.size, 2, none⟩) k1).trans c2
      have d3 := (hb2.cell (p := ⟨wr.heap.size, 3, none⟩) k1).trans c3
      have d4 := (hb2.cell (p := ⟨wr.heap.size, 4, none⟩) k1).trans c4
      have d5 := (hb2.cell (p := ⟨wr.heap.size, 5, none⟩) k1).trans c5
      have d6 := (hb2.cell (p := ⟨wr.heap.size, 6, none⟩) k1).trans c6
      have d7 := (hb2.cell (p := ⟨wr.heap.size, 7, none⟩) k1).trans c7
      clear c0 c1 c2 c3 c4 c5 c6 c7
      have hown2 := hown1.below hb2
      clear hb1 hb2 k1 hown1 hown
      dsimp only
      cases hv : alive now x with
      | false =>
        rw [hv] at hfa
        clear d0 d1 d2 d3 d4 d5 d6 d7
        repeat' ((fail_if_success at_builtin); (first | go_skip | go_guarded | go_step))
        go_roundw
        case rel => exact ⟨i + 1, by omega, by go_num, by rw [hfa.out]; simpa using hown2⟩
        case measure => simp [intOf]; omega
      | true =>
        rw [hv] at hfa
        repeat' ((fail_if_success at_builtin); (first | go_skip | go_guarded | go_step))
        refine wp_app1 hown2 Tryd.underlying22 art_info hb88 ?_
        intro v3 w3 hown3 _
        repeat' ((fail_if_success at_builtin); (first | go_skip | go_guarded | go_step))
        go_roundw
        case rel =>
          refine ⟨i + 1, by omega, by go_num, ?_⟩
          rw [hfa.out, if_pos rfl]
          unfold OwnA
          rw [List.length_append, List.flatMap_append, List.flatMap_cons, List.flatMap_nil, List.append_nil]
          exact hown3
        case measure => simp [intOf]; omega
    · have hte : l.take i = l := List.take_of_length_le (by omega)
      rw [hte] at hown
      obtain ⟨A2, c2, rfl⟩ := Own.slice_form hown
      repeat' ((fail_if_success at_builtin); (first | go_skip | go_guarded | go_step))
      go_ret
      exact ⟨A2, c2, rfl, hown⟩
set_option maxRecDepth 100000 in
set_option maxHeartbeats 800000 in
theorem expire_any (now : Int) (l : List Art) (A : Option Addr) (c : Nat) (w : World) (B : Nat) (hB : B ≤ w.heap.size) (hs : SeqA w B A l) (hl : l.length ≤ 1000000) :
    Calls Tryd.prog 14 #[.slice A l.length c, .int .i64 now] w fun e w' => ∃ A c, e = .returned (.slice A (l.filter (alive now)).length c) ∧ OwnA w w' (.slice A (l.filter (alive now)).length c) (l.filter (alive now)) := by
  have hb1 := (Below.refl w.heap.size w).alloc (Nat.le_refl _) (.cells #[.int .i64 now] 3)
  have C := filter_any now l A c _ B w.heap.size (Nat.le_trans hB hb1.size) (hs.below (hb1.mono hB)) hl (by simp) (by simp [go_sem])
  replace C := Lib.hid C
  clear hs
  go_enter Tryd.func14, Tryd.ntmps14
  repeat' ((fail_if_success at_builtin); (first | go_skip | go_guarded | go_step))
  refine C.out.mono ?_
  rintro e w3 ⟨A3, c3, rfl, h3⟩
  have h4 := h3.up hb1
  dsimp only
  repeat' ((fail_if_success at_builtin); (first | go_skip | go_guarded | go_step))
  go_ret
  exact ⟨A3, c3, rfl, h4⟩
set_option maxRecDepth 100000 in
set_option maxHeartbeats 800000 in
theorem rexpire_any (now : Int) (l : List Art) (A : Option Addr) (c : Nat) (w : World) (B : Nat) (hB : B ≤ w.heap.size) (hs : SeqA w B A l) (hl : l.length ≤ 1000000) :
    Calls Tryd.prog 21 #[.slice A l.length c, .int .i64 now] w fun e w' => ∃ A c, e = .returned (.slice A (l.filter (alive now)).length c) ∧ OwnA w w' (.slice A (l.filter (alive now)).length c) (l.filter (alive now)) := by
  go_enter Tryd.func21, Tryd.ntmps21
  repeat' ((fail_if_success at_builtin); (first | go_skip | go_guarded | go_step))
  go_loopw [5, 6] (fun u5 u6 wr => ∃ i : Nat, i ≤ l.length ∧ u6 = .int .i64 (i : Int) ∧ OwnA w wr u5 ((l.take i).filter (alive now))) (fun _ u6 _ => l.length - (intOf u6).toNat)
  case atStart => exact ⟨0, by omega, rfl, Own.nil_ _ _ _⟩
  case round =>
    obtain ⟨i, hi, rfl, hown⟩ := hrel
    have hbr := hown.2
    by_cases hlt : i < l.length
    · have hle := filter_le l (alive now) i
      obtain ⟨b, o, rfl, hbB, hcell⟩ := hs.2 (by omega)
      have hci : l[i]? = some l[i] := List.getElem?_eq_getElem hlt
      have hcell' := fun j u hu => (hbr.cell (p := ⟨b, o + (i * 8 + j), none⟩) (by dsimp only; omega)).trans (hcell (i * 8 + j) u (flat_at acl_len hci hu))
      clear hcell
      generalize l[i] = x at *
      have e0 := hcell' 0 _ rfl
      have e1 := hcell' 1 _ rfl
      have e2 := hcell' 2 _ rfl
      have e3 := hcell' 3 _ rfl
      have e4 := hcell' 4 _ rfl
      have e5 := hcell' 5 _ rfl
      have e6 := hcell' 6 _ rfl
      have e7 := hcell' 7 _ rfl
      simp only [← Nat.add_assoc, Nat.add_zero] at e0 e1 e2 e3 e4 e5 e6 e7
      clear hcell'
      have i0 : (0 : Int) ≤ (i : Int) := by omega
      have i1 : (i : Int) < (l.length : Int) := by omega
      have hfa := filter_at (p := alive now) hci
      replace hfa := Lib.hid hfa
      clear hci
      have hb88 : (((l.take i).filter (alive now)).length + 1) * 88 ≤ 140737488355328 := by omega
      generalize (l.take i).filter (alive now) = fl at *
      by_cases hx : now < x.expires
      · have hv : alive now x = true := by unfold alive; simpa using hx
        rw [hv] at hfa
        repeat' ((fail_if_success at_builtin); (first | go_skip | go_guarded | go_step))
        refine wp_app1 hown Tryd.underlying22 art_info hb88 ?_
        intro v3 w3 hown3 _
        repeat' ((fail_if_success at_builtin); (first | go_skip | go_guarded | go_step))
        go_roundw
        case rel =>
          refine ⟨i + 1, by omega, by go_num, ?_⟩
          rw [hfa.out, if_pos rfl]
          unfold OwnA
          rw [List.length_append, List.flatMap_append, List.flatMap_cons, List.flatMap_nil, List.append_nil]
          exact hown3
        case measure => simp [intOf]; omega
      · have hv : alive now x = false := by unfold alive; simpa using hx
        rw [hv] at hfa
        repeat' ((fail_if_success at_builtin); (first | go_skip | go_guarded | go_step))
        go_roundw
        case rel => exact ⟨i + 1, by omega, by go_num, by rw [hfa.out]; simpa using hown⟩
        case measure => simp [intOf]; omega
    · have hte : l.take i = l := List.take_of_length_le (by omega)
      rw [hte] at hown
      obtain ⟨A2, c2, rfl⟩ := Own.slice_form hown
      repeat' ((fail_if_success at_builtin); (first | go_skip | go_guarded | go_step))
      go_ret
      exact ⟨A2, c2, rfl, hown⟩
/-- append of one element, in a region that draws its order -/
theorem step_app1 {P : Program} {ops : Array Oper} {o : Oper} {a : Act} {K : Act → World → Prop} {Q : Exit → Act → World → Prop} {E : Prop} {w W0 : World} {e : TypeId} {size n : Nat} {v : Value} {xs : List Value} (H : Own W0 w e size v n xs) {t : TypeId} {z : Value} {bytes : Nat} (ht : P.underlying t = some (.slice e)) (hi : Info P e z size bytes)
    (hbytes : (n + 1) * bytes ≤ 140737488355328) {cs : Array Value}
    (h : ∀ v' w', Own W0 w' e size v' (n + 1) (xs ++ cs.toList) → Grew (w.alloc (.cells cs e)) w' v v' → K (a.put o.dst v') w')
    {s x : Operand} {g : Nat} (hgd : o.guard = none := by rfl) (ho : o.op = .call { callee := .builtin .append, args := #[s, x], argTypes := #[t, t] } := by rfl)
    (hs : a.eval s = v := by rfl) (hx : a.eval x = .slice (some ⟨g, 0, none⟩) 1 1 := by rfl) (hgs : g = w.heap.size := by first | rfl | simp) (hzs : z.cells.size = size := by rfl) (hsz : 0 < size := by decide) (hby : 0 < bytes := by decide)
    (hcs : cs.size = size := by rfl) (h1 : cs.toList.all Value.oneCell' = true := by rfl) :
    if Region.wanted o (yielded ops a.tmps) = true then Oper.wp P o a (w.alloc (.cells cs e)) K Q else E := by
  subst hgs
  obtain ⟨hown, hB⟩ := H
  have hn := Nat.le_trans (Nat.le_mul_of_pos_right (n + 1) hby) hbytes
  obtain ⟨i, hi1, hi2, hi3, hi4⟩ := info_parts hi
  rw [if_pos (by simp [Region.wanted, hgd])]
  obtain ⟨v', w', hr, h2, h3, h4, h5⟩ := run_append_own_at (P := P) (w.alloc (.cells cs e)) W0.heap.size t o.type e i z size bytes ht hi1 hi2 hi3 hi4 hzs hsz v n xs (hown.alloc _) ⟨w.heap.size, 0, none⟩ 1 1 cs.toList (by simpa using hcs)
    (by
      intro j u hu
      rw [Addr.add_lit, Nat.zero_add]
      have := cell_of_row (w.alloc (.cells cs e)) w.heap.size j cs e (0, 0) (heap_alloc_new w _)
      rw [this]
      simpa using hu) (List.all_eq_true.1 h1) (by unfold maxLen; omega) hbytes (by have := hB.size; simp; omega)
  unfold Oper.wp execOp
  simp only [ho, resolve, invoke, builtin, Sem.run_bind, Sem.run_pure, Result.andThen_ok, List.map_toArray, List.map_cons, List.map_nil, hs, hx, hr]
  refine h v' w' ⟨h2, ?_⟩ ⟨h3, h5⟩
  exact (hB.alloc hB.size _).grown h3 (by have := hB.size; simp; omega) (fun k hk => (hown.lt k hk).1)
end Go.Proofs.YtclinbpkcmcokaaDoor
