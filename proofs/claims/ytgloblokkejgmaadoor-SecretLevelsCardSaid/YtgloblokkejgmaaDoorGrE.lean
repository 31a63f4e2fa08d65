/- The document's Elems: the walk. -/
import Derived.Test.YtgloblokkejgmaaDoorGrC
import Derived.Test.YtgloblokkejgmaaDoorRd
namespace Go.Proofs.YtgloblokkejgmaaDoor
open Go.RowKit
/-- an element of the document in memory -/
def rE : Rd REl := fun w S e cs => ∃ (A : Option Addr) (c : Nat), cs = [.int .i64 (e.kind : Int), .slice A e.items.length c] ∧ SeqP w S 2 A e.items.length (icells e.items)
theorem rE.map {w w' : World} {S S' : Nat → Prop} (hk : ∀ p : Addr, S p.block → w'.cell? p = w.cell? p) (hS : ∀ b, S b → S' b) : ∀ (e : REl) (cs : List Value), rE w S e cs → rE w' S' e cs := by
  rintro e cs ⟨A, c, rfl, h⟩
  exact ⟨A, c, rfl, SeqP.map h hk hS⟩
structure EInv (w wr : World) (v : Value) (es : List REl) (cs : List Value) : Prop where
  own : Own w wr 117 2 v es.length cs
  rl : RList rE 2 wr (fun b => b < wr.heap.size ∧ some b ≠ v.ownBlock) es cs
theorem EInv.app {w wr wq w3 : World} {v v3 : Value} {es : List REl} {cs : List Value} {E : REl} {A : Option Addr} {c : Nat} {o : Obj} (h : EInv w wr v es cs) (hb : Below wr.heap.size wr wq)
    (hi : SeqP wq (fun g => wr.heap.size ≤ g ∧ g < wq.heap.size) 2 A E.items.length (icells E.items))
    (ho : Own w w3 117 2 v3 (es.length + 1) (cs ++ [.int .i64 (E.kind : Int), .slice A E.items.length c])) (hg : Grew (wq.alloc o) w3 v v3) : EInv w w3 v3 (es ++ [E]) (cs ++ [.int .i64 (E.kind : Int), .slice A E.items.length c]) := by
  have hz : (wq.alloc o).heap.size = wq.heap.size + 1 := by simp
  have hz2 := hb.size
  have hz3 := hg.by_.size
  have ha : Below wq.heap.size wq (wq.alloc o) := (Below.refl _ _).alloc (Nat.le_refl _) _
  refine ⟨by rw [List.length_append]; exact ho, RList.append ?_ ?_⟩
  · refine RList.map (rE.map (fun p hp => ?_) fun b hb' => ?_) h.rl
    · exact (hg.cell (by rw [hz]; have := hp.1; omega) hp.2).trans ((ha.cell (by have := hp.1; omega)).trans (hb.cell hp.1))
    · exact ⟨by omega, hg.ne (by rw [hz]; have := hb'.1; omega) hb'.2⟩
  · refine RList.one ⟨A, c, rfl, SeqP.map hi (fun p hp => ?_) fun b hb' => ?_⟩ rfl
    · exact (hg.cell (by rw [hz]; have := hp.2; omega) (h.own.lt hp.1)).trans (ha.cell hp.2)
    · exact ⟨by omega, hg.ne (by rw [hz]; have := hb'.2; omega) (h.own.lt hb'.1)⟩
def RetRE (w : World) (r : Option (List REl)) (e : Ending) (w' : World) : Prop := match r with
  | none => e = .returned (.tuple #[.slice none 0 0, .bool false]) ∧ Below w.heap.size w w'
  | some es => ∃ (A : Option Addr) (c : Nat) (cs : List Value), e = .returned (.tuple #[.slice A es.length c, .bool true]) ∧ Seq w' w'.heap.size 2 A es.length cs ∧ RList rE 2 w' (fun b => b < w'.heap.size) es cs ∧ Below w.heap.size w w'
theorem prsRF_step {k : Nat} {l : List UInt8} (h : l ≠ []) : prsRF (k + 1) l = match fstR l with
    | none => none
    | some (e, n) => (prsRF k (l.drop n)).map (e :: ·) := by
  cases l with
  | nil => exact absurd rfl h
  | cons c l => rfl
theorem rel_info : Info Tryd.prog 117 (.agg #[.int .i64 0, .slice none 0 0]) 2 32 := by unfold Info; kernel_rfl
/- FST -/
theorem last_42 {l : List UInt8} {k : Nat} : lastN l k = 42 ↔ l[k]?.map UInt8.toNat = some 42 := by
  unfold lastN
  cases l[k]? with
  | none => simp
  | some c => simp
theorem fstR_at {l : List UInt8} {a x : Nat} (h : l[a]?.map UInt8.toNat = some x) : fstR (l.drop a) = if x = 42 then (if lastN l (a + 1) = 42 then some (⟨1, []⟩, 2) else some (⟨2, []⟩, 1))
    else if x = 63 then some (⟨3, []⟩, 1)
    else if x = 91 then (match clsRF (l.drop a) ((l.drop a).length + 1) 1 [] with
      | none => none
      | some (it, n) => some (⟨4, it⟩, n))
    else if x = 92 then (if a + 1 < l.length then some (⟨5, [(lastN l (a + 1), lastN l (a + 1))]⟩, 2) else none)
    else some (⟨5, [(x, x)]⟩, 1) := by
  obtain ⟨c, h0, rfl⟩ := Option.map_eq_some_iff.1 h
  have e0 : (l.drop a)[0]? = some c := by rw [List.getElem?_drop]; exact h0
  have e1 : (l.drop a)[1]? = l[a + 1]? := List.getElem?_drop
  unfold fstR
  rw [e0, e1]
  dsimp only
  simp only [← last_42]
  by_cases hl : a + 1 < l.length
  · have e2 : l[a + 1]? = some l[a + 1] := List.getElem?_eq_getElem hl
    have e3 : lastN l (a + 1) = l[a + 1].toNat := by unfold lastN; rw [e2]; rfl
    rw [if_pos hl, e2, e3]
    rfl
  · rw [if_neg hl, List.getElem?_eq_none (by omega)]
    rfl
theorem prs_next {R : Option (List REl)} {k a m : Nat} {l : List UInt8} {es : List REl} {E : REl} (hC : R = (match fstR (l.drop a) with
    | none => none
    | some (e, n) => (prsRF k ((l.drop a).drop n)).map (e :: ·)).map (es ++ ·)) (hF : fstR (l.drop a) = some (E, m)) : R = (prsRF k (l.drop (a + m))).map ((es ++ [E]) ++ ·) := by
  rw [hC, hF]
  dsimp only
  rw [List.drop_drop]
  cases prsRF k (l.drop (a + m)) <;> simp
theorem prs_stop {R : Option (List REl)} {k a : Nat} {l : List UInt8} {es : List REl} (hC : R = (match fstR (l.drop a) with
    | none => none
    | some (e, n) => (prsRF k ((l.drop a).drop n)).map (e :: ·)).map (es ++ ·)) (hF : fstR (l.drop a) = none) : R = none := by
  rw [hC, hF]
  rfl
theorem clsRF_range : ∀ (l : List UInt8) (k a : Nat) (it it' : List (Nat × Nat)) (n : Nat), clsRF l k a it = some (it', n) → a < n ∧ n ≤ l.length ∧ it'.length ≤ it.length + (n - a)
  | l, 0, a, it, it', n, h => by simp [clsRF] at h
  | l, k + 1, a, it, it', n, h => by
    rw [clsRF] at h
    by_cases h93 : l[a]?.map UInt8.toNat = some 93
    · rw [if_pos h93] at h
      have hlt : a < l.length := by
        obtain ⟨c, h1, _⟩ := Option.map_eq_some_iff.1 h93
        exact (List.getElem?_eq_some_iff.1 h1).1
      by_cases h0 : it = []
      · rw [if_pos h0] at h; cases h
      · rw [if_neg h0] at h
        cases h
        exact ⟨by omega, by omega, by omega⟩
    · rw [if_neg h93] at h
      cases hq : charAt l a with
      | none => rw [hq] at h; cases h
      | some p =>
        obtain ⟨x, m⟩ := p
        rw [hq] at h
        dsimp only at h
        have r1 := charAt_range hq
        by_cases h45 : l[a + m]?.map UInt8.toNat = some 45
        · rw [if_pos h45] at h
          cases hq2 : charAt l (a + m + 1) with
          | none => rw [hq2] at h; cases h
          | some p2 =>
            obtain ⟨y, m2⟩ := p2
            rw [hq2] at h
            dsimp only at h
            have r2 := charAt_range hq2
            by_cases hyx : y < x
            · rw [if_pos hyx] at h; cases h
            · rw [if_neg hyx] at h
              have := clsRF_range l k _ _ _ _ h
              simp at this
              omega
        · rw [if_neg h45] at h
          have := clsRF_range l k _ _ _ _ h
          simp at this
          omega
theorem st2 {w w2 wq : World} {B b : Nat} {x y u v : Value} (h0 : w2.cell? ⟨b, 0, none⟩ = some x) (h1 : w2.cell? ⟨b, 1, none⟩ = some y) (fz : ∀ o, w2.frozen? ⟨b, o, none⟩ = false) (hq : Below B w w2) (hB : B ≤ b) (he : (w2.setCell ⟨b, 0, none⟩ u).setCell ⟨b, 1, none⟩ v = wq) :
    wq.cell? ⟨b, 0, none⟩ = some u ∧ wq.cell? ⟨b, 1, none⟩ = some v ∧ (∀ o, wq.frozen? ⟨b, o, none⟩ = false) ∧ Below B w wq ∧ wq.heap.size = w2.heap.size ∧ ∀ p : Addr, p.block ≠ b → wq.cell? p = w2.cell? p := by
  obtain ⟨⟨e0, e1⟩, _⟩ := cells2 (u := u) (v := v) h0 h1
  rw [he] at e0 e1
  refine ⟨e0, e1, fun o => ?_, ?_, ?_, fun p hp => ?_⟩
  · rw [← he, World.frozen?_setCell, World.frozen?_setCell]; exact fz o
  · rw [← he]; exact (hq.setCell (p := ⟨b, 0, none⟩) hB _).setCell (p := ⟨b, 1, none⟩) hB _
  · rw [← he]; simp [World.setCell]
  · rw [← he, World.cell?_setCell_far _ _ _ _ (fun e => hp e.symm), World.cell?_setCell_far _ _ _ _ (fun e => hp e.symm)]
theorem seqp_pair {w : World} {g x y : Nat} {S : Nat → Prop} (h0 : w.cell? ⟨g, 0, none⟩ = some (.int .u8 (x : Int))) (h1 : w.cell? ⟨g, 1, none⟩ = some (.int .u8 (y : Int))) (hS : S g) : SeqP w S 2 (some ⟨g, 0, none⟩) 1 (icells [(x, y)]) := by
  refine ⟨by simp [icells], fun _ => ⟨g, 0, rfl, hS, fun i u hu => ?_⟩⟩
  match i, hu with
  | 0, hu => cases hu; exact h0
  | 1, hu => cases hu; exact h1
  | i + 2, hu => simp [icells] at hu
set_option maxRecDepth 100000 in
set_option maxHeartbeats 4000000 in
theorem elems_any (s : ByteArray) (w : World) (hm : s.size ≤ 800000) : Calls Tryd.prog 75 #[.string s] w (RetRE w (prsR s.data.toList)) := by
  have hsz : s.data.toList.length = s.size := by simp
  unfold prsR
  rw [hsz]
  replace hsz := Lib.hid hsz
  by_cases hb : 4096 < s.size
  · rw [if_pos hb]
    have hb' : (4096 : Int) < (s.size : Int) := by omega
    go_enter Tryd.func75, Tryd.ntmps75
    repeat' ((fail_if_success at_builtin); (first | go_skip | go_guarded | go_step))
    go_ret2
    exact ⟨rfl, Below.refl _ _⟩
  · rw [if_neg hb]
    have hb' : ¬ ((4096 : Int) < (s.size : Int)) := by omega
    generalize hR : prsRF s.size s.data.toList = R at *
    replace hR := Lib.hid hR
    go_enter Tryd.func75, Tryd.ntmps75
    repeat' ((fail_if_success at_builtin); (first | go_skip | go_guarded | go_step))
    go_loopw [4, 5] (fun u4 u5 wr => ∃ (a k : Nat) (es : List REl) (cs : List Value), u5 = .int .i64 (a : Int) ∧ a ≤ s.size ∧ s.size ≤ k + a ∧ es.length ≤ a ∧ EInv w wr u4 es cs ∧ R = (prsRF k (s.data.toList.drop a)).map (es ++ ·)) (fun _ u5 _ => s.size - (intOf u5).toNat)
    case atStart => exact ⟨0, s.size, [], [], rfl, by omega, by omega, by simp, ⟨Own.nil_ _ _ _, rfl⟩, by rw [List.drop_zero, hR.out]; simp⟩
    case round =>
      obtain ⟨a, k, es, cs, rfl, ha, hk, hes, hI, hC⟩ := hrel
      by_cases hlt : a < s.size
      · have hne : s.data.toList.drop a ≠ [] := by
          intro h
          have := congrArg List.length h
          rw [List.length_drop, hsz.out] at this
          simp at this
          omega
        obtain ⟨k, rfl⟩ : ∃ k', k = k' + 1 := ⟨k - 1, by omega⟩
        rw [prsRF_step hne] at hC
        have i0 : (0 : Int) ≤ (a : Int) := by omega
        have i1 : (a : Int) < (s.size : Int) := by omega
        have hF := fstR_at (l := s.data.toList) (a := a) (x := s[a].toNat) (by rw [str_at hlt]; rfl)
        rw [hsz.out] at hF
        have hx := s[a].toNat_lt
        have hby : (es.length + 1) * 32 ≤ 140737488355328 := by omega
        have C1 := fun w => last_any s (a + 1) w (by omega)
        have a1 : ((a + 1 : Nat) : Int) = (a : Int) + 1 := by omega
        simp only [a1] at C1
        have C2 := fun w => rclass_any s a w (by omega) hlt
        simp only [a1] at C2
        clear a1 hne
        replace hC := Lib.hid hC
        replace C1 := Lib.hid C1
        replace C2 := Lib.hid C2
        obtain ⟨A0, c0, rfl⟩ := hI.own.slice_form
        repeat' ((fail_if_success at_builtin); (first | go_skip | go_guarded | go_step))
        go_region
        · generalize hw2 : (World.alloc (World.alloc wr _) _).drew = w2
          have hq : Below wr.heap.size wr w2 := by rw [← hw2]; exact (((Below.refl _ _).alloc (Nat.le_refl _) _).alloc (by simp) _).drew
          have y0 : w2.cell? ⟨wr.heap.size + 1, 0, none⟩ = some (.int .i64 5) := by rw [← hw2]; simp [go_sem]
          have y1 : w2.cell? ⟨wr.heap.size + 1, 1, none⟩ = some (.slice (some ⟨wr.heap.size, 0, none⟩) 1 1) := by rw [← hw2]; simp [go_sem]
          have z0 : w2.cell? ⟨wr.heap.size, 0, none⟩ = some (.int .u8 (s[a].toNat : Int)) := by rw [← hw2]; simp [go_sem]
          have z1 : w2.cell? ⟨wr.heap.size, 1, none⟩ = some (.int .u8 (s[a].toNat : Int)) := by rw [← hw2]; simp [go_sem]
          have fz : ∀ o, w2.frozen? ⟨wr.heap.size + 1, o, none⟩ = false := fun o => by rw [← hw2]; simp [go_sem]
          have hz2 : w2.heap.size = wr.heap.size + 2 := by rw [← hw2]; simp
          have hz3 : wr.heap.size + 1 < w2.heap.size := by omega
          clear hw2
          by_cases h42 : s[a].toNat = 42
          · rw [if_pos h42] at hF
            have q42 : ((s[a].toNat : Int) == 42) = true := by simpa using (by omega : (s[a].toNat : Int) = 42)
            replace hF := Lib.hid hF
            clear h42
            repeat' ((fail_if_success at_builtin); (first | go_skip | go_guarded | go_step))
            generalize hwq : World.setCell (World.setCell w2 _ _) _ _ = wa
            obtain ⟨q0a, q1a, fqa, hqa, hqza, fara⟩ := st2 y0 y1 fz hq (by omega) hwq
            clear hwq
            have hza : wr.heap.size + 1 < wa.heap.size := by omega
            clear y0 y1 z0 z1 fz hq
            refine (C1.out _).mono ?_
            rintro e w4 ⟨rfl, rfl⟩
            dsimp only
            have hlt2 : lastN s.data.toList (a + 1) = 42 → a + 2 ≤ s.size := fun h => by
              obtain ⟨z, h1, _⟩ := Option.map_eq_some_iff.1 (last_42.1 h)
              have := (List.getElem?_eq_some_iff.1 h1).1
              rw [hsz.out] at this
              omega
            generalize lastN s.data.toList (a + 1) = x1 at *
            by_cases h2 : x1 = 42
            · have hlt3 := hlt2 h2
              have ql : ((x1 : Int) == 42) = true := by simpa using (by omega : (x1 : Int) = 42)
              replace hF := hF.out
              rw [if_pos h2] at hF
              replace hF := Lib.hid hF
              clear h2 hlt2
              repeat' ((fail_if_success at_builtin); (first | go_skip | go_guarded | go_step))
              generalize hwq : World.setCell (World.setCell w4 _ _) _ _ = wb
              obtain ⟨q0b, q1b, fqb, hqb, hqzb, farb⟩ := st2 q0a q1a fqa hqa (by omega) hwq
              clear hwq
              have hit : SeqP wb (fun g => wr.heap.size ≤ g ∧ g < wb.heap.size) 2 none (REl.mk 1 []).items.length (icells (REl.mk 1 []).items) := SeqP.empty none
              refine wp_app1 (hI.own.below hqb) Tryd.underlying100 rel_info hby ?_ (hgs := by omega)
              intro v3 w3 hown3 hgr
              have hI3 := hI.app (E := ⟨1, []⟩) (A := none) (c := 0) hqb hit hown3 hgr
              obtain ⟨A3, c3, rfl⟩ := hown3.slice_form
              replace hI3 := Lib.hid hI3
              clear hown3 hgr hit
              repeat' ((fail_if_success at_builtin); (first | go_skip | go_guarded | go_step))
              go_roundw
              case rel => exact ⟨a + 2, k, es ++ [⟨1, []⟩], _, by go_num, by omega, by omega, by rw [List.length_append]; simp; omega, hI3.out, prs_next hC.out hF.out⟩
              case measure => simp [intOf]; omega
            · have ql : ((x1 : Int) == 42) = false := by simpa using (by omega : ¬ (x1 : Int) = 42)
              replace hF := hF.out
              rw [if_neg h2] at hF
              replace hF := Lib.hid hF
              clear h2 hlt2
              have hit : SeqP w4 (fun g => wr.heap.size ≤ g ∧ g < w4.heap.size) 2 none (REl.mk 2 []).items.length (icells (REl.mk 2 []).items) := SeqP.empty none
              repeat' ((fail_if_success at_builtin); (first | go_skip | go_guarded | go_step))
              refine wp_app1 (hI.own.below hqa) Tryd.underlying100 rel_info hby ?_ (hgs := by omega)
              intro v3 w3 hown3 hgr
              have hI3 := hI.app (E := ⟨2, []⟩) (A := none) (c := 0) hqa hit hown3 hgr
              obtain ⟨A3, c3, rfl⟩ := hown3.slice_form
              replace hI3 := Lib.hid hI3
              clear hown3 hgr hit
              repeat' ((fail_if_success at_builtin); (first | go_skip | go_guarded | go_step))
              go_roundw
              case rel => exact ⟨a + 1, k, es ++ [⟨2, []⟩], _, by go_num, by omega, by omega, by rw [List.length_append]; simp; omega, hI3.out, prs_next hC.out hF.out⟩
              case measure => simp [intOf]; omega
          · rw [if_neg h42] at hF
            have q42 : ((s[a].toNat : Int) == 42) = false := by simpa using (by omega : ¬ (s[a].toNat : Int) = 42)
            clear h42
            by_cases h63 : s[a].toNat = 63
            · rw [if_pos h63] at hF
              have q63 : ((s[a].toNat : Int) == 63) = true := by simpa using (by omega : (s[a].toNat : Int) = 63)
              replace hF := Lib.hid hF
              clear h63
              repeat' ((fail_if_success at_builtin); (first | go_skip | go_guarded | go_step))
              generalize hwq : World.setCell (World.setCell w2 _ _) _ _ = wa
              obtain ⟨q0a, q1a, fqa, hqa, hqza, fara⟩ := st2 y0 y1 fz hq (by omega) hwq
              clear hwq
              have hit : SeqP wa (fun g => wr.heap.size ≤ g ∧ g < wa.heap.size) 2 none (REl.mk 3 []).items.length (icells (REl.mk 3 []).items) := SeqP.empty none
              refine wp_app1 (hI.own.below hqa) Tryd.underlying100 rel_info hby ?_ (hgs := by omega)
              intro v3 w3 hown3 hgr
              have hI3 := hI.app (E := ⟨3, []⟩) (A := none) (c := 0) hqa hit hown3 hgr
              obtain ⟨A3, c3, rfl⟩ := hown3.slice_form
              replace hI3 := Lib.hid hI3
              clear hown3 hgr hit
              repeat' ((fail_if_success at_builtin); (first | go_skip | go_guarded | go_step))
              go_roundw
              case rel => exact ⟨a + 1, k, es ++ [⟨3, []⟩], _, by go_num, by omega, by omega, by rw [List.length_append]; simp; omega, hI3.out, prs_next hC.out hF.out⟩
              case measure => simp [intOf]; omega
            · rw [if_neg h63] at hF
              have q63 : ((s[a].toNat : Int) == 63) = false := by simpa using (by omega : ¬ (s[a].toNat : Int) = 63)
              clear h63
              by_cases h91 : s[a].toNat = 91
              · rw [if_pos h91] at hF
                have q91 : ((s[a].toNat : Int) == 91) = true := by simpa using (by omega : (s[a].toNat : Int) = 91)
                replace hF := Lib.hid hF
                clear h91
                have hcz : (s.data.toList.drop a).length = s.size - a := by rw [List.length_drop, hsz.out]
                repeat' ((fail_if_success at_builtin); (first | go_skip | go_guarded | go_step))
                refine (C2.out _).mono ?_
                rintro e w4 ⟨it, A, c, n, ok, rfl, hn, hs4, hb4, hsq⟩
                dsimp only
                have y04 := (hb4.cell (p := ⟨wr.heap.size + 1, 0, none⟩) hz3).trans y0
                have y14 := (hb4.cell (p := ⟨wr.heap.size + 1, 1, none⟩) hz3).trans y1
                have fz4 : ∀ o, w4.frozen? ⟨wr.heap.size + 1, o, none⟩ = false := fun o => (hb4.frozen (p := ⟨wr.heap.size + 1, o, none⟩) hz3).trans (fz o)
                have hq4 := hq.trans (hb4.mono (by omega))
                have hz4 := hb4.size
                have hz5 : wr.heap.size + 1 < w4.heap.size := by omega
                clear y0 y1 z0 z1 fz C1 C2
                generalize hcl : clsRF (s.data.toList.drop a) ((s.data.toList.drop a).length + 1) 1 [] = q at *
                cases q with
                | none =>
                  obtain rfl := hn rfl
                  clear hn hs4 hcl
                  repeat' ((fail_if_success at_builtin); (first | go_skip | go_guarded | go_step))
                  generalize hwq : World.setCell (World.setCell w4 _ _) _ _ = wb
                  obtain ⟨q0b, q1b, fqb, hqb, hqzb, farb⟩ := st2 y04 y14 fz4 hq4 (by omega) hwq
                  clear hwq
                  go_ret2
                  show RetRE w R _ _
                  rw [prs_stop hC.out hF.out]
                  exact ⟨rfl, hI.own.2.trans (Below.mono hqb hI.own.2.size)⟩
                | some q =>
                  obtain ⟨it', m⟩ := q
                  obtain ⟨rfl, rfl, rfl⟩ := hs4 it' m rfl
                  have hr := clsRF_range _ _ _ _ _ _ hcl
                  rw [hcz] at hr
                  clear hn hs4 hcl
                  repeat' ((fail_if_success at_builtin); (first | go_skip | go_guarded | go_step))
                  generalize hwq : World.setCell (World.setCell w4 _ _) _ _ = wb
                  obtain ⟨q0b, q1b, fqb, hqb, hqzb, farb⟩ := st2 y04 y14 fz4 hq4 (by omega) hwq
                  clear hwq
                  have hit : SeqP wb (fun g => wr.heap.size ≤ g ∧ g < wb.heap.size) 2 A (REl.mk 4 it).items.length (icells (REl.mk 4 it).items) := SeqP.map hsq (fun p hp => farb p (by omega)) (fun b hb => ⟨by omega, by omega⟩)
                  refine wp_app1 (hI.own.below hqb) Tryd.underlying100 rel_info hby ?_ (hgs := by omega)
                  intro v3 w3 hown3 hgr
                  have hI3 := hI.app (E := ⟨4, it⟩) (A := A) (c := c) hqb hit hown3 hgr
                  obtain ⟨A3, c3, rfl⟩ := hown3.slice_form
                  replace hI3 := Lib.hid hI3
                  clear hown3 hgr hit
                  repeat' ((fail_if_success at_builtin); (first | go_skip | go_guarded | go_step))
                  go_roundw
                  case rel => exact ⟨a + m, k, es ++ [⟨4, it⟩], _, by go_num, by omega, by omega, by rw [List.length_append]; simp; omega, hI3.out, prs_next hC.out hF.out⟩
                  case measure => simp [intOf]; omega
              · rw [if_neg h91] at hF
                have q91 : ((s[a].toNat : Int) == 91) = false := by simpa using (by omega : ¬ (s[a].toNat : Int) = 91)
                clear h91
                by_cases h92 : s[a].toNat = 92
                · rw [if_pos h92] at hF
                  have q92 : ((s[a].toNat : Int) == 92) = true := by simpa using (by omega : (s[a].toNat : Int) = 92)
                  replace hF := Lib.hid hF
                  clear h92
                  repeat' ((fail_if_success at_builtin); (first | go_skip | go_guarded | go_step))
                  refine (C1.out _).mono ?_
                  rintro e w4 ⟨rfl, rfl⟩
                  dsimp only
                  repeat' ((fail_if_success at_builtin); (first | go_skip | go_guarded | go_step))
                  refine (C1.out _).mono ?_
                  rintro e w5 ⟨rfl, rfl⟩
                  dsimp only
                  generalize lastN s.data.toList (a + 1) = x1 at *
                  have hfar : ∀ v o, Below wr.heap.size wr ((w5.setCell ⟨wr.heap.size + 1, 1, none⟩ v).alloc o) := fun v o => (hq.setCell (p := ⟨wr.heap.size + 1, 1, none⟩) (by show wr.heap.size ≤ wr.heap.size + 1; omega) v).alloc (by simp [World.setCell]; omega) o
                  by_cases hl : a + 1 < s.size
                  · replace hF := hF.out
                    rw [if_pos hl] at hF
                    replace hF := Lib.hid hF
                    have hl' : (a : Int) + 1 < (s.size : Int) := by omega
                    repeat' ((fail_if_success at_builtin); (first | go_skip | go_guarded | go_step))
                    generalize hwq : World.alloc (World.setCell w5 _ _) _ = wb
                    have hqb : Below wr.heap.size wr wb := by rw [← hwq]; exact hfar _ _
                    have hzb : wb.heap.size = w5.heap.size + 1 := by rw [← hwq]; simp [World.setCell]
                    have hit : SeqP wb (fun g => wr.heap.size ≤ g ∧ g < wb.heap.size) 2 (some ⟨wr.heap.size + 2, 0, none⟩) (REl.mk 5 [(x1, x1)]).items.length (icells (REl.mk 5 [(x1, x1)]).items) := by
                      have hz6 : (w5.setCell ⟨wr.heap.size + 1, 1, none⟩ (.slice (some ⟨wr.heap.size + 2, 0, none⟩) 1 1)).heap.size = wr.heap.size + 2 := by simp [World.setCell, hz2]
                      refine seqp_pair ?_ ?_ ⟨by omega, by omega⟩
                      · rw [← hwq, ← hz6]; simp [go_sem]
                      · rw [← hwq, ← hz6]; simp [go_sem]
                    clear hwq
                    refine wp_app1 (hI.own.below hqb) Tryd.underlying100 rel_info hby ?_ (hgs := by omega)
                    intro v3 w3 hown3 hgr
                    have hI3 := hI.app (E := ⟨5, [(x1, x1)]⟩) (A := some ⟨wr.heap.size + 2, 0, none⟩) (c := 1) hqb hit hown3 hgr
                    obtain ⟨A3, c3, rfl⟩ := hown3.slice_form
                    replace hI3 := Lib.hid hI3
                    clear hown3 hgr hit
                    repeat' ((fail_if_success at_builtin); (first | go_skip | go_guarded | go_step))
                    go_roundw
                    case rel => exact ⟨a + 2, k, es ++ [⟨5, [(x1, x1)]⟩], _, by go_num, by omega, by omega, by rw [List.length_append]; simp; omega, hI3.out, prs_next hC.out hF.out⟩
                    case measure => simp [intOf]; omega
                  · replace hF := hF.out
                    rw [if_neg hl] at hF
                    replace hF := Lib.hid hF
                    have hl' : ¬ (a : Int) + 1 < (s.size : Int) := by omega
                    repeat' ((fail_if_success at_builtin); (first | go_skip | go_guarded | go_step))
                    go_ret2
                    show RetRE w R _ _
                    rw [prs_stop hC.out hF.out]
                    exact ⟨rfl, hI.own.2.trans (Below.mono (hfar _ _) hI.own.2.size)⟩
                · rw [if_neg h92] at hF
                  have q92 : ((s[a].toNat : Int) == 92) = false := by simpa using (by omega : ¬ (s[a].toNat : Int) = 92)
                  clear h92
                  replace hF := Lib.hid hF
                  have hit : SeqP w2 (fun g => wr.heap.size ≤ g ∧ g < w2.heap.size) 2 (some ⟨wr.heap.size, 0, none⟩) (REl.mk 5 [(s[a].toNat, s[a].toNat)]).items.length (icells (REl.mk 5 [(s[a].toNat, s[a].toNat)]).items) := seqp_pair z0 z1 ⟨by omega, by omega⟩
                  repeat' ((fail_if_success at_builtin); (first | go_skip | go_guarded | go_step))
                  refine wp_app1 (hI.own.below hq) Tryd.underlying100 rel_info hby ?_ (hgs := by omega)
                  intro v3 w3 hown3 hgr
                  have hI3 := hI.app (E := ⟨5, [(s[a].toNat, s[a].toNat)]⟩) (A := some ⟨wr.heap.size, 0, none⟩) (c := 1) hq hit hown3 hgr
                  obtain ⟨A3, c3, rfl⟩ := hown3.slice_form
                  replace hI3 := Lib.hid hI3
                  clear hown3 hgr hit
                  repeat' ((fail_if_success at_builtin); (first | go_skip | go_guarded | go_step))
                  go_roundw
                  case rel => exact ⟨a + 1, k, es ++ [⟨5, [(s[a].toNat, s[a].toNat)]⟩], _, by go_num, by omega, by omega, by rw [List.length_append]; simp; omega, hI3.out, prs_next hC.out hF.out⟩
                  case measure => simp [intOf]; omega
        · generalize hw2 : (World.alloc (World.alloc wr _) _).drew = w2
          have hq : Below wr.heap.size wr w2 := by rw [← hw2]; exact (((Below.refl _ _).alloc (Nat.le_refl _) _).alloc (by simp) _).drew
          have y0 : w2.cell? ⟨wr.heap.size, 0, none⟩ = some (.int .i64 5) := by rw [← hw2]; simp [go_sem]
          have y1 : w2.cell? ⟨wr.heap.size, 1, none⟩ = some (.slice (some ⟨wr.heap.size + 1, 0, none⟩) 1 1) := by rw [← hw2]; simp [go_sem]
          have z0 : w2.cell? ⟨wr.heap.size + 1, 0, none⟩ = some (.int .u8 (s[a].toNat : Int)) := by rw [← hw2]; simp [go_sem]
          have z1 : w2.cell? ⟨wr.heap.size + 1, 1, none⟩ = some (.int .u8 (s[a].toNat : Int)) := by rw [← hw2]; simp [go_sem]
          have fz : ∀ o, w2.frozen? ⟨wr.heap.size, o, none⟩ = false := fun o => by rw [← hw2]; simp [go_sem]
          have hz2 : w2.heap.size = wr.heap.size + 2 := by rw [← hw2]; simp
          have hz3 : wr.heap.size < w2.heap.size := by omega
          clear hw2
          by_cases h42 : s[a].toNat = 42
          · rw [if_pos h42] at hF
            have q42 : ((s[a].toNat : Int) == 42) = true := by simpa using (by omega : (s[a].toNat : Int) = 42)
            replace hF := Lib.hid hF
            clear h42
            repeat' ((fail_if_success at_builtin); (first | go_skip | go_guarded | go_step))
            generalize hwq : World.setCell (World.setCell w2 _ _) _ _ = wa
            obtain ⟨q0a, q1a, fqa, hqa, hqza, fara⟩ := st2 y0 y1 fz hq (by omega) hwq
            clear hwq
            have hza : wr.heap.size < wa.heap.size := by omega
            clear y0 y1 z0 z1 fz hq
            refine (C1.out _).mono ?_
            rintro e w4 ⟨rfl, rfl⟩
            dsimp only
            have hlt2 : lastN s.data.toList (a + 1) = 42 → a + 2 ≤ s.size := fun h => by
              obtain ⟨z, h1, _⟩ := Option.map_eq_some_iff.1 (last_42.1 h)
              have := (List.getElem?_eq_some_iff.1 h1).1
              rw [hsz.out] at this
              omega
            generalize lastN s.data.toList (a + 1) = x1 at *
            by_cases h2 : x1 = 42
            · have hlt3 := hlt2 h2
              have ql : ((x1 : Int) == 42) = true := by simpa using (by omega : (x1 : Int) = 42)
              replace hF := hF.out
              rw [if_pos h2] at hF
              replace hF := Lib.hid hF
              clear h2 hlt2
              repeat' ((fail_if_success at_builtin); (first | go_skip | go_guarded | go_step))
              generalize hwq : World.setCell (World.setCell w4 _ _) _ _ = wb
              obtain ⟨q0b, q1b, fqb, hqb, hqzb, farb⟩ := st2 q0a q1a fqa hqa (by omega) hwq
              clear hwq
              have hit : SeqP wb (fun g => wr.heap.size ≤ g ∧ g < wb.heap.size) 2 none (REl.mk 1 []).items.length (icells (REl.mk 1 []).items) := SeqP.empty none
              refine wp_app1 (hI.own.below hqb) Tryd.underlying100 rel_info hby ?_ (hgs := by omega)
              intro v3 w3 hown3 hgr
              have hI3 := hI.app (E := ⟨1, []⟩) (A := none) (c := 0) hqb hit hown3 hgr
              obtain ⟨A3, c3, rfl⟩ := hown3.slice_form
              replace hI3 := Lib.hid hI3
              clear hown3 hgr hit
              repeat' ((fail_if_success at_builtin); (first | go_skip | go_guarded | go_step))
              go_roundw
              case rel => exact ⟨a + 2, k, es ++ [⟨1, []⟩], _, by go_num, by omega, by omega, by rw [List.length_append]; simp; omega, hI3.out, prs_next hC.out hF.out⟩
              case measure => simp [intOf]; omega
            · have ql : ((x1 : Int) == 42) = false := by simpa using (by omega : ¬ (x1 : Int) = 42)
              replace hF := hF.out
              rw [if_neg h2] at hF
              replace hF := Lib.hid hF
              clear h2 hlt2
              have hit : SeqP w4 (fun g => wr.heap.size ≤ g ∧ g < w4.heap.size) 2 none (REl.mk 2 []).items.length (icells (REl.mk 2 []).items) := SeqP.empty none
              repeat' ((fail_if_success at_builtin); (first | go_skip | go_guarded | go_step))
              refine wp_app1 (hI.own.below hqa) Tryd.underlying100 rel_info hby ?_ (hgs := by omega)
              intro v3 w3 hown3 hgr
              have hI3 := hI.app (E := ⟨2, []⟩) (A := none) (c := 0) hqa hit hown3 hgr
              obtain ⟨A3, c3, rfl⟩ := hown3.slice_form
              replace hI3 := Lib.hid hI3
              clear hown3 hgr hit
              repeat' ((fail_if_success at_builtin); (first | go_skip | go_guarded | go_step))
              go_roundw
              case rel => exact ⟨a + 1, k, es ++ [⟨2, []⟩], _, by go_num, by omega, by omega, by rw [List.length_append]; simp; omega, hI3.out, prs_next hC.out hF.out⟩
              case measure => simp [intOf]; omega
          · rw [if_neg h42] at hF
            have q42 : ((s[a].toNat : Int) == 42) = false := by simpa using (by omega : ¬ (s[a].toNat : Int) = 42)
            clear h42
            by_cases h63 : s[a].toNat = 63
            · rw [if_pos h63] at hF
              have q63 : ((s[a].toNat : Int) == 63) = true := by simpa using (by omega : (s[a].toNat : Int) = 63)
              replace hF := Lib.hid hF
              clear h63
              repeat' ((fail_if_success at_builtin); (first | go_skip | go_guarded | go_step))
              generalize hwq : World.setCell (World.setCell w2 _ _) _ _ = wa
              obtain ⟨q0a, q1a, fqa, hqa, hqza, fara⟩ := st2 y0 y1 fz hq (by omega) hwq
              clear hwq
              have hit : SeqP wa (fun g => wr.heap.size ≤ g ∧ g < wa.heap.size) 2 none (REl.mk 3 []).items.length (icells (REl.mk 3 []).items) := SeqP.empty none
              refine wp_app1 (hI.own.below hqa) Tryd.underlying100 rel_info hby ?_ (hgs := by omega)
              intro v3 w3 hown3 hgr
              have hI3 := hI.app (E := ⟨3, []⟩) (A := none) (c := 0) hqa hit hown3 hgr
              obtain ⟨A3, c3, rfl⟩ := hown3.slice_form
              replace hI3 := Lib.hid hI3
              clear hown3 hgr hit
              repeat' ((fail_if_success at_builtin); (first | go_skip | go_guarded | go_step))
              go_roundw
              case rel => exact ⟨a + 1, k, es ++ [⟨3, []⟩], _, by go_num, by omega, by omega, by rw [List.length_append]; simp; omega, hI3.out, prs_next hC.out hF.out⟩
              case measure => simp [intOf]; omega
            · rw [if_neg h63] at hF
              have q63 : ((s[a].toNat : Int) == 63) = false := by simpa using (by omega : ¬ (s[a].toNat : Int) = 63)
              clear h63
              by_cases h91 : s[a].toNat = 91
              · rw [if_pos h91] at hF
                have q91 : ((s[a].toNat : Int) == 91) = true := by simpa using (by omega : (s[a].toNat : Int) = 91)
                replace hF := Lib.hid hF
                clear h91
                have hcz : (s.data.toList.drop a).length = s.size - a := by rw [List.length_drop, hsz.out]
                repeat' ((fail_if_success at_builtin); (first | go_skip | go_guarded | go_step))
                refine (C2.out _).mono ?_
                rintro e w4 ⟨it, A, c, n, ok, rfl, hn, hs4, hb4, hsq⟩
                dsimp only
                have y04 := (hb4.cell (p := ⟨wr.heap.size, 0, none⟩) hz3).trans y0
                have y14 := (hb4.cell (p := ⟨wr.heap.size, 1, none⟩) hz3).trans y1
                have fz4 : ∀ o, w4.frozen? ⟨wr.heap.size, o, none⟩ = false := fun o => (hb4.frozen (p := ⟨wr.heap.size, o, none⟩) hz3).trans (fz o)
                have hq4 := hq.trans (hb4.mono (by omega))
                have hz4 := hb4.size
                have hz5 : wr.heap.size < w4.heap.size := by omega
                clear y0 y1 z0 z1 fz C1 C2
                generalize hcl : clsRF (s.data.toList.drop a) ((s.data.toList.drop a).length + 1) 1 [] = q at *
                cases q with
                | none =>
                  obtain rfl := hn rfl
                  clear hn hs4 hcl
                  repeat' ((fail_if_success at_builtin); (first | go_skip | go_guarded | go_step))
                  generalize hwq : World.setCell (World.setCell w4 _ _) _ _ = wb
                  obtain ⟨q0b, q1b, fqb, hqb, hqzb, farb⟩ := st2 y04 y14 fz4 hq4 (by omega) hwq
                  clear hwq
                  go_ret2
                  show RetRE w R _ _
                  rw [prs_stop hC.out hF.out]
                  exact ⟨rfl, hI.own.2.trans (Below.mono hqb hI.own.2.size)⟩
                | some q =>
                  obtain ⟨it', m⟩ := q
                  obtain ⟨rfl, rfl, rfl⟩ := hs4 it' m rfl
                  have hr := clsRF_range _ _ _ _ _ _ hcl
                  rw [hcz] at hr
                  clear hn hs4 hcl
                  repeat' ((fail_if_success at_builtin); (first | go_skip | go_guarded | go_step))
                  generalize hwq : World.setCell (World.setCell w4 _ _) _ _ = wb
                  obtain ⟨q0b, q1b, fqb, hqb, hqzb, farb⟩ := st2 y04 y14 fz4 hq4 (by omega) hwq
                  clear hwq
                  have hit : SeqP wb (fun g => wr.heap.size ≤ g ∧ g < wb.heap.size) 2 A (REl.mk 4 it).items.length (icells (REl.mk 4 it).items) := SeqP.map hsq (fun p hp => farb p (by omega)) (fun b hb => ⟨by omega, by omega⟩)
                  refine wp_app1 (hI.own.below hqb) Tryd.underlying100 rel_info hby ?_ (hgs := by omega)
                  intro v3 w3 hown3 hgr
                  have hI3 := hI.app (E := ⟨4, it⟩) (A := A) (c := c) hqb hit hown3 hgr
                  obtain ⟨A3, c3, rfl⟩ := hown3.slice_form
                  replace hI3 := Lib.hid hI3
                  clear hown3 hgr hit
                  repeat' ((fail_if_success at_builtin); (first | go_skip | go_guarded | go_step))
                  go_roundw
                  case rel => exact ⟨a + m, k, es ++ [⟨4, it⟩], _, by go_num, by omega, by omega, by rw [List.length_append]; simp; omega, hI3.out, prs_next hC.out hF.out⟩
                  case measure => simp [intOf]; omega
              · rw [if_neg h91] at hF
                have q91 : ((s[a].toNat : Int) == 91) = false := by simpa using (by omega : ¬ (s[a].toNat : Int) = 91)
                clear h91
                by_cases h92 : s[a].toNat = 92
                · rw [if_pos h92] at hF
                  have q92 : ((s[a].toNat : Int) == 92) = true := by simpa using (by omega : (s[a].toNat : Int) = 92)
                  replace hF := Lib.hid hF
                  clear h92
                  repeat' ((fail_if_success at_builtin); (first | go_skip | go_guarded | go_step))
                  refine (C1.out _).mono ?_
                  rintro e w4 ⟨rfl, rfl⟩
                  dsimp only
                  repeat' ((fail_if_success at_builtin); (first | go_skip | go_guarded | go_step))
                  refine (C1.out _).mono ?_
                  rintro e w5 ⟨rfl, rfl⟩
                  dsimp only
                  generalize lastN s.data.toList (a + 1) = x1 at *
                  have hfar : ∀ v o, Below wr.heap.size wr ((w5.setCell ⟨wr.heap.size, 1, none⟩ v).alloc o) := fun v o => (hq.setCell (p := ⟨wr.heap.size, 1, none⟩) (by show wr.heap.size ≤ wr.heap.size; omega) v).alloc (by simp [World.setCell]; omega) o
                  by_cases hl : a + 1 < s.size
                  · replace hF := hF.out
                    rw [if_pos hl] at hF
                    replace hF := Lib.hid hF
                    have hl' : (a : Int) + 1 < (s.size : Int) := by omega
                    repeat' ((fail_if_success at_builtin); (first | go_skip | go_guarded | go_step))
                    generalize hwq : World.alloc (World.setCell w5 _ _) _ = wb
                    have hqb : Below wr.heap.size wr wb := by rw [← hwq]; exact hfar _ _
                    have hzb : wb.heap.size = w5.heap.size + 1 := by rw [← hwq]; simp [World.setCell]
                    have hit : SeqP wb (fun g => wr.heap.size ≤ g ∧ g < wb.heap.size) 2 (some ⟨wr.heap.size + 2, 0, none⟩) (REl.mk 5 [(x1, x1)]).items.length (icells (REl.mk 5 [(x1, x1)]).items) := by
                      have hz6 : (w5.setCell ⟨wr.heap.size, 1, none⟩ (.slice (some ⟨wr.heap.size + 2, 0, none⟩) 1 1)).heap.size = wr.heap.size + 2 := by simp [World.setCell, hz2]
                      refine seqp_pair ?_ ?_ ⟨by omega, by omega⟩
                      · rw [← hwq, ← hz6]; simp [go_sem]
                      · rw [← hwq, ← hz6]; simp [go_sem]
                    clear hwq
                    refine wp_app1 (hI.own.below hqb) Tryd.underlying100 rel_info hby ?_ (hgs := by omega)
                    intro v3 w3 hown3 hgr
                    have hI3 := hI.app (E := ⟨5, [(x1, x1)]⟩) (A := some ⟨wr.heap.size + 2, 0, none⟩) (c := 1) hqb hit hown3 hgr
                    obtain ⟨A3, c3, rfl⟩ := hown3.slice_form
                    replace hI3 := Lib.hid hI3
                    clear hown3 hgr hit
                    repeat' ((fail_if_success at_builtin); (first | go_skip | go_guarded | go_step))
                    go_roundw
                    case rel => exact ⟨a + 2, k, es ++ [⟨5, [(x1, x1)]⟩], _, by go_num, by omega, by omega, by rw [List.length_append]; simp; omega, hI3.out, prs_next hC.out hF.out⟩
                    case measure => simp [intOf]; omega
                  · replace hF := hF.out
                    rw [if_neg hl] at hF
                    replace hF := Lib.hid hF
                    have hl' : ¬ (a : Int) + 1 < (s.size : Int) := by omega
                    repeat' ((fail_if_success at_builtin); (first | go_skip | go_guarded | go_step))
                    go_ret2
                    show RetRE w R _ _
                    rw [prs_stop hC.out hF.out]
                    exact ⟨rfl, hI.own.2.trans (Below.mono (hfar _ _) hI.own.2.size)⟩
                · rw [if_neg h92] at hF
                  have q92 : ((s[a].toNat : Int) == 92) = false := by simpa using (by omega : ¬ (s[a].toNat : Int) = 92)
                  clear h92
                  replace hF := Lib.hid hF
                  have hit : SeqP w2 (fun g => wr.heap.size ≤ g ∧ g < w2.heap.size) 2 (some ⟨wr.heap.size + 1, 0, none⟩) (REl.mk 5 [(s[a].toNat, s[a].toNat)]).items.length (icells (REl.mk 5 [(s[a].toNat, s[a].toNat)]).items) := seqp_pair z0 z1 ⟨by omega, by omega⟩
                  repeat' ((fail_if_success at_builtin); (first | go_skip | go_guarded | go_step))
                  refine wp_app1 (hI.own.below hq) Tryd.underlying100 rel_info hby ?_ (hgs := by omega)
                  intro v3 w3 hown3 hgr
                  have hI3 := hI.app (E := ⟨5, [(s[a].toNat, s[a].toNat)]⟩) (A := some ⟨wr.heap.size + 1, 0, none⟩) (c := 1) hq hit hown3 hgr
                  obtain ⟨A3, c3, rfl⟩ := hown3.slice_form
                  replace hI3 := Lib.hid hI3
                  clear hown3 hgr hit
                  repeat' ((fail_if_success at_builtin); (first | go_skip | go_guarded | go_step))
                  go_roundw
                  case rel => exact ⟨a + 1, k, es ++ [⟨5, [(s[a].toNat, s[a].toNat)]⟩], _, by go_num, by omega, by omega, by rw [List.length_append]; simp; omega, hI3.out, prs_next hC.out hF.out⟩
                  case measure => simp [intOf]; omega
      · have hae : a = s.size := by omega
        have i1 : ¬ (a : Int) < (s.size : Int) := by omega
        rw [List.drop_eq_nil_of_le (by rw [hsz.out]; omega)] at hC
        have hC2 : R = some es := by rw [hC]; cases k <;> simp [prsRF]
        clear hC
        obtain ⟨A, c, rfl⟩ := hI.own.slice_form
        replace hC2 := Lib.hid hC2
        clear hR
        repeat' ((fail_if_success at_builtin); (first | go_skip | go_guarded | go_step))
        go_ret2
        show RetRE w R _ _
        rw [hC2.out]
        exact ⟨A, c, cs, rfl, hI.own.seq, RList.map (rE.map (fun _ _ => rfl) fun b hb => hb.1) hI.rl, hI.own.2⟩
end Go.Proofs.YtgloblokkejgmaaDoor
