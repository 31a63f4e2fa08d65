/- The document's matches and Match: the walks. -/
import Derived.Test.YtgloblokkejgmaaDoorGrE
namespace Go.Proofs.YtgloblokkejgmaaDoor
open Go.RowKit
theorem prsRF_items : ∀ (k : Nat) (l : List UInt8) (es : List REl), prsRF k l = some es → ∀ e ∈ es, e.items.length ≤ l.length + 1
  | _, [], es, h => by
    have : es = [] := by cases ‹Nat› <;> simp [prsRF] at h <;> exact h
    subst this; intro e he; cases he
  | 0, _ :: _, es, h => by simp [prsRF] at h
  | k + 1, c :: l, es, h => by
    rw [prsRF_step (by simp)] at h
    cases hq : fstR (c :: l) with
    | none => rw [hq] at h; cases h
    | some q =>
      obtain ⟨E, n⟩ := q
      rw [hq] at h
      dsimp only at h
      obtain ⟨es', h1, rfl⟩ := Option.map_eq_some_iff.1 h
      intro e he
      rcases List.mem_cons.1 he with rfl | he
      · unfold fstR at hq
        rw [List.getElem?_cons_zero] at hq
        dsimp only at hq
        split at hq
        · split at hq
          · cases hq; simp
          · cases hq; simp
        · split at hq
          · cases hq; simp
          · split at hq
            · split at hq
              · cases hq
              · rename_i it m hcl
                cases hq
                have := clsRF_range _ _ _ _ _ _ hcl
                simp at this
                simp
                omega
            · split at hq
              · split at hq
                · cases hq
                · cases hq; simp
              · cases hq; simp
      · have := prsRF_items k _ _ h1 e he
        rw [List.length_drop] at this
        omega
theorem el_at {w wx : World} {A : Option Addr} {n k : Nat} {rs : List REl} {cs : List Value} {r : REl} (hs : Seq w w.heap.size 2 A n cs) (hr : RList rE 2 w (fun b => b < w.heap.size) rs cs) (hn : n = rs.length) (hx : rs[k]? = some r) (hb : Below w.heap.size w wx) :
    ∃ (b o : Nat) (A' : Option Addr) (c' : Nat), A = some ⟨b, o, none⟩ ∧ b < w.heap.size ∧ wx.cell? ⟨b, o + k * 2, none⟩ = some (.int .i64 (r.kind : Int)) ∧ wx.cell? ⟨b, o + k * 2 + 1, none⟩ = some (.slice A' r.items.length c') ∧ Seq wx wx.heap.size 2 A' r.items.length (icells r.items) := by
  have hk := (List.getElem?_eq_some_iff.1 hx).1
  obtain ⟨b, o, rfl, hbB, hc⟩ := hs.2 (by omega)
  obtain ⟨c1, hl, ⟨A', c', rfl, hq⟩, hj⟩ := hr.at_ hx
  have g := fun j u (hu : ([.int .i64 (r.kind : Int), .slice A' r.items.length c'] : List Value)[j]? = some u) => (hb.cell (p := ⟨b, o + (k * 2 + j), none⟩) hbB).trans (hc _ _ (hj j u hu))
  exact ⟨b, o, A', c', rfl, hbB, g 0 _ rfl, by have := g 1 _ rfl; rwa [← Nat.add_assoc] at this, SeqP.map hq (fun p hp => hb.cell hp) (fun b hb' => Nat.lt_of_lt_of_le hb' hb.size)⟩
theorem skip_next {w : World} {g n k : Nat} {m f : Nat → Bool} (h : BRow w g n (fun j => if j ≤ k then skN m f j else f j)) (hv : (skN m f k && m k) = false) : BRow w g n (fun j => if j ≤ k + 1 then skN m f j else f j) := by
  refine h.congr fun j hj => ?_
  by_cases h1 : j ≤ k
  · rw [if_pos h1, if_pos (by omega)]
  · rw [if_neg h1]
    by_cases h2 : j = k + 1
    · subst h2
      rw [if_pos (Nat.le_refl _), skN, hv, Bool.or_false]
    · rw [if_neg (by omega)]
theorem skip_set {w : World} {g n k : Nat} {m f : Nat → Bool} (h : BRow w g n (fun j => if j ≤ k then skN m f j else f j)) (hk : k + 1 ≤ n) (hv : (skN m f k && m k) = true) : BRow (w.setCell ⟨g, k + 1, none⟩ (.bool true)) g n (fun j => if j ≤ k + 1 then skN m f j else f j) := by
  refine (h.set' (k + 1) hk true).congr fun j hj => ?_
  by_cases h1 : j = k + 1
  · subst h1
    rw [if_pos rfl, if_pos (Nat.le_refl _), skN, hv, Bool.or_true]
  · rw [if_neg h1]
    by_cases h2 : j ≤ k
    · rw [if_pos h2, if_pos (by omega)]
    · rw [if_neg h2, if_neg (by omega)]
set_option maxRecDepth 100000 in
set_option maxHeartbeats 4000000 in
theorem matches_any (es : List El) (rs : List REl) (cs : List Value) (A : Option Addr) (c n : Nat) (s : ByteArray) (w : World) (hE : LEq es rs) (hn : n = rs.length) (hl : n ≤ 1000000) (hi : ∀ r ∈ rs, r.items.length ≤ 1000000) (hz : s.size ≤ 1000000)
    (hs : Seq w w.heap.size 2 A n cs) (hr : RList rE 2 w (fun b => b < w.heap.size) rs cs) :
    Calls Tryd.prog 85 #[.slice A n c, .string s] w fun e w' => e = .returned (.bool (matchE es s.data.toList)) ∧ Below w.heap.size w w' := by
  have hne : n = es.length := by rw [hE.len]; exact hn
  have hsz : s.data.toList.length = s.size := by simp
  have hel : ∀ k wx, k < n → Below w.heap.size w wx → ∃ (r : REl) (b o : Nat) (A' : Option Addr) (c' : Nat), A = some ⟨b, o, none⟩ ∧ b < w.heap.size ∧ wx.cell? ⟨b, o + k * 2, none⟩ = some (.int .i64 (r.kind : Int)) ∧ wx.cell? ⟨b, o + k * 2 + 1, none⟩ = some (.slice A' r.items.length c') ∧ Seq wx wx.heap.size 2 A' r.items.length (icells r.items) ∧ r.items.length ≤ 1000000 ∧ manyAt es k = manyR r ∧ ∀ ch, ch < 256 → hasAt es ch k = fitR r ch := by
    intro k wx hk hb
    have hx : rs[k]? = some (rs[k]'(by omega)) := List.getElem?_eq_getElem (by omega)
    obtain ⟨b, o, A', c', h1, h2, h3, h4, h5⟩ := el_at hs hr hn hx hb
    exact ⟨_, b, o, A', c', h1, h2, h3, h4, h5, hi _ (List.getElem_mem _), hE.many hx, fun ch hch => hE.has hx hch⟩
  replace hel := Lib.hid hel
  clear hs hr hi hE hn
  replace hne := Lib.hid hne
  replace hsz := Lib.hid hsz
  have hmk : ∀ w : World, (Instr.makeSlice 105 (.int .i64 ((n : Int) + 1)) (.int .i64 ((n : Int) + 1))).run Tryd.prog w = .ok (.slice (some ⟨w.heap.size, 0, none⟩) (n + 1) (n + 1)) (w.alloc (.cells (madeCells #[.bool false] (n + 1)) 4)) := by
    intro w
    have := run_make_row' (P := Tryd.prog) 105 4 (.bool false) 1 Tryd.underlying105 bool_info rfl .i64 .i64 (n + 1) (by omega) (by omega) w
    simpa using this
  replace hmk := Lib.hid hmk
  have hmr : ∀ w : World, BRow (w.alloc (.cells (madeCells #[.bool false] (n + 1)) 4)) w.heap.size n (fun _ => false) := fun w => ⟨fun j hj => by rw [World.cell?_alloc_new]; exact made_bools _ _ (by omega), fun j => by simp [go_sem]⟩
  replace hmr := Lib.hid hmr
  have i0 : (0 : Int) < (n : Int) + 1 := by omega
  go_enter Tryd.func85, Tryd.ntmps85
  repeat' ((fail_if_success at_builtin); (first | go_skip | go_guarded | go_step))
  rw [hmk.out]
  simp only [Result.andThen, Oper.upon]
  have hb2 := (Below.refl w.heap.size w).alloc (Nat.le_refl _) (.cells (madeCells #[.bool false] (n + 1)) 4)
  have hz2 : (w.alloc (.cells (madeCells #[.bool false] (n + 1)) 4)).heap.size = w.heap.size + 1 := by simp
  have hr2 := hmr.out w
  generalize World.alloc w _ = w2 at *
  have c30 := hr2.1 0 (Nat.zero_le _)
  have f30 := hr2.2 0
  repeat' ((fail_if_success at_builtin); (first | go_skip | go_guarded | go_step))
  have hr3 := (hr2.set' 0 (Nat.zero_le _) true).congr (f' := fun j => decide (j = 0)) (fun j _ => by by_cases h : j = 0 <;> simp [h])
  have hb3 := hb2.setCell (p := ⟨w.heap.size, 0, none⟩) (Nat.le_refl _) (.bool true)
  have hz3 : (w2.setCell ⟨w.heap.size, 0, none⟩ (.bool true)).heap.size = w.heap.size + 1 := by simp [World.setCell, hz2]
  generalize World.setCell w2 _ _ = w3 at *
  clear hr2 hb2 hz2 c30 f30 i0
  go_loopw [5, 6] (fun u5 u6 wr => ∃ (i g : Nat) (f : Nat → Bool), u5 = .slice (some ⟨g, 0, none⟩) (n + 1) (n + 1) ∧ u6 = .int .i64 (i : Int) ∧ i ≤ s.size ∧ w.heap.size ≤ g ∧ g < wr.heap.size ∧ Below w.heap.size w wr ∧ BRow wr g n f ∧ (s.data.toList.take i).foldl (stepM es) (startM es) = skN (manyAt es) f) (fun _ u6 _ => s.size - (intOf u6).toNat)
  case atStart => exact ⟨0, w.heap.size, _, rfl, rfl, by omega, Nat.le_refl _, by omega, hb3, hr3, rfl⟩
  case round =>
    clear hr3 hb3 hz3
    obtain ⟨i, g, f, rfl, rfl, hi, g1, g2, hb, hrow, hfold⟩ := hrel
    have i1 : (i : Int) ≤ (s.size : Int) := by omega
    replace hfold := Lib.hid hfold
    repeat' ((fail_if_success at_builtin); (first | go_skip | go_guarded | go_step))
    obtain ⟨wo, hwo⟩ : ∃ wo : World, wo = wr := ⟨wr, rfl⟩
    subst hwo
    go_loopw [7] (fun u7 wx => ∃ k : Nat, k ≤ n ∧ u7 = .int .i64 (k : Int) ∧ wo.grownBy wx (some g) ∧ BRow wx g n (fun j => if j ≤ k then skN (manyAt es) f j else f j)) (fun u7 _ => n - (intOf u7).toNat)
    case atStart =>
      refine ⟨0, by omega, rfl, World.grownBy.refl _ _, hrow.congr fun j hj => ?_⟩
      split
      · obtain rfl : j = 0 := by omega
        rfl
      · rfl
    case round =>
      obtain ⟨k, hk, rfl, hgr, hr⟩ := hrel
      have hbx : Below w.heap.size w wr := hb.grown hgr hb.size (fun j hj => by injection hj with hj; omega)
      have hgs := hgr.size
      by_cases hlt : k < n
      · obtain ⟨r, b, o, A', c', rfl, hbB, e0, e1, _, _, hm, _⟩ := hel.out k wr hlt hbx
        have C := many_any r.kind r.items A' r.items.length c' wr
        have c0 := hr.1 k hk
        have c1 := hr.1 (k + 1) hlt
        have f1 := hr.2 (k + 1)
        dsimp only at c0 c1
        rw [if_pos (Nat.le_refl _)] at c0
        rw [if_neg (by omega)] at c1
        have j0 : (0 : Int) ≤ (k : Int) := by omega
        have j1 : (k : Int) < (n : Int) := by omega
        have j2 : IntKind.i64.wrap ((k : Int) + 1) = (k : Int) + 1 := IntWalk.i64_in _ (by omega)
        have j3 : (k : Int) < (n : Int) + 1 := by omega
        have j4 : (k : Int) + 1 < (n : Int) + 1 := by omega
        have j5 : (0 : Int) ≤ (k : Int) + 1 := by omega
        have hg3 : g < wr.heap.size := by omega
        have hnext := Lib.hid (fun (w1 : World) (h1 : Below wr.heap.size wr w1) (hv : (skN (manyAt es) f k && manyAt es k) = false) => skip_next (hr.kept h1 hg3) hv)
        have hset := Lib.hid (fun (w1 : World) (h1 : Below wr.heap.size wr w1) (hv : (skN (manyAt es) f k && manyAt es k) = true) => skip_set (hr.kept h1 hg3) hlt hv)
        replace hgr := Lib.hid hgr
        replace hr := Lib.hid hr
        replace hm := Lib.hid hm
        replace C := Lib.hid C
        generalize hv0 : skN (manyAt es) f k = v0 at *
        cases v0 with
        | false =>
          repeat' ((fail_if_success at_builtin); (first | go_skip | go_guarded | go_step))
          go_roundw
          case rel => exact ⟨k + 1, by omega, by go_num, hgr.out, hnext.out _ (Below.refl _ _) rfl⟩
          case measure => simp [intOf]; omega
        | true =>
          repeat' ((fail_if_success at_builtin); (first | go_skip | go_guarded | go_step))
          refine C.out.mono ?_
          rintro e w1 ⟨rfl, hb1⟩
          dsimp only
          have hc1 := (hb1.cell (p := ⟨g, k + 1, none⟩) hg3).trans c1
          have hf1 := (hb1.frozen (p := ⟨g, k + 1, none⟩) hg3).trans f1
          have hz1 : g < w1.heap.size := Nat.lt_of_lt_of_le hg3 hb1.size
          have hgq := Lib.hid (Lib.grownBy_below hgr.out hb1)
          replace hb1 := Lib.hid hb1
          have hmr2 : manyR ⟨r.kind, r.items⟩ = manyR r := rfl
          rw [hmr2]
          generalize hv2 : manyR r = v2 at *
          cases v2 with
          | false =>
            repeat' ((fail_if_success at_builtin); (first | go_skip | go_guarded | go_step))
            go_roundw
            case rel => exact ⟨k + 1, by omega, by go_num, hgq.out, hnext.out _ hb1.out (by rw [hm.out]; rfl)⟩
            case measure => simp [intOf]; omega
          | true =>
            repeat' ((fail_if_success at_builtin); (first | go_skip | go_guarded | go_step))
            go_roundw
            case rel => exact ⟨k + 1, by omega, by go_num, Lib.grownBy_setB hgq.out _ _, hset.out _ hb1.out (by rw [hm.out]; rfl)⟩
            case measure => simp [intOf]; omega
      · have hke : k = n := by omega
        subst hke
        have hrow2 : BRow wr g k (skN (manyAt es) f) := hr.congr fun j hj => by rw [if_pos hj]
        have j1 : ¬ ((k : Int) < (k : Int)) := by omega
        clear hrow hr hlt
        generalize hf2 : skN (manyAt es) f = f2 at *
        by_cases hie : i = s.size
        · have hM : matchE es s.data.toList = f2 k := by
            unfold matchE
            rw [← hne.out, ← hfold.out, List.take_of_length_le (by rw [hsz.out]; omega)]
          have q1 : ((i : Int) == (s.size : Int)) = true := by simpa using (by omega : (i : Int) = (s.size : Int))
          have c0 := hrow2.1 k (Nat.le_refl _)
          have k0 : (0 : Int) ≤ (k : Int) := by omega
          have k1 : (k : Int) < (k : Int) + 1 := by omega
          replace hM := Lib.hid hM
          clear hie
          repeat' ((fail_if_success at_builtin); (first | go_skip | go_guarded | go_step))
          go_ret
          exact ⟨ret_b hM.out.symm, hbx⟩
        · have q1 : ((i : Int) == (s.size : Int)) = false := by simpa using (by omega : ¬ (i : Int) = (s.size : Int))
          have hlt : i < s.size := by omega
          have i2 : (0 : Int) ≤ (i : Int) := by omega
          have i3 : (i : Int) < (s.size : Int) := by omega
          have i4 : IntKind.i64.wrap ((i : Int) + 1) = (i : Int) + 1 := IntWalk.i64_in _ (by omega)
          have hx := str_at hlt
          have hx256 := s[i].toNat_lt
          have hfo : (s.data.toList.take (i + 1)).foldl (stepM es) (startM es) = skN (manyAt es) (nxK es s[i].toNat f2 k) := by
            rw [List.take_add_one, hx, List.foldl_append, hfold.out, hne.out]; rfl
          replace hfo := Lib.hid hfo
          clear hx hie
          repeat' ((fail_if_success at_builtin); (first | go_skip | go_guarded | go_step))
          rw [hmk.out]
          simp only [Result.andThen, Oper.upon]
          have hbn := (Below.refl wr.heap.size wr).alloc (Nat.le_refl _) (.cells (madeCells #[.bool false] (k + 1)) 4)
          have hzn : (wr.alloc (.cells (madeCells #[.bool false] (k + 1)) 4)).heap.size = wr.heap.size + 1 := by simp
          have hrn := (hmr.out wr).congr (f' := nxK es s[i].toNat f2 0) (fun j _ => (nxK_zero _ _ _ j).symm)
          generalize World.alloc wr _ = wn at *
          have hb0 : Below w.heap.size w wn := hbx.trans (hbn.mono hbx.size)
          have hgn := hrow2.kept hbn (by omega)
          have hg5 : g < wr.heap.size := by omega
          have hwz : w.heap.size ≤ wr.heap.size := hbx.size
          clear hrow2 hbn hbx hgr hb
          generalize hgo : wr.heap.size = go at *
          clear hgo wr
          repeat' ((fail_if_success at_builtin); (first | go_skip | go_guarded | go_step))
          go_loopw [9] (fun u9 wx => ∃ j : Nat, j ≤ k ∧ u9 = .int .i64 (j : Int) ∧ wn.grownBy wx (some go) ∧ BRow wx go k (nxK es s[i].toNat f2 j)) (fun u9 _ => k - (intOf u9).toNat)
          case atStart => exact ⟨0, by omega, rfl, World.grownBy.refl _ _, hrn⟩
          case round =>
            clear hrn
            obtain ⟨j, hj, rfl, hgr, hrow⟩ := hrel
            have hgs2 := hgr.size
            by_cases hjk : j < k
            · have hbx : Below w.heap.size w wr := hb0.grown hgr hb0.size (fun q hq => by injection hq with hq; omega)
              obtain ⟨r, b, o, A', c', rfl, hbB, e0, e1, hsq, hrl, hm, hf⟩ := hel.out j wr hjk hbx
              have hg0 : (fun q => f2 q) j = f2 j := rfl
              have d0 := (grow_cell hgr (p := ⟨g, j, none⟩) (by show g < _; omega) (by show g ≠ _; omega)).trans (hgn.1 j (by omega))
              have j0 : (0 : Int) ≤ (j : Int) := by omega
              have j1 : (j : Int) < (k : Int) := by omega
              have j2 : IntKind.i64.wrap ((j : Int) + 1) = (j : Int) + 1 := IntWalk.i64_in _ (by omega)
              have j3 : (j : Int) < (k : Int) + 1 := by omega
              have j4 : (j : Int) + 1 < (k : Int) + 1 := by omega
              have j5 : (0 : Int) ≤ (j : Int) + 1 := by omega
              have hhit : hitN es s[i].toNat f2 j = (f2 j && fitR r s[i].toNat) := by unfold hitN; rw [hf _ hx256]
              have hgx : go < wr.heap.size := by omega
              repeat' ((fail_if_success at_builtin); (first | go_skip | go_guarded | go_step))
              replace hgr := Lib.hid hgr
              replace hrow := Lib.hid hrow
              replace hhit := Lib.hid hhit
              replace hm := Lib.hid hm
              clear hf hg0
              generalize hfk : f2 j = fk at *
              cases fk with
              | false =>
                go_quiet (fail)
                repeat' ((fail_if_success at_builtin); (first | go_skip | go_guarded | go_step))
                go_roundw
                case rel =>
                  have hbd : Below wr.heap.size wr (wr.drewN nq) := ⟨rfl, rfl, rfl, Nat.le_refl _, fun _ _ => rfl⟩
                  exact ⟨j + 1, by omega, by go_num, Lib.grownBy_below hgr.out hbd, (hrow.out.kept hbd hgx).congr fun q _ => (nxK_miss (by rw [hhit.out]; rfl) q).symm⟩
                case measure => simp [intOf]; omega
              | true =>
                have C : ∀ w', (Below wr.heap.size wr w' ∧ w'.cell? ⟨g, j, none⟩ = some (.bool true) ∧ w'.cell? ⟨b, o + j * 2, none⟩ = some (.int .i64 (r.kind : Int)) ∧ w'.cell? ⟨b, o + j * 2 + 1, none⟩ = some (.slice A' r.items.length c')) → Calls Tryd.prog 96 #[.agg #[.int .i64 (r.kind : Int), .slice A' r.items.length c'], .int .u8 (s[i].toNat : Int)] w' fun e w7 => e = .returned (.bool (fitR r s[i].toNat)) ∧ Below w'.heap.size w' w7 :=
                  fun w' hw => fits_any r.kind r.items s[i].toNat A' c' w' ((hsq.below hw.1).more hw.1.size) hrl
                have kb : b < wr.heap.size := by omega
                have kg : g < wr.heap.size := by omega
                replace C := Lib.hid C
                replace hsq := Lib.hid hsq
                generalize hv : fitR r s[i].toNat = v at *
                go_region_held3 (fun w' => Below wr.heap.size wr w' ∧ w'.cell? ⟨g, j, none⟩ = some (.bool true) ∧ w'.cell? ⟨b, o + j * 2, none⟩ = some (.int .i64 (r.kind : Int)) ∧ w'.cell? ⟨b, o + j * 2 + 1, none⟩ = some (.slice A' r.items.length c'))
                  (first | exact ⟨(Below.refl _ _).drew, d0, e0, e1⟩ | exact ⟨(Below.refl _ _).drew.trans (hbq.mono (Nat.le_refl _)), (hbq.cell (p := ⟨g, j, none⟩) kg).trans d0, (hbq.cell (p := ⟨b, o + j * 2, none⟩) kb).trans e0, (hbq.cell (p := ⟨b, o + j * 2 + 1, none⟩) kb).trans e1⟩)
                  (first | (go_at_call 96; refine (C.out _ (by assumption)).mono ?_; rintro e w7 ⟨rfl, hbq⟩; dsimp only))
                rename_i hh
                obtain ⟨hb7, _, e07, e17⟩ := hh
                have hg7 := Lib.hid (Lib.grownBy_below hgr.out hb7)
                have hr7 := Lib.hid (hrow.out.kept hb7 hgx)
                have hz7 := hb7.size
                clear hgr hrow hb7 C hsq
                cases v with
                | false =>
                  repeat' ((fail_if_success at_builtin); (first | go_skip | go_guarded | go_step))
                  go_roundw
                  case rel => exact ⟨j + 1, by omega, by go_num, hg7.out, hr7.out.congr fun q _ => (nxK_miss (by rw [hhit.out]; rfl) q).symm⟩
                  case measure => simp [intOf]; omega
                | true =>
                  have C2 := many_any r.kind r.items A' r.items.length c'
                  replace C2 := Lib.hid C2
                  repeat' ((fail_if_success at_builtin); (first | go_skip | go_guarded | go_step))
                  refine (C2.out _).mono ?_
                  rintro e w8 ⟨rfl, hb8⟩
                  dsimp only
                  have hz8 := hb8.size
                  have hg8 := Lib.hid (Lib.grownBy_below hg7.out hb8)
                  have hr8 := hr7.out.kept hb8 (by omega)
                  have ff := hr8.2
                  have fc := hr8.1
                  have hgw : go < w8.heap.size := by omega
                  replace hr8 := Lib.hid hr8
                  clear hg7 hr7 hb8 C2
                  have hmr2 : manyR ⟨r.kind, r.items⟩ = manyR r := rfl
                  rw [hmr2]
                  generalize hv2 : manyR r = v2 at *
                  cases v2 with
                  | true =>
                    have fc0 := fc j (by omega)
                    have ff0 := ff j
                    clear fc ff
                    repeat' ((fail_if_success at_builtin); (first | go_skip | go_guarded | go_step))
                    go_roundw
                    case rel => exact ⟨j + 1, by omega, by go_num, Lib.grownBy_setB hg8.out _ _, (hr8.out.set' j (by omega) true).congr fun q _ => nxK_many (by rw [hhit.out]; rfl) hm.out q⟩
                    case measure => simp [intOf]; omega
                  | false =>
                    have fc0 := fc (j + 1) (by omega)
                    have ff0 := ff (j + 1)
                    clear fc ff
                    repeat' ((fail_if_success at_builtin); (first | go_skip | go_guarded | go_step))
                    go_roundw
                    case rel => exact ⟨j + 1, by omega, by go_num, Lib.grownBy_setB hg8.out _ _, (hr8.out.set' (j + 1) (by omega) true).congr fun q _ => nxK_one (by rw [hhit.out]; rfl) hm.out q⟩
                    case measure => simp [intOf]; omega
            · obtain rfl : j = k := by omega
              have k1 : ¬ ((j : Int) < (j : Int)) := by omega
              have hbx : Below w.heap.size w wr := hb0.grown hgr hb0.size (fun q hq => by injection hq with hq; omega)
              replace hgr := Lib.hid hgr
              repeat' ((fail_if_success at_builtin); (first | go_skip | go_guarded | go_step))
              go_roundw
              case rel => exact ⟨i + 1, go, _, rfl, by go_num, by omega, hwz, by omega, hbx, hrow, hfo.out⟩
              case measure => simp [intOf]; omega
/-- what Match of the document answers: what the program's does -/
theorem rmatch_any (p s : ByteArray) (w : World) (hp : p.size ≤ 800000) (hs : s.size ≤ 1000000) : Calls Tryd.prog 71 #[.string p, .string s] w fun e w' => e = .returned (.bool (matchS p.data.toList s.data.toList)) ∧ Below w.heap.size w w' := by
  have C := elems_any p w hp
  have hrel := prs_rel p.data.toList
  have hplen : p.data.toList.length = p.size := by simp
  unfold matchS
  cases hq : prsS p.data.toList with
  | none =>
    have hq2 : prsR p.data.toList = none := by
      rw [hq] at hrel
      cases h : prsR p.data.toList with
      | none => rfl
      | some es => rw [h] at hrel; exact hrel.elim
    rw [hq2] at C
    replace C := Lib.hid C
    clear hrel hq hq2
    go_enter Tryd.func71, Tryd.ntmps71
    repeat' ((fail_if_success at_builtin); (first | go_skip | go_guarded | go_step))
    refine C.out.mono ?_
    rintro e w1 ⟨rfl, hb1⟩
    dsimp only
    repeat' ((fail_if_success at_builtin); (first | go_skip | go_guarded | go_step))
    go_ret
    exact ⟨rfl, hb1⟩
  | some es =>
    obtain ⟨rs, hq2, hE⟩ : ∃ rs, prsR p.data.toList = some rs ∧ LEq es rs := by
      rw [hq] at hrel
      cases h : prsR p.data.toList with
      | none => rw [h] at hrel; exact hrel.elim
      | some rs => rw [h] at hrel; exact ⟨rs, rfl, hrel⟩
    rw [hq2] at C
    have hq3 : prsF p.data.toList.length p.data.toList = some es := by
      unfold prsS at hq
      split at hq
      · cases hq
      · exact hq
    have hq4 : prsRF p.data.toList.length p.data.toList = some rs := by
      unfold prsR at hq2
      split at hq2
      · cases hq2
      · exact hq2
    have hlen := prsF_len _ _ _ hq3
    have hit := prsRF_items _ _ _ hq4
    rw [hE.len] at hlen
    rw [hplen] at hlen hit
    have C2 : ∀ A c cs w1, Seq w1 w1.heap.size 2 A rs.length cs → RList rE 2 w1 (fun b => b < w1.heap.size) rs cs → Calls Tryd.prog 85 #[.slice A rs.length c, .string s] w1 fun e w' => e = .returned (.bool (matchE es s.data.toList)) ∧ Below w1.heap.size w1 w' :=
      fun A c cs w1 h1 h2 => matches_any es rs cs A c rs.length s w1 hE rfl (by omega) (fun r hr => by have := hit r hr; omega) hs h1 h2
    replace C := Lib.hid C
    replace C2 := Lib.hid C2
    clear hrel hq hq2 hq3 hq4 hE hit
    go_enter Tryd.func71, Tryd.ntmps71
    repeat' ((fail_if_success at_builtin); (first | go_skip | go_guarded | go_step))
    refine C.out.mono ?_
    rintro e w1 ⟨A, c, cs, rfl, h1, h2, hb1⟩
    dsimp only
    repeat' ((fail_if_success at_builtin); (first | go_skip | go_guarded | go_step))
    refine (C2.out A c cs w1 h1 h2).mono ?_
    rintro e w2 ⟨rfl, hb2⟩
    dsimp only
    repeat' ((fail_if_success at_builtin); (first | go_skip | go_guarded | go_step))
    go_ret
    exact ⟨rfl, hb1.trans (hb2.mono hb1.size)⟩
/-- what one more pattern changes -/
theorem anyS_snoc (ps : List (List UInt8)) (p s : List UInt8) : anyS (ps ++ [p]) s = match oneA p s with
    | some b => b
    | none => anyS ps s := by
  unfold anyS
  rw [List.reverse_append]
  rfl
set_option maxRecDepth 100000 in
set_option maxHeartbeats 2000000 in
theorem rany_any (l : List ByteArray) (s : ByteArray) (A : Option Addr) (c : Nat) (w : World) (hs : Seq w w.heap.size 1 A l.length (l.map Value.string)) (hl : l.length ≤ 1000000) (hm : ∀ p ∈ l, p.size ≤ 800000) (hz : s.size ≤ 1000000) :
    Calls Tryd.prog 46 #[.slice A l.length c, .string s] w fun e w' => e = .returned (.bool (anyS (toL l) s.data.toList)) ∧ Below w.heap.size w w' := by
  replace hm := Lib.hid hm
  go_enter Tryd.func46, Tryd.ntmps46
  repeat' ((fail_if_success at_builtin); (first | go_skip | go_guarded | go_step))
  go_loopw [5, 6] (fun u5 u6 wr => ∃ i : Nat, i ≤ l.length ∧ u6 = .int .i64 (i : Int) ∧ u5 = .bool (anyS (toL (l.take i)) s.data.toList) ∧ Below w.heap.size w wr) (fun _ u6 _ => l.length - (intOf u6).toNat)
  case atStart => exact ⟨0, by omega, rfl, rfl, Below.refl _ _⟩
  case round =>
    obtain ⟨i, hi, rfl, rfl, hb⟩ := hrel
    by_cases hlt : i < l.length
    · obtain ⟨b, o, rfl, hbB, hcell⟩ := hs.2 (by omega)
      have hx : l[i]? = some l[i] := List.getElem?_eq_getElem hlt
      have hc0 := (hb.cell (p := ⟨b, o + i, none⟩) hbB).trans (hcell i (.string l[i]) (by rw [List.getElem?_map, hx]; rfl))
      have hps : l[i].size ≤ 800000 := hm.out _ (List.getElem_mem _)
      have hstep : anyS (toL (l.take (i + 1))) s.data.toList = match oneA l[i].data.toList s.data.toList with
          | some b => b
          | none => anyS (toL (l.take i)) s.data.toList := by
        rw [List.take_add_one, hx, toL, List.map_append]
        exact anyS_snoc _ _ _
      clear hcell hx
      generalize l[i] = p at *
      generalize hv : anyS (toL (l.take i)) s.data.toList = v at *
      have i0 : (0 : Int) ≤ (i : Int) := by omega
      have i1 : (i : Int) < (l.length : Int) := by omega
      have i2 : IntKind.i64.wrap ((i : Int) + 1) = (i : Int) + 1 := IntWalk.i64_in _ (by omega)
      have hpl : p.data.toList.length = p.size := by simp
      have hext := ext_list p 1 p.size
      have hexs := ext_size p 1
      replace hext := Lib.hid hext
      replace hexs := Lib.hid hexs
      have C := fun (q : ByteArray) (w1 : World) (h : q.size ≤ 800000) => rmatch_any q s w1 h hz
      replace C := Lib.hid C
      have C1 := last_any p 0 wr (by omega)
      replace hstep := Lib.hid hstep
      by_cases h33 : lastN p.data.toList 0 = 33
      · rw [h33] at C1
        have hp0 : 0 < p.size := by
          unfold lastN at h33
          cases h : p.data.toList[0]? with
          | none => rw [h] at h33; simp at h33
          | some x => have := (List.getElem?_eq_some_iff.1 h).1; omega
        have hp1 : (1 : Int) ≤ (p.size : Int) := by omega
        have hhd : p.data.toList.head?.map UInt8.toNat = some 33 := by
          rw [List.head?_eq_getElem?]
          unfold lastN at h33
          cases h : p.data.toList[0]? with
          | none => rw [h] at h33; simp at h33
          | some x => rw [h] at h33; simpa using h33
        have hone : oneA p.data.toList s.data.toList = if matchS (p.extract 1 p.size).data.toList s.data.toList = true then some false else none := by
          unfold oneA
          rw [if_pos hhd, hext.out, List.take_of_length_le (by rw [List.length_drop, hpl]; omega), List.drop_one]
        clear hhd h33
        replace hone := Lib.hid hone
        repeat' ((fail_if_success at_builtin); (first | go_skip | go_guarded | go_step))
        refine C1.mono ?_
        rintro e w1 ⟨rfl, rfl⟩
        dsimp only
        repeat' ((fail_if_success at_builtin); (first | go_skip | go_guarded | go_step))
        refine (C.out (p.extract 1 p.size) w1 (Nat.le_trans hexs.out hps)).mono ?_
        rintro e w2 ⟨rfl, hb2⟩
        have hb3 := hb.trans (hb2.mono hb.size)
        clear C
        dsimp only
        replace hone := hone.out
        cases hmt : matchS ((p.extract 1 p.size)).data.toList s.data.toList with
        | true =>
          have hfin : anyS (toL (l.take (i + 1))) s.data.toList = false := by rw [hstep.out, hone, hmt]; rfl
          replace hfin := Lib.hid hfin
          clear hone
          repeat' ((fail_if_success at_builtin); (first | go_skip | go_guarded | go_step))
          go_roundw
          case rel => exact ⟨i + 1, by omega, by go_num, by rw [hfin.out], hb3⟩
          case measure => simp [intOf] <;> omega
        | false =>
          have hfin : anyS (toL (l.take (i + 1))) s.data.toList = v := by rw [hstep.out, hone, hmt]; rfl
          replace hfin := Lib.hid hfin
          clear hone
          repeat' ((fail_if_success at_builtin); (first | go_skip | go_guarded | go_step))
          go_roundw
          case rel => exact ⟨i + 1, by omega, by go_num, by rw [hfin.out], hb3⟩
          case measure => simp [intOf] <;> omega
      · have hllt := lastN_lt p.data.toList 0
        have hhd : ¬ p.data.toList.head?.map UInt8.toNat = some 33 := by
          rw [List.head?_eq_getElem?]
          unfold lastN at h33
          cases h : p.data.toList[0]? with
          | none => simp
          | some x => rw [h] at h33; simpa using h33
        have hone : oneA p.data.toList s.data.toList = if matchS p.data.toList s.data.toList = true then some true else none := by
          unfold oneA
          rw [if_neg hhd]
        generalize lastN p.data.toList 0 = x0 at *
        have q33 : ((x0 : Int) == 33) = false := by simpa using (by omega : ¬ (x0 : Int) = 33)
        clear hhd h33
        replace hone := Lib.hid hone
        repeat' ((fail_if_success at_builtin); (first | go_skip | go_guarded | go_step))
        refine C1.mono ?_
        rintro e w1 ⟨rfl, rfl⟩
        dsimp only
        repeat' ((fail_if_success at_builtin); (first | go_skip | go_guarded | go_step))
        refine (C.out p w1 hps).mono ?_
        rintro e w2 ⟨rfl, hb2⟩
        have hb3 := hb.trans (hb2.mono hb.size)
        clear C
        dsimp only
        replace hone := hone.out
        cases hmt : matchS (p).data.toList s.data.toList with
        | true =>
          have hfin : anyS (toL (l.take (i + 1))) s.data.toList = true := by rw [hstep.out, hone, hmt]; rfl
          replace hfin := Lib.hid hfin
          clear hone
          repeat' ((fail_if_success at_builtin); (first | go_skip | go_guarded | go_step))
          go_roundw
          case rel => exact ⟨i + 1, by omega, by go_num, by rw [hfin.out], hb3⟩
          case measure => simp [intOf] <;> omega
        | false =>
          have hfin : anyS (toL (l.take (i + 1))) s.data.toList = v := by rw [hstep.out, hone, hmt]; rfl
          replace hfin := Lib.hid hfin
          clear hone
          repeat' ((fail_if_success at_builtin); (first | go_skip | go_guarded | go_step))
          go_roundw
          case rel => exact ⟨i + 1, by omega, by go_num, by rw [hfin.out], hb3⟩
          case measure => simp [intOf] <;> omega
    · have hie : i = l.length := by omega
      have i1 : ¬ (i : Int) < (l.length : Int) := by omega
      rw [List.take_of_length_le (by omega)]
      repeat' ((fail_if_success at_builtin); (first | go_skip | go_guarded | go_step))
      go_ret
      exact ⟨rfl, hb⟩
end Go.Proofs.YtgloblokkejgmaaDoor
