/- Match: the walk. -/
import Derived.Test.YtgloblokkejgmaaDoorGMat
import Derived.Deep.OwnRows
namespace Go.Proofs.YtgloblokkejgmaaDoor
open Go.RowKit
theorem prsF_fit : ∀ (k : Nat) (l : List UInt8) (es : List El), prsF k l = some es → ∀ e ∈ es, e.set.fit
  | _, [], es, h => by
    have : es = [] := by cases ‹Nat› <;> simp [prsF] at h <;> exact h
    subst this; intro e he; cases he
  | 0, _ :: _, es, h => by simp [prsF] at h
  | k + 1, c :: l, es, h => by
    rw [prsF_step (by simp)] at h
    cases hq : fstS (c :: l) with
    | none => rw [hq] at h; cases h
    | some q =>
      obtain ⟨E, n⟩ := q
      rw [hq] at h
      dsimp only at h
      obtain ⟨es', h1, rfl⟩ := Option.map_eq_some_iff.1 h
      intro e he
      rcases List.mem_cons.1 he with rfl | he
      · exact (fstS_ok hq).1
      · exact prsF_fit k _ _ h1 e he
theorem prsF_len : ∀ (k : Nat) (l : List UInt8) (es : List El), prsF k l = some es → es.length ≤ l.length
  | _, [], es, h => by
    have : es = [] := by cases ‹Nat› <;> simp [prsF] at h <;> exact h
    subst this; simp
  | 0, _ :: _, es, h => by simp [prsF] at h
  | k + 1, c :: l, es, h => by
    rw [prsF_step (by simp)] at h
    cases hq : fstS (c :: l) with
    | none => rw [hq] at h; cases h
    | some q =>
      obtain ⟨E, n⟩ := q
      rw [hq] at h
      dsimp only at h
      obtain ⟨es', h1, rfl⟩ := Option.map_eq_some_iff.1 h
      have h2 := prsF_len k _ _ h1
      have h3 := (fstS_ok hq).2.1
      rw [List.length_drop] at h2
      simp at h2 ⊢
      omega
theorem minv_call {w wr : World} {B1 pl pa : Nat} {A : Option Addr} {c n : Nat} {es : List El} {g : Nat} {f : Nat → Bool} (h : MInv w wr B1 pl pa A c n es g f) (hn : n = es.length) (hl : n ≤ 1000000) :
    Calls Tryd.prog 83 #[.pointer (some ⟨pl, 0, none⟩), .pointer (some ⟨pa, 0, none⟩)] wr fun e w' => e = .returned (.tuple #[]) ∧ MInv w w' B1 pl pa A c n es g (skN (manyAt es) f) :=
  (skip_any es A c (n + 1) pl pa g n f wr hn hl h.cpl h.cpa (Ne.symm h.g3) (Ne.symm h.g4) h.l1 h.l2 h.g2 (SeqP.imp h.seq (fun b hb => ⟨Nat.lt_trans (Nat.lt_of_lt_of_le hb h.g1) h.g2, by have := h.g1; omega⟩)) h.row).mono (by
    rintro e w' ⟨he, h1, h2⟩
    exact ⟨he, h.grown h1 h2⟩)
set_option maxRecDepth 100000 in
set_option maxHeartbeats 4000000 in
theorem match_any (p s : ByteArray) (w : World) (hp : p.size ≤ 1000000) (hs : s.size ≤ 1000000) : Calls Tryd.prog 69 #[.string p, .string s] w fun e w' => e = .returned (.bool (matchS p.data.toList s.data.toList)) ∧ Below w.heap.size w w' := by
  have C := parse_any p w hp
  replace C := Lib.hid C
  have hlen : s.data.toList.length = s.size := by simp
  have hplen : p.data.toList.length = p.size := by simp
  unfold matchS
  generalize hpl : p.data.toList = pl at *
  cases hq : prsS pl with
  | none =>
    rw [hq] at C
    go_enter Tryd.func69, Tryd.ntmps69
    repeat' ((fail_if_success at_builtin); (first | go_skip | go_guarded | go_step))
    refine C.out.mono ?_
    rintro e w1 ⟨x, hx, rfl, hb1⟩
    have hx2 : (x == 0) = false := by simp; exact hx
    dsimp only
    repeat' ((fail_if_success at_builtin); (first | go_skip | go_guarded | go_step))
    go_ret
    exact ⟨rfl, hb1.alloc hb1.size _⟩
  | some es =>
    rw [hq] at C
    have hq2 : prsF pl.length pl = some es := by
      unfold prsS at hq
      split at hq
      · cases hq
      · exact hq
    have hfit := prsF_fit _ _ _ hq2
    have hel := prsF_len _ _ _ hq2
    clear hq hq2
    replace hfit := Lib.hid hfit
    obtain ⟨n, hn⟩ : ∃ n, n = es.length := ⟨_, rfl⟩
    have hnl : n ≤ 1000000 := by omega
    have hmk : ∀ w : World, (Instr.makeSlice 105 (.int .i64 ((n : Int) + 1)) (.int .i64 ((n : Int) + 1))).run Tryd.prog w = .ok (.slice (some ⟨w.heap.size, 0, none⟩) (n + 1) (n + 1)) (w.alloc (.cells (madeCells #[.bool false] (n + 1)) 4)) := by
      intro w
      have := run_make_row' (P := Tryd.prog) 105 4 (.bool false) 1 Tryd.underlying105 bool_info rfl .i64 .i64 (n + 1) (by omega) (by omega) w
      simpa using this
    replace hmk := Lib.hid hmk
    have hw1 : IntKind.i64.wrap ((n : Int) + 1) = (n : Int) + 1 := IntWalk.i64_in _ (by omega)
    dsimp only
    have C2 : Calls Tryd.prog 73 #[.string p] w (fun e w1 => ∃ A c, e = .returned (.tuple #[.slice A n c, .int .i64 0]) ∧ Seq w1 w1.heap.size 7 A n (elcs es) ∧ Below w.heap.size w w1) := by
      refine C.out.mono ?_
      rintro e w1 ⟨A, c, rfl, hown⟩
      rw [hn]
      exact ⟨A, c, rfl, hown.seq, hown.2⟩
    replace C2 := Lib.hid C2
    clear C
    replace hn := Lib.hid hn
    go_enter Tryd.func69, Tryd.ntmps69
    repeat' ((fail_if_success at_builtin); (first | go_skip | go_guarded | go_step))
    refine C2.out.mono ?_
    rintro e w1 ⟨A, c, rfl, hseq, hb1⟩
    clear C2
    dsimp only
    repeat' ((fail_if_success at_builtin); (first | go_skip | go_guarded | go_step))
    rw [hmk.out]
    simp only [Result.andThen, Oper.upon]
    generalize hw2 : World.alloc w1 _ = w2
    have e2 : w2.cell? ⟨w1.heap.size, 0, none⟩ = some (.slice A n c) := by rw [← hw2]; simp [go_sem]
    have hb2 : Below w1.heap.size w1 w2 := by rw [← hw2]; exact (Below.refl _ _).alloc (Nat.le_refl _) _
    have hz2 : w2.heap.size = w1.heap.size + 1 := by rw [← hw2]; simp
    clear hw2
    generalize hw3 : World.alloc w2 _ = w3
    have hb3 : Below w2.heap.size w2 w3 := by rw [← hw3]; exact (Below.refl _ _).alloc (Nat.le_refl _) _
    have hz3 : w3.heap.size = w1.heap.size + 2 := by rw [← hw3]; simp [hz2]
    have c3 : ∀ j, j ≤ n → w3.cell? ⟨w1.heap.size + 1, j, none⟩ = some (.bool false) := fun j hj => by
      rw [← hw3, ← hz2, World.cell?_alloc_new]; exact made_bools _ _ (by omega)
    have f3 : ∀ j, w3.frozen? ⟨w1.heap.size + 1, j, none⟩ = false := fun j => by rw [← hw3, ← hz2]; simp [go_sem]
    clear hw3
    rw [hz2]
    have e3 := (hb3.cell (p := ⟨w1.heap.size, 0, none⟩) (by dsimp only; omega)).trans e2
    have c30 := c3 0 (by omega)
    have f30 := f3 0
    have i0 : (0 : Int) < (n : Int) + 1 := by omega
    repeat' ((fail_if_success at_builtin); (first | go_skip | go_guarded | go_step))
    have hM0 : MInv w ((w3.setCell ⟨w1.heap.size + 1, 0, none⟩ (.bool true)).alloc (.cells #[.slice (some ⟨w1.heap.size + 1, 0, none⟩) (n + 1) (n + 1)] 105)) w1.heap.size w1.heap.size (w1.heap.size + 2) A c n es (w1.heap.size + 1) (fun j => decide (j = 0)) := by
      have hsz : (w3.setCell ⟨w1.heap.size + 1, 0, none⟩ (.bool true)).heap.size = w1.heap.size + 2 := by simp [World.setCell, hz3]
      have hbs : Below (w1.heap.size + 1) w3 (w3.setCell ⟨w1.heap.size + 1, 0, none⟩ (.bool true)) := (Below.refl _ _).setCell (p := ⟨w1.heap.size + 1, 0, none⟩) (Nat.le_refl _) _
      generalize hw4 : w3.setCell ⟨w1.heap.size + 1, 0, none⟩ (.bool true) = w4 at *
      have hb4 := (Below.refl w4.heap.size w4).alloc (Nat.le_refl _) (.cells #[.slice (some ⟨w1.heap.size + 1, 0, none⟩) (n + 1) (n + 1)] 105)
      have hb24 : Below (w1.heap.size + 1) w2 w4 := (hb3.mono (by omega)).trans hbs
      have hb14 : Below w1.heap.size w1 w4 := hb2.trans (hb24.mono (by omega))
      have hsz5 : (w4.alloc (.cells #[.slice (some ⟨w1.heap.size + 1, 0, none⟩) (n + 1) (n + 1)] 105)).heap.size = w1.heap.size + 3 := by simp [hsz]
      have hb15 := hb14.trans (hb4.mono (by omega))
      refine ⟨hb1.trans (hb15.mono hb1.size), ?_, ?_, ?_, by omega, by omega, by omega, by omega, by omega, by omega, by omega, by omega, by omega, hb1.size, hseq.keep (fun p hp => hb15.cell hp), ?_, fun j => ?_⟩
      · exact (hb4.cell (p := ⟨w1.heap.size, 0, none⟩) (by dsimp only; omega)).trans ((hbs.cell (p := ⟨w1.heap.size, 0, none⟩) (by dsimp only; omega)).trans e3)
      · rw [← hsz]; simp [go_sem]
      · rw [← hsz]; simp [go_sem]
      · intro j hj
        rw [hb4.cell (p := ⟨w1.heap.size + 1, j, none⟩) (by dsimp only; omega), ← hw4]
        by_cases hj0 : j = 0
        · subst hj0
          rw [World.cell?_setCell_same w3 _ _ c30]
          rfl
        · rw [World.cell?_setCell_other w3 _ _ _ (by intro h; injection h with h1 h2; exact hj0 h2.symm), c3 j hj]
          show _ = some (Value.bool (decide (j = 0)))
          rw [decide_eq_false hj0]
      · rw [hb4.frozen (p := ⟨w1.heap.size + 1, j, none⟩) (by dsimp only; omega), ← hw4]
        have := f3 j
        simpa [go_sem] using this
    refine (minv_call hM0 hn.out hnl).mono ?_
    rintro e w5 ⟨rfl, hM⟩
    clear hM0 c3 f3 e3 c30 f30 hb3 hb2 e2 hz2 hz3 hb1 hseq i0
    replace hM := Lib.hid hM
    generalize w1.heap.size + 2 = pa at *
    generalize w1.heap.size + 1 = g0 at *
    generalize w1.heap.size = pl0 at *
    clear w2 w3
    dsimp only
    repeat' ((fail_if_success at_builtin); (first | go_skip | go_guarded | go_step))
    go_loopw [31] (fun u31 wr => ∃ i g : Nat, i ≤ s.size ∧ u31 = .int .i64 (i : Int) ∧ MInv w wr pl0 pl0 pa A c n es g ((s.data.toList.take i).foldl (stepM es) (startM es))) (fun u31 _ => s.size - (intOf u31).toNat)
    case atStart => exact ⟨0, g0, by omega, rfl, hM.out⟩
    case round =>
      clear hM
      obtain ⟨i, g, hi, rfl, hM⟩ := hrel
      by_cases hlt : i < s.size
      · have i1 : (i : Int) < (s.size : Int) := by omega
        have i2 : (0 : Int) ≤ (i : Int) := by omega
        have hx := str_at hlt
        have hfold : (s.data.toList.take (i + 1)).foldl (stepM es) (startM es) = stepM es ((s.data.toList.take i).foldl (stepM es) (startM es)) s[i] := by
          rw [List.take_add_one, hx, List.foldl_append]; rfl
        replace hfold := Lib.hid hfold
        generalize (s.data.toList.take i).foldl (stepM es) (startM es) = f at *
        have hcl := hM.cpl
        have hcpa := hM.cpa
        have l1 := hM.l1
        have l2 := hM.l2
        repeat' ((fail_if_success at_builtin); (first | go_skip | go_guarded | go_step))
        rw [hmk.out]
        simp only [Result.andThen, Oper.upon]
        generalize hwn : World.alloc wr _ = wn
        have hbn : Below wr.heap.size wr wn := by rw [← hwn]; exact (Below.refl _ _).alloc (Nat.le_refl _) _
        have hzn : wn.heap.size = wr.heap.size + 1 := by rw [← hwn]; simp
        have hrn : BRow wn wr.heap.size n (nxK es s[i].toNat f 0) := by
          rw [← hwn]
          refine ⟨fun j hj => ?_, fun j => by simp [go_sem]⟩
          rw [World.cell?_alloc_new, nxK_zero]; exact made_bools _ _ (by omega)
        have hcl1 := (hbn.cell (p := ⟨pl0, 0, none⟩) l1).trans hcl
        have i3 : IntKind.i64.wrap ((i : Int) + 1) = (i : Int) + 1 := IntWalk.i64_in _ (by omega)
        have hx256 := s[i].toNat_lt
        replace hM := Lib.hid hM
        clear hcl
        repeat' ((fail_if_success at_builtin); (first | go_skip | go_guarded | go_step))
        obtain ⟨wo, hwo⟩ : ∃ wo : World, wo = wr := ⟨wr, rfl⟩
        subst hwo
        go_loopw [40] (fun u40 wx => ∃ k : Nat, k ≤ n ∧ u40 = .int .i64 (k : Int) ∧ wn.grownBy wx (some wo.heap.size) ∧ BRow wx wo.heap.size n (nxK es s[i].toNat f k)) (fun u40 _ => n - (intOf u40).toNat)
        case atStart => exact ⟨0, by omega, rfl, World.grownBy.refl _ _, hrn⟩
        case round =>
          obtain ⟨k, hk, rfl, hgr, hrow⟩ := hrel
          obtain ⟨wx, hwx⟩ : ∃ wx : World, wx = wr := ⟨wr, rfl⟩
          subst hwx
          by_cases hkn : k < n
          · obtain ⟨b, o, rfl, hbB, hcell⟩ := hM.out.seq.2 (by omega)
            have hlt2 : k < es.length := by have := hn.out; omega
            have hci : es[k]? = some es[k] := List.getElem?_eq_getElem hlt2
            have hzx : wo.heap.size + 1 ≤ wx.heap.size := by rw [← hzn]; exact hgr.size
            have toX : ∀ p : Addr, p.block < wo.heap.size → wx.cell? p = wo.cell? p := fun p hp => (grow_cell hgr (by rw [hzn]; omega) (by omega)).trans (hbn.cell hp)
            have hcell' := fun j u hu => (toX ⟨b, o + (k * 7 + j), none⟩ (by dsimp only; omega)).trans (hcell (k * 7 + j) u (flatE_at (f := fun e => (ecells e).toList) (fun _ => rfl) hci hu))
            clear hcell
            have hxf : es[k].set.fit := hfit.out _ (List.getElem_mem _)
            have hmx : manyAt es k = es[k].many := by unfold manyAt; rw [hci]; rfl
            have hhx : hasAt es s[i].toNat k = hasS es[k].set s[i].toNat := by unfold hasAt; rw [hci]; rfl
            generalize es[k] = x at *
            have e0 := hcell' 0 _ rfl
            have e1 := hcell' 1 _ rfl
            have e2 := hcell' 2 _ rfl
            have e3 := hcell' 3 _ rfl
            have e4 := hcell' 4 _ rfl
            have e5 := hcell' 5 _ rfl
            have e6 := hcell' 6 _ rfl
            simp only [← Nat.add_assoc, Nat.add_zero] at e0 e1 e2 e3 e4 e5 e6
            clear hcell' hci
            have j0 : (0 : Int) ≤ (k : Int) := by omega
            have j1 : (k : Int) < (n : Int) := by omega
            have j2 : IntKind.i64.wrap ((k : Int) + 1) = (k : Int) + 1 := IntWalk.i64_in _ (by omega)
            have j3 : (k : Int) < (n : Int) + 1 := by omega
            have j4 : (k : Int) + 1 < (n : Int) + 1 := by omega
            have j5 : (0 : Int) ≤ (k : Int) + 1 := by omega
            have hpax := (toX ⟨pa, 0, none⟩ l2).trans hcpa
            have hrx := (toX ⟨g, k, none⟩ hM.out.g2).trans (hM.out.row.1 k hk)
            have hgx : g < wx.heap.size := by have := hM.out.g2; omega
            repeat' ((fail_if_success at_builtin); (first | go_skip | go_guarded | go_step))
            generalize hwq : World.alloc wx _ = wq
            have hbq : Below wx.heap.size wx wq := by rw [← hwq]; exact (Below.refl _ _).alloc (Nat.le_refl _) _
            have k2 : wx.heap.size < wq.heap.size := by rw [← hwq]; simp
            have y0 : wq.cell? ⟨wx.heap.size, 0, none⟩ = some (wd x.set.a) := by rw [← hwq]; simp [go_sem]
            have y1 : wq.cell? ⟨wx.heap.size, 1, none⟩ = some (wd x.set.b) := by rw [← hwq]; simp [go_sem]
            have y2 : wq.cell? ⟨wx.heap.size, 2, none⟩ = some (wd x.set.c) := by rw [← hwq]; simp [go_sem]
            have y3 : wq.cell? ⟨wx.heap.size, 3, none⟩ = some (wd x.set.d) := by rw [← hwq]; simp [go_sem]
            have y4 : wq.cell? ⟨wx.heap.size, 4, none⟩ = some (.bool x.many) := by rw [← hwq]; simp [go_sem]
            clear hwq e0 e1 e2 e3 e4 e5 e6 toX
            have d0 := (hbq.cell (p := ⟨pa, 0, none⟩) (by dsimp only; omega)).trans hpax
            have d1 := (hbq.cell (p := ⟨g, k, none⟩) hgx).trans hrx
            have k0 : pa < wq.heap.size := by omega
            have k1 : g < wq.heap.size := by omega
            have hgq := Lib.hid (Lib.grownBy_below hgr hbq)
            have hrq := Lib.hid (hrow.kept hbq (by omega))
            have kq : wo.heap.size < wq.heap.size := by omega
            clear hgr hrow hbq hpax hrx
            have hhit : hitN es s[i].toNat f k = (f k && hasS x.set s[i].toNat) := by unfold hitN; rw [hhx]
            replace hhit := Lib.hid hhit
            replace hmx := Lib.hid hmx
            clear hhx
            generalize hfk : f k = fk at *
            cases fk with
            | false =>
              go_quiet (fail)
              repeat' ((fail_if_success at_builtin); (first | go_skip | go_guarded | go_step))
              go_roundw
              case rel =>
                have hbd : Below wq.heap.size wq (wq.drewN nq) := ⟨rfl, rfl, rfl, Nat.le_refl _, fun _ _ => rfl⟩
                exact ⟨k + 1, by omega, by go_num, Lib.grownBy_below hgq.out hbd, (hrq.out.kept hbd kq).congr fun j _ => (nxK_miss (by rw [hhit.out]; rfl) j).symm⟩
              case measure => simp [intOf]; omega
            | true =>
              have C := fun w' => has_any x.set s[i].toNat w' hx256 hxf
              replace C := Lib.hid C
              generalize hv : hasS x.set s[i].toNat = v at *
              generalize hvm : x.many = vm at *
              go_region_held3 (fun w' => Below wq.heap.size wq w' ∧ w'.cell? ⟨pa, 0, none⟩ = some (.slice (some ⟨g, 0, none⟩) (n + 1) (n + 1)) ∧ w'.cell? ⟨g, k, none⟩ = some (.bool true) ∧ w'.cell? ⟨wx.heap.size, 0, none⟩ = some (wd x.set.a) ∧ w'.cell? ⟨wx.heap.size, 1, none⟩ = some (wd x.set.b) ∧ w'.cell? ⟨wx.heap.size, 2, none⟩ = some (wd x.set.c) ∧ w'.cell? ⟨wx.heap.size, 3, none⟩ = some (wd x.set.d) ∧ w'.cell? ⟨wx.heap.size, 4, none⟩ = some (.bool vm))
                (first | exact ⟨(Below.refl _ _).drew, d0, d1, y0, y1, y2, y3, y4⟩ | exact ⟨(Below.refl _ _).drew.trans (hbq.mono (Nat.le_refl _)), (hbq.cell (p := ⟨pa, 0, none⟩) k0).trans d0, (hbq.cell (p := ⟨g, k, none⟩) k1).trans d1, (hbq.cell (p := ⟨wx.heap.size, 0, none⟩) k2).trans y0, (hbq.cell (p := ⟨wx.heap.size, 1, none⟩) k2).trans y1, (hbq.cell (p := ⟨wx.heap.size, 2, none⟩) k2).trans y2, (hbq.cell (p := ⟨wx.heap.size, 3, none⟩) k2).trans y3, (hbq.cell (p := ⟨wx.heap.size, 4, none⟩) k2).trans y4⟩)
                (first | (go_at_call 84; refine (C.out _).mono ?_; rintro e w7 ⟨rfl, hbq⟩; dsimp only))
              rename_i hh
              obtain ⟨hb7, _, _, _, _, _, _, y47⟩ := hh
              have hg7 := Lib.hid (Lib.grownBy_below hgq.out hb7)
              have hr7 := Lib.hid (hrq.out.kept hb7 kq)
              have fk := hr7.out.2
              cases v with
              | false =>
                repeat' ((fail_if_success at_builtin); (first | go_skip | go_guarded | go_step))
                go_roundw
                case rel => exact ⟨k + 1, by omega, by go_num, hg7.out, hr7.out.congr fun j _ => (nxK_miss (by rw [hhit.out]; rfl) j).symm⟩
                case measure => simp [intOf]; omega
              | true =>
                cases vm with
                | true =>
                  have fc := hr7.out.1 k hk
                  have ff := fk k
                  clear fk
                  repeat' ((fail_if_success at_builtin); (first | go_skip | go_guarded | go_step))
                  go_roundw
                  case rel => exact ⟨k + 1, by omega, by go_num, Lib.grownBy_setB hg7.out _ _, (hr7.out.set' k (by omega) true).congr fun j _ => nxK_many (by rw [hhit.out]; rfl) hmx.out j⟩
                  case measure => simp [intOf]; omega
                | false =>
                  have fc := hr7.out.1 (k + 1) (by omega)
                  have ff := fk (k + 1)
                  clear fk
                  repeat' ((fail_if_success at_builtin); (first | go_skip | go_guarded | go_step))
                  go_roundw
                  case rel => exact ⟨k + 1, by omega, by go_num, Lib.grownBy_setB hg7.out _ _, (hr7.out.set' (k + 1) (by omega) true).congr fun j _ => nxK_one (by rw [hhit.out]; rfl) hmx.out j⟩
                  case measure => simp [intOf]; omega
          · have hke : k = n := by omega
            subst hke
            have k1 : ¬ ((k : Int) < (k : Int)) := by omega
            have hpa1 := (grow_cell hgr (p := ⟨pa, 0, none⟩) (by dsimp only; omega) (by dsimp only; omega)).trans ((hbn.cell (p := ⟨pa, 0, none⟩) l2).trans hcpa)
            have hfa1 := (grow_frozen hgr (p := ⟨pa, 0, none⟩) (by dsimp only; omega) (by dsimp only; omega)).trans ((hbn.frozen (p := ⟨pa, 0, none⟩) l2).trans hM.out.fpa)
            rw [← hwn] at hgr
            have hM2 := MInv.next hM.out hgr hrow
            have C3 := minv_call hM2 hn.out hnl
            replace C3 := Lib.hid C3
            clear hM2
            repeat' ((fail_if_success at_builtin); (first | go_skip | go_guarded | go_step))
            refine C3.out.mono ?_
            rintro e w8 ⟨rfl, hM8⟩
            clear C3
            dsimp only
            repeat' ((fail_if_success at_builtin); (first | go_skip | go_guarded | go_step))
            go_roundw
            case rel =>
              refine ⟨i + 1, wo.heap.size, by omega, by go_num, ?_⟩
              rw [hfold.out]
              unfold stepM
              rw [← hn.out]
              exact hM8
            case measure => simp [intOf]; omega
      · have hie : i = s.size := by omega
        have i1 : ¬ ((i : Int) < (s.size : Int)) := by omega
        have htk : s.data.toList.take i = s.data.toList := List.take_of_length_le (by omega)
        rw [htk] at hM
        have hcl := hM.cpl
        have hcpa := hM.cpa
        have hrn := hM.row.1 n (Nat.le_refl _)
        have hbe := hM.below
        have i2 : (0 : Int) ≤ (n : Int) := by omega
        have i3 : (n : Int) < (n : Int) + 1 := by omega
        clear hM
        repeat' ((fail_if_success at_builtin); (first | go_skip | go_guarded | go_step))
        go_ret
        refine ⟨ret_b ?_, hbe⟩
        unfold matchE
        rw [← hn.out]
        exact (congrFun (Array.foldl_toList _) n).symm
end Go.Proofs.YtgloblokkejgmaaDoor
