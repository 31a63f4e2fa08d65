/- Joined: JnBxP JnBx. -/
import Derived.Test.YtgdapkglofchjaaGreatDoorF26
set_option maxRecDepth 100000
set_option maxHeartbeats 4000000
set_option linter.unusedVariables false
namespace Go.Proofs.YtgdapkglofchjaaGreatDoor
open Go.RowKit
theorem value_form {w : World} {S : Nat → Prop} {f : FV} {cs : List Value} (h : Cod.value.rp w S f cs) : ∃ k b i s A n c A2 n2 c2, cs = [.int .i64 k, .bool b, .int .i64 i, .string s, .slice A n c, .slice A2 n2 c2] := by
 obtain ⟨g, h⟩ := h
 cases g with
 | zero => exact h.elim
 | succ g =>
  obtain ⟨l, _, h⟩ := h
  obtain ⟨_, _, _, _, _, rfl, ⟨k, _, _, rfl⟩, h⟩ := h
  obtain ⟨_, _, _, _, _, rfl, ⟨b, _, rfl⟩, h⟩ := h
  obtain ⟨_, _, _, _, _, rfl, ⟨i, _, _, rfl⟩, h⟩ := h
  obtain ⟨_, _, _, _, _, rfl, ⟨s, _, rfl⟩, h⟩ := h
  obtain ⟨_, _, _, _, _, rfl, ⟨l1, A, c, _, rfl, _⟩, h⟩ := h
  obtain ⟨_, _, _, _, _, rfl, ⟨l2, A2, c2, _, rfl, _⟩, _, rfl⟩ := h
  exact ⟨k, b, i, s, A, _, c, A2, _, c2, rfl⟩
theorem Tgt.low {w w' : World} {b o B : Nat} {cs : List Value} (h : Tgt w b o cs) (hb : Below B w w') (hB : b < B) (hs : w.heap.size ≤ w'.heap.size) : Tgt w' b o cs := ⟨Nat.lt_of_lt_of_le h.lt hs, fun j u hj => (hb.cell (p := ⟨b, o + j, none⟩) hB).trans (h.at_ j u hj), fun j => (World.frozen?_of_block (a := ⟨b, j, none⟩) (hb.block b hB)).trans (h.fr j)⟩
theorem Tgt.setc {w : World} {b j : Nat} {cs : List Value} (h : Tgt w b 0 cs) (hj : j < cs.length) (u : Value) : Tgt (w.setCell ⟨b, j, none⟩ u) b 0 (cs.set j u) := by
 refine ⟨by rw [World.size_setCell]; exact h.lt, fun i v hv => ?_, fun i => by rw [World.frozen?_setCell]; exact h.fr i⟩
 rw [Nat.zero_add]
 by_cases hij : i = j
 ·subst hij
  rw [List.getElem?_set_self hj] at hv
  injection hv with hv
  subst hv
  have := h.at_ i _ (List.getElem?_eq_getElem hj)
  rw [Nat.zero_add] at this
  exact World.cell?_setCell_same w ⟨b, i, none⟩ _ this
 ·rw [List.getElem?_set_ne (Ne.symm hij)] at hv
  have := h.at_ i _ hv
  rw [Nat.zero_add] at this
  exact (World.cell?_setCell_other w _ _ _ (by intro e; injection e with _ e _; first | exact hij e | exact hij e.symm)).trans this
theorem F2.low {w w1 w2 : World} {g b : Nat} (h : F2 w w1 g b) (hb : Below w.heap.size w1 w2) (hs : w1.heap.size ≤ w2.heap.size) : F2 w w2 g b := ⟨hb.os.trans h.os, hb.tape.trans h.tape, hb.output.trans h.output, Nat.le_trans h.size hs, fun k hk h1 h2 => (hb.block k hk).trans (h.block k hk h1 h2)⟩
theorem F2.setc {w w1 : World} {g b : Nat} (h : F2 w w1 g b) (o : Nat) (v : Value) : F2 w (w1.setCell ⟨b, o, none⟩ v) g b := h.set o [v]
theorem val_info : Info Tryz.prog 75 (.agg #[.int .i64 0, .bool false, .int .i64 0, .string ⟨#[]⟩, .slice none 0 0, .slice none 0 0]) 6 88 := by unfold Info; kernel_rfl
abbrev vZ : List Value := [.int .i64 0, .bool false, .int .i64 0, .string ⟨#[]⟩, .slice none 0 0, .slice none 0 0]
theorem GB.setv {w w1 : World} {g gv : Nat} (h : GB w w1 g) (hg : w.heap.size ≤ gv) (o : Nat) (vs : List Value) : GB w (w1.setCells gv o vs) g := by
 have k := setCells_blk vs o w1 gv
 exact ⟨k.os.trans h.os, k.tape.trans h.tape, k.output.trans h.output, Nat.le_trans h.size k.size, fun i hi hne => (k.block i (Nat.lt_of_lt_of_le hi h.size) (fun e => by injection e; omega)).trans (h.block i hi hne)⟩
theorem frozen_setCells (p : Addr) : ∀ (vs : List Value) (o : Nat) (w : World) (b : Nat), (w.setCells b o vs).frozen? p = w.frozen? p
 | [], _, _, _ => rfl
 | v :: vs, o, w, b => (frozen_setCells p vs (o + 1) _ b).trans (by rw [World.frozen?_setCell])
theorem Tgt.setAll {w : World} {b : Nat} {cs vs : List Value} (h : Tgt w b 0 cs) (hl : vs.length = cs.length) : Tgt (w.setCells b 0 vs) b 0 vs :=
 ⟨by rw [setCells_size2]; exact h.lt, World.rangeAt_setCells_same w b 0 vs (h.there (by omega)), fun j => by rw [frozen_setCells]; exact h.fr j⟩
theorem BK.setv {w : World} {g gv : Nat} {b : Bool} (h : BK w g b) (hne : gv ≠ g) {vs : List Value} : BK (w.setCells gv 0 vs) g b :=
 ⟨by rw [setCells_size2]; exact h.lt, (World.cell?_setCells_out gv vs 0 w ⟨g, 0, none⟩ (fun e => absurd e (fun e => hne e.symm))).trans h.c, fun j => by rw [frozen_setCells]; exact h.fr j⟩
theorem rs_move {z5 zp zc : World} {gv W2 n e : Nat} {B : Option Addr} {L : List FV} {vs : List Value} (h : RSlice Cod.str.rp 1 z5 (Fresh zp z5) B n e L) (hb : Below z5.heap.size z5 zc) (hg : gv < zp.heap.size ∨ z5.heap.size ≤ gv) (h2 : W2 ≤ zp.heap.size) :
  RSlice Cod.str.rp 1 (zc.setCells gv 0 vs) (fun x => W2 ≤ x ∧ x < (zc.setCells gv 0 vs).heap.size ∧ x ≠ gv) B n e L := by
 refine h.mapR Cod.str_ok.map (fun p hp => ?_) (fun x hx => ?_)
 ·have h1 : zp.heap.size ≤ p.block := hp.1
  have h3 : p.block < z5.heap.size := hp.2
  exact (World.cell?_setCells_out gv vs 0 zc p (fun e => absurd e (by omega))).trans (hb.cell h3)
 ·have h1 : zp.heap.size ≤ x := hx.1
  have h3 : x < z5.heap.size := hx.2
  have := hb.size
  rw [setCells_size2]
  exact ⟨by omega, by omega, by omega⟩
theorem value_res {w w1 w2 wx w4 wr zf : World} {g gv gB : Nat} {b b2 b5 bi : Bool} {f p0 p1 p2 p3 p4 p5 y0 y1 y2 y3 y5 : FV} {vs L5 : List FV} {x0 x2 : Int} {o1 : Bool} {s3 : ByteArray} {v4 : Value} {B5 : Option Addr} {e5 : Nat} {e : TypeId}
  (hcl : Cl1 f) (hc4 : Cl1 p4) (hb1 : Below w.heap.size w w1) (hgw : g < w.heap.size) (hgB : w.heap.size ≤ gB) (hgB1 : gB < w1.heap.size) (hG2 : GB w1 w2 g) (hGx : GB w2 wx g) (hG4 : GB wx w4 g) (hF : F2 w4 wr g gv) (hgv : w2.heap.size ≤ gv)
  (q1 : b2 = false → b = false ∧ f.1 = 2 ∧ [p0, p1, p2, p3, p4, p5] = toL f.2.2.2) (q2 : b = false → f.1 = 2 → f.2.2.2.length = 6 → b2 = false)
  (hL : LG b2 [fitI, fitB, fitI, fitS, fitL fitS] [p0, p1, p2, p3, p5] [y0, y1, y2, y3, y5] b5)
  (hx0 : IsInt x0 ∧ y0 = fI x0) (hy1 : y1 = fI (if o1 then 1 else 0)) (hx2 : IsInt x2 ∧ y2 = fI x2) (hy3 : y3 = fS s3) (hy5 : y5 = fL L5)
  (hr5 : RSlice Cod.str.rp 1 wx (fun x => w2.heap.size ≤ x ∧ x < wx.heap.size ∧ x ≠ gv) B5 L5.length e5 L5) (hB : BK wr g bi) (hOL : OL .value w4.heap.size wr e v4 vs)
  (n1 : bi = false → (b5 || !(p4.1 == 2)) = false ∧ (∀ y ∈ toL p4.2.2.2, FitV y) ∧ vs = toL p4.2.2.2) (n2 : (b5 || !(p4.1 == 2)) = false → (∀ y ∈ toL p4.2.2.2, FitV y) → bi = false)
  (hz : zf = wr.setCells gB 0 [.int .i64 x0, .bool o1, .int .i64 x2, .string s3, v4, .slice B5 L5.length e5]) : BRes w zf g b .value FitV f [.int .i64 x0, .bool o1, .int .i64 x2, .string s3, v4, .slice B5 L5.length e5] := by
 have s1 := hb1.size
 have s2 := hG2.size
 have s3' := hGx.size
 have s4 := hG4.size
 have s5 := hF.size
 have hk := setCells_blk [.int .i64 x0, .bool o1, .int .i64 x2, .string s3, v4, .slice B5 L5.length e5] 0 wr gB
 have hcell : ∀ p : Addr, p.block ≠ gB → p.block < wr.heap.size → zf.cell? p = wr.cell? p := fun p h1 h2 => by rw [hz]; exact World.cell?_of_block (hk.block p.block h2 (fun e => h1 (by injection e)))
 have hsz : wr.heap.size ≤ zf.heap.size := by rw [hz]; exact hk.size
 have hGw : GB w w4 g := (((GB.of hb1).trans hG2).trans hGx).trans hG4
 have hBf : BK zf g bi := ⟨Nat.lt_of_lt_of_le hB.lt hsz, (hcell ⟨g, 0, none⟩ (by show g ≠ gB; omega) hB.lt).trans hB.c, fun j => by rw [hz, frozen_setCells]; exact hB.fr j⟩
 have hGf : GB w zf g := by
  refine ⟨?_, ?_, ?_, Nat.le_trans hGw.size (Nat.le_trans s5 hsz), fun i hi hne => ?_⟩
  ·rw [hz]; exact hk.os.trans (hF.os.trans hGw.os)
  ·rw [hz]; exact hk.tape.trans (hF.tape.trans hGw.tape)
  ·rw [hz]; exact hk.output.trans (hF.output.trans hGw.output)
  ·have h1 : i ≠ gB := by omega
   have h2 : i ≠ gv := by omega
   have h3 : i ≠ g := fun e => hne (by rw [e])
   rw [hz]
   exact (hk.block i (by omega) (fun e => h1 (by injection e))).trans ((hF.block i (by omega) h3 h2).trans (hGw.block i hi hne))
 have hl : (Cod.list .value).rp zf (Fresh w zf) (fL vs) [v4] := (Cod.list_ok Cod.value_ok).map _ _ _ _ _ _ (fun p hp => hcell p (by have := hp.1; omega) hp.2) (fun x hx => ⟨by have := hx.1; omega, Nat.lt_of_lt_of_le hx.2 hsz⟩) (hOL.list Cod.value_ok)
 have h5 : RSlice Cod.str.rp 1 zf (Fresh w zf) B5 L5.length e5 L5 := hr5.mapR Cod.str_ok.map (fun p hp => by
  obtain ⟨k1, k2, k3⟩ := hp
  have h1 : p.block ≠ g := by have := hB.lt; omega
  exact (hcell p (by omega) (by omega)).trans ((World.cell?_of_block (hF.block p.block (by omega) h1 k3)).trans (hG4.cell k2 h1))) (fun x hx => ⟨by have := hx.1; omega, by have := hx.2.1; omega⟩)
 refine ⟨fL [y0, y1, y2, y3, fL vs, y5], bi, hBf, hGf, value_of ⟨_, rfl, y0, _, [_], _, rfl, rfl, ⟨x0, hx0.1, hx0.2, rfl⟩, y1, _, [_], _, rfl, rfl, ⟨o1, hy1, rfl⟩, y2, _, [_], _, rfl, rfl, ⟨x2, hx2.1, hx2.2, rfl⟩, y3, _, [_], _, rfl, rfl, ⟨s3, hy3, rfl⟩, fL vs, _, [_], _, rfl, rfl, hl, y5, _, [_], _, rfl, rfl, ⟨L5, B5, e5, hy5, rfl, h5⟩, rfl, rfl⟩, fun hb => ?_, fun hb hf => ?_⟩
 ·obtain ⟨k1, k2, k3⟩ := n1 hb
  simp only [Bool.or_eq_false_iff, Bool.not_eq_false', beq_iff_eq] at k1
  obtain ⟨k5, k6, k7⟩ := hL.h1 k1.1
  obtain ⟨k8, k9, k10⟩ := q1 k5
  injection k7 with e0 k7
  injection k7 with e1 k7
  injection k7 with e2 k7
  injection k7 with e3 k7
  injection k7 with e4 k7
  have hfe : fL [p0, p1, p2, p3, p4, p5] = f := by rw [k10]; exact list_of hcl k9
  have h4e : fL vs = p4 := by rw [k3]; exact list_of hc4 k1.2
  refine ⟨k8, ?_, by rw [e0, e1, e2, e3, e4, h4e]; exact hfe⟩
  rw [← hfe]
  obtain ⟨j0, j1, j2, j3, j5, _⟩ := k6
  exact fitV_mk.2 ⟨j0, j1, j2, j3, ⟨k1.2, k2⟩, j5, trivial⟩
 ·have hk2 := fitV_kind hf
  have hfe := list_of hcl hk2
  rw [← hfe] at hf
  have hfl := fitV_mk.1 hf
  have hlen := hfl.len
  rw [toL_length] at hlen
  have hb2 := q2 hb hk2 hlen
  obtain ⟨_, _, k10⟩ := q1 hb2
  rw [← k10] at hfl
  obtain ⟨j0, j1, j2, j3, j4, j5, _⟩ := hfl
  refine n2 ?_ j4.2
  rw [hL.h2 hb2 ⟨j0, j1, j2, j3, j5, trivial⟩, j4.1]
  rfl
theorem fsl_gbS {w w' : World} {S : Nat → Prop} {g c : Nat} {A : Option Addr} {l : List FV} (h : FSl w S A c l) (hF : GB w w' g) (hS : ∀ x, S x → x < w.heap.size ∧ x ≠ g) : FSl w' S A c l := by
 obtain ⟨h1, cs, h2, h3⟩ := h
 have hc : ∀ p : Addr, S p.block → w'.cell? p = w.cell? p := fun p hp => hF.cell (hS _ hp).1 (hS _ hp).2
 exact ⟨h1, cs, h2.map hc (fun _ hp => hp), RList.map (fun x c k => rF_ok _ _ _ _ x c hc (fun _ hp => hp) k) h3⟩
theorem Tgt.f2F {w w' : World} {g b q o : Nat} {cs : List Value} (h : Tgt w q o cs) (hF : F2 w w' g b) (h1 : q ≠ g) (h2 : q ≠ b) : Tgt w' q o cs := ⟨Nat.lt_of_lt_of_le h.lt hF.size, fun j u hj => (World.cell?_of_block (hF.block q h.lt h1 h2)).trans (h.at_ j u hj), fun j => (World.frozen?_of_block (a := ⟨q, j, none⟩) (hF.block q h.lt h1 h2)).trans (h.fr j)⟩
theorem BK.setc1 {w : World} {g gv o : Nat} {b : Bool} {v : Value} (h : BK w g b) (hne : gv ≠ g) : BK (w.setCell ⟨gv, o, none⟩ v) g b :=
 ⟨by rw [World.size_setCell]; exact h.lt, (World.cell?_setCell_other w _ _ _ (by intro e; injection e with e; exact hne e)).trans h.c, fun j => by rw [World.frozen?_setCell]; exact h.fr j⟩
theorem value_body (N : Nat) (hN9 : N ≤ 1000000000) (ih : ∀ M, M < N → BackS M 92 .value FitV) : BackS N 92 .value FitV := by
 intro w g b f A c h hf hcl hN
 go_enter Tryz.func92, Tryz.ntmps92
 go_upto_region 1 with (fail)
 generalize hx_ : World.alloc (World.alloc w _) _ = w1
 have hH : HD w w1 g b f A c vZ := by rw [← hx_]; exact HD.of h hf _ _
 clear hx_
 obtain ⟨c0, c1, c2, c3⟩ := hH.cells
 have hlt := hH.lt
 repeat' (first | go_skip | go_guarded | go_step)
 refine (bparts_any w.heap.size w1 g b f A c 6 hH.bk hH.hb.size hH.rf hcl (by omega) (by omega) (by omega)).mono ?_
 rintro e w2 ⟨l, A2, k2, rfl, b2, hl, hFl, hcln, hB2, hG2, hsm, q1, q2⟩
 dsimp only
 obtain ⟨p0, p1, p2, p3, p4, p5, rfl⟩ := list6 hl
 obtain ⟨bq, oq, rfl, hq⟩ := fsl_head hFl (by simp)
 obtain ⟨a0, k0_, hr0, hA0, hc0, hz0⟩ := part_at hFl hcln hsm (show fsz f ≤ 1000000000 from by omega) (i := 0) (y := p0) (o := oq) rfl rfl
 obtain ⟨a1, k1_, hr1, hA1, hc1, hz1⟩ := part_at hFl hcln hsm (show fsz f ≤ 1000000000 from by omega) (i := 1) (y := p1) (o := oq + 4) rfl rfl
 obtain ⟨a2, k2_, hr2, hA2, hc2, hz2⟩ := part_at hFl hcln hsm (show fsz f ≤ 1000000000 from by omega) (i := 2) (y := p2) (o := oq + 8) rfl rfl
 obtain ⟨a3, k3_, hr3, hA3, hc3, hz3⟩ := part_at hFl hcln hsm (show fsz f ≤ 1000000000 from by omega) (i := 3) (y := p3) (o := oq + 12) rfl rfl
 obtain ⟨a4, k4_, hr4, hA4, hc4, hz4⟩ := part_at hFl hcln hsm (show fsz f ≤ 1000000000 from by omega) (i := 4) (y := p4) (o := oq + 16) rfl rfl
 obtain ⟨a5, k5_, hr5, hA5, hc5, hz5⟩ := part_at hFl hcln hsm (show fsz f ≤ 1000000000 from by omega) (i := 5) (y := p5) (o := oq + 20) rfl rfl
 have hq1 := hq.2.1
 have hq2 := hq.2.2
 have hqB : bq ≠ w.heap.size + 1 := by have := hq.1; have := hH.tg.lt; omega
 replace q1 := Lib.hid q1
 replace q2 := Lib.hid q2
 have hz4 := hsm p4 (by simp)
 clear hFl hcln hl hsm hlt c0 c1 c2 c3
 have hb := hH.hb
 have hgw := hH.lt
 have hlt1 := hH.tg.lt
 have hs12 := hG2.size
 have hs01 := hb.size
 have hBd : BK w2.drew g b2 := ⟨hB2.lt, hB2.c, hB2.fr⟩
 have hg1 : g < w1.heap.size := by omega
 have hT2 := hH.tg.f2 hG2 (by omega)
 clear hH
 go_upto_region 2 with (fail)
 go_cut [6] (fun u6 wx => ∃ (wq : World) (gv : Nat) (y0 y1 y2 y3 y5 : FV) (x0 x2 : Int) (o1 : Bool) (s3 : ByteArray) (L5 : List FV) (B5 : Option Addr) (e5 : Nat) (b5 : Bool), wq = wx ∧ u6 = .pointer (some ⟨gv, 0, none⟩) ∧ w2.heap.size ≤ gv ∧ Tgt wx gv 0 [.int .i64 x0, .bool o1, .int .i64 x2, .string s3, .slice none 0 0, .slice B5 L5.length e5] ∧
  BK wx g b5 ∧ GB w2 wx g ∧ LG b2 [fitI, fitB, fitI, fitS, fitL fitS] [p0, p1, p2, p3, p5] [y0, y1, y2, y3, y5] b5 ∧ (IsInt x0 ∧ y0 = fI x0) ∧ y1 = fI (if o1 then 1 else 0) ∧ (IsInt x2 ∧ y2 = fI x2) ∧ y3 = fS s3 ∧ y5 = fL L5 ∧ RSlice Cod.str.rp 1 wx (fun x => w2.heap.size ≤ x ∧ x < wx.heap.size ∧ x ≠ gv) B5 L5.length e5 L5)
 case first =>
  refine wp_region_held_drew (S := fun w' => GB w2 w' g ∧ True) (by kernel_rfl) ?_ (fun hHeld => ?_)
  ·(try dsimp only)
   exact ⟨GB.of ((Below.refl w2.heap.size w2).drew), trivial⟩
  refine tkQ 0 ?_
  refine tkQ 1 ?_
  refine tkQ 2 ?_
  refine tkV 3 (v := .agg (fC p0 a0 k0_).toArray) rfl (yieldsF (b := bq) (o := oq) (fun v h => range_gb hA0 h.1 hq1 hq2)) ?_
  refine tkQ 5 ?_
  refine tkQ 6 ?_
  refine tkQ 7 ?_
  refine tkV 8 (v := .agg (fC p1 a1 k1_).toArray) rfl (yieldsF (b := bq) (o := oq + 4) (fun v h => range_gb hA1 h.1 hq1 hq2)) ?_
  refine tkQ 10 ?_
  refine tkQ 11 ?_
  refine tkQ 12 ?_
  refine tkV 13 (v := .agg (fC p2 a2 k2_).toArray) rfl (yieldsF (b := bq) (o := oq + 8) (fun v h => range_gb hA2 h.1 hq1 hq2)) ?_
  refine tkQ 15 ?_
  refine tkQ 16 ?_
  refine tkQ 17 ?_
  refine tkV 18 (v := .agg (fC p3 a3 k3_).toArray) rfl (yieldsF (b := bq) (o := oq + 12) (fun v h => range_gb hA3 h.1 hq1 hq2)) ?_
  refine tkQ 20 ?_
  refine tkQ 21 ?_
  refine tkQ 22 ?_
  refine tkV 23 (v := .agg (fC p5 a5 k5_).toArray) rfl (yieldsF (b := bq) (o := oq + 20) (fun v h => range_gb hA5 h.1 hq1 hq2)) ?_
  refine rdN [4, 26] ?_
  refine rdC (fun K hK => ?_) ?_
  ·go_simp
   go_at_call 40
   refine (num_b.lg (LG.nil b2) hBd (rF_gb hr0 hHeld.1) hc0 hz0).mono ?_
   rintro e z0 ⟨v0, y0, b0_, rfl, ⟨x0, hx0, he0, hv⟩, hB0_, hG0_, hL1⟩
   dsimp only
   injection hv with hv
   subst hv
   have hcq := hHeld.1.trans hG0_
   refine hkO hK ⟨hcq, trivial⟩ fun hHeld => ?_
   clear hK K
   refine rdN [9, 26] ?_
   refine rdC (fun K hK => ?_) ?_
   ·go_simp
    go_at_call 91
    refine (flag_b.lg hL1 hB0_ (rF_gb hr1 hHeld.1) hc1 hz1).mono ?_
    rintro e z1 ⟨v1, y1, b1_, rfl, ⟨o1, he1, hv⟩, hB1_, hG1_, hL2⟩
    dsimp only
    injection hv with hv
    subst hv
    have hcq := hHeld.1.trans hG1_
    refine hkO hK ⟨hcq, trivial⟩ fun hHeld => ?_
    clear hK K
    refine rdN [14, 26] ?_
    refine rdC (fun K hK => ?_) ?_
    ·go_simp
     go_at_call 40
     refine (num_b.lg hL2 hB1_ (rF_gb hr2 hHeld.1) hc2 hz2).mono ?_
     rintro e z2 ⟨v2, y2, b2_, rfl, ⟨x2, hx2, he2, hv⟩, hB2_, hG2_, hL3⟩
     dsimp only
     injection hv with hv
     subst hv
     have hcq := hHeld.1.trans hG2_
     refine hkO hK ⟨hcq, trivial⟩ fun hHeld => ?_
     clear hK K
     refine rdN [19, 26] ?_
     refine rdC (fun K hK => ?_) ?_
     ·go_simp
      go_at_call 41
      refine (str_b.lg hL3 hB2_ (rF_gb hr3 hHeld.1) hc3 hz3).mono ?_
      rintro e z3 ⟨v3, y3, b3_, rfl, ⟨s3, he3, hv⟩, hB3_, hG3_, hL4⟩
      dsimp only
      injection hv with hv
      subst hv
      have hcq := hHeld.1.trans hG3_
      refine hkO hK ⟨hcq, trivial⟩ fun hHeld => ?_
      clear hK K
      refine rdN [24, 26] ?_
      refine rdC (fun K hK => ?_) ?_
      ·go_simp
       go_at_call 95
       refine (strs_b.lg hL4 hB3_ (rF_gb hr5 hHeld.1) hc5 hz5).mono ?_
       rintro e z5 ⟨v5, y5, b5_, rfl, ⟨L5, B5, e5, he5, hv, hl5⟩, hB5_, hG5_, hL5⟩
       dsimp only
       injection hv with hv
       subst hv
       have hw5 := hHeld.1.size
       have hcq := hHeld.1.trans hG5_
       refine hkO hK ⟨hcq, trivial⟩ fun hHeld => ?_
       clear hK K
       refine tkQ 25 ?_
       refine rdO 26 fun K hK => ?_
       go_simp
       generalize hxa : World.alloc _ _ = zA
       have hal : Below z5.heap.size z5 zA := by rw [← hxa]; exact (Below.refl _ _).alloc (Nat.le_refl _) _
       have hTv : Tgt zA z5.heap.size 0 vZ := by rw [← hxa]; exact Tgt.new z5 vZ.toArray _
       obtain ⟨gv, hgv⟩ : ∃ gv, gv = z5.heap.size := ⟨_, rfl⟩
       rw [← hgv] at hTv ⊢
       have hgvg : gv ≠ g := by have := hB5_.lt; omega
       have hgv2 : w2.heap.size ≤ gv := by rw [hgv]; exact hHeld.1.size
       have hBA := hB5_.below hal
       have hcq := hHeld.1.trans (GB.of hal)
       clear hxa
       replace hgv := Lib.hid hgv
       refine hkO hK ⟨hcq, trivial⟩ fun hHeld => ?_
       clear hK K
       refine rdO 27 fun K hK => ?_
       have hth := hTv.there (n := (#[.int .i64 x0, .bool o1, .int .i64 x2, .string s3, .slice none 0 0, .slice B5 L5.length e5] : Array Value).size) (Nat.le_refl _)
       have hfin := World.rangeAt_setCells_same zA gv 0 [.int .i64 x0, .bool o1, .int .i64 x2, .string s3, .slice none 0 0, .slice B5 L5.length e5] hth
       refine step_store_mid 75 _ _ rfl rfl gv 0 #[.int .i64 x0, .bool o1, .int .i64 x2, .string s3, .slice none 0 0, .slice B5 L5.length e5] rfl rfl hth (by kernel_rfl) (by simp [Value.oneCell']) ?_
       have hcq := GB.setv hHeld.1 hgv2 0 (#[.int .i64 x0, .bool o1, .int .i64 x2, .string s3, .slice none 0 0, .slice B5 L5.length e5] : Array Value).toList
       refine hkO hK ⟨hcq, trivial⟩ fun hHeld => ?_
       clear hK K
       refine wpAnyH_done (by kernel_rfl) ?_ _
       have hGl := hHeld.1
       clear hHeld
       repeat' ((fail_if_success at_builtin); first | go_skip | go_guarded | go_step)
       go_meet
       case rel => exact ⟨_, gv, y0, y1, y2, y3, y5, x0, x2, o1, s3, L5, B5, e5, b5_, rfl, (by first | rfl | (rw [hgv.out]) | (rw [hgv.out]; rfl)), hgv2, hTv.setAll rfl, hBA.setv hgvg, hGl, hL5, ⟨hx0, he0⟩, he1, ⟨hx2, he2⟩, he3, he5, rs_move hl5 hal (Or.inr (Nat.le_of_eq hgv.out.symm)) hw5⟩
      refine rdC (fun K hK => ?_) ?_
      ·go_simp
       generalize hxa : World.alloc _ _ = zA
       have hal : Below z3.heap.size z3 zA := by rw [← hxa]; exact (Below.refl _ _).alloc (Nat.le_refl _) _
       have hTv : Tgt zA z3.heap.size 0 vZ := by rw [← hxa]; exact Tgt.new z3 vZ.toArray _
       obtain ⟨gv, hgv⟩ : ∃ gv, gv = z3.heap.size := ⟨_, rfl⟩
       rw [← hgv] at hTv ⊢
       have hgvg : gv ≠ g := by have := hB3_.lt; omega
       have hgv2 : w2.heap.size ≤ gv := by rw [hgv]; exact hHeld.1.size
       have hBA := hB3_.below hal
       have hcq := hHeld.1.trans (GB.of hal)
       clear hxa
       replace hgv := Lib.hid hgv
       refine hkO hK ⟨hcq, trivial⟩ fun hHeld => ?_
       clear hK K
       refine rdO 24 fun K hK => ?_
       go_simp
       go_at_call 95
       refine (strs_b.lg hL4 hBA (rF_gb hr5 hHeld.1) hc5 hz5).mono ?_
       rintro e z5 ⟨v5, y5, b5_, rfl, ⟨L5, B5, e5, he5, hv, hl5⟩, hB5_, hG5_, hL5⟩
       dsimp only
       injection hv with hv
       subst hv
       have hw5 := hHeld.1.size
       have hgvS := hTv.lt
       replace hTv := hTv.f2 hG5_ hgvg
       have hcq := hHeld.1.trans hG5_
       refine hkO hK ⟨hcq, trivial⟩ fun hHeld => ?_
       clear hK K
       refine tkQ 25 ?_
       refine rdO 27 fun K hK => ?_
       have hth := hTv.there (n := (#[.int .i64 x0, .bool o1, .int .i64 x2, .string s3, .slice none 0 0, .slice B5 L5.length e5] : Array Value).size) (Nat.le_refl _)
       have hfin := World.rangeAt_setCells_same z5 gv 0 [.int .i64 x0, .bool o1, .int .i64 x2, .string s3, .slice none 0 0, .slice B5 L5.length e5] hth
       refine step_store_mid 75 _ _ rfl rfl gv 0 #[.int .i64 x0, .bool o1, .int .i64 x2, .string s3, .slice none 0 0, .slice B5 L5.length e5] rfl rfl hth (by kernel_rfl) (by simp [Value.oneCell']) ?_
       have hcq := GB.setv hHeld.1 hgv2 0 (#[.int .i64 x0, .bool o1, .int .i64 x2, .string s3, .slice none 0 0, .slice B5 L5.length e5] : Array Value).toList
       refine hkO hK ⟨hcq, trivial⟩ fun hHeld => ?_
       clear hK K
       refine wpAnyH_done (by kernel_rfl) ?_ _
       have hGl := hHeld.1
       clear hHeld
       repeat' ((fail_if_success at_builtin); first | go_skip | go_guarded | go_step)
       go_meet
       case rel => exact ⟨_, gv, y0, y1, y2, y3, y5, x0, x2, o1, s3, L5, B5, e5, b5_, rfl, (by first | rfl | (rw [hgv.out]) | (rw [hgv.out]; rfl)), hgv2, hTv.setAll rfl, hB5_.setv hgvg, hGl, hL5, ⟨hx0, he0⟩, he1, ⟨hx2, he2⟩, he3, he5, rs_move hl5 (Below.refl _ _) (Or.inl hgvS) hw5⟩
      exact AllReadyH.nil
     refine rdC (fun K hK => ?_) ?_
     ·go_simp
      generalize hxa : World.alloc _ _ = zA
      have hal : Below z2.heap.size z2 zA := by rw [← hxa]; exact (Below.refl _ _).alloc (Nat.le_refl _) _
      have hTv : Tgt zA z2.heap.size 0 vZ := by rw [← hxa]; exact Tgt.new z2 vZ.toArray _
      obtain ⟨gv, hgv⟩ : ∃ gv, gv = z2.heap.size := ⟨_, rfl⟩
      rw [← hgv] at hTv ⊢
      have hgvg : gv ≠ g := by have := hB2_.lt; omega
      have hgv2 : w2.heap.size ≤ gv := by rw [hgv]; exact hHeld.1.size
      have hBA := hB2_.below hal
      have hcq := hHeld.1.trans (GB.of hal)
      clear hxa
      replace hgv := Lib.hid hgv
      refine hkO hK ⟨hcq, trivial⟩ fun hHeld => ?_
      clear hK K
      refine rdO 19 fun K hK => ?_
      go_simp
      go_at_call 41
      refine (str_b.lg hL3 hBA (rF_gb hr3 hHeld.1) hc3 hz3).mono ?_
      rintro e z3 ⟨v3, y3, b3_, rfl, ⟨s3, he3, hv⟩, hB3_, hG3_, hL4⟩
      dsimp only
      injection hv with hv
      subst hv
      replace hTv := hTv.f2 hG3_ hgvg
      have hcq := hHeld.1.trans hG3_
      refine hkO hK ⟨hcq, trivial⟩ fun hHeld => ?_
      clear hK K
      refine rdO 24 fun K hK => ?_
      go_simp
      go_at_call 95
      refine (strs_b.lg hL4 hB3_ (rF_gb hr5 hHeld.1) hc5 hz5).mono ?_
      rintro e z5 ⟨v5, y5, b5_, rfl, ⟨L5, B5, e5, he5, hv, hl5⟩, hB5_, hG5_, hL5⟩
      dsimp only
      injection hv with hv
      subst hv
      have hw5 := hHeld.1.size
      have hgvS := hTv.lt
      replace hTv := hTv.f2 hG5_ hgvg
      have hcq := hHeld.1.trans hG5_
      refine hkO hK ⟨hcq, trivial⟩ fun hHeld => ?_
      clear hK K
      refine tkQ 25 ?_
      refine rdO 27 fun K hK => ?_
      have hth := hTv.there (n := (#[.int .i64 x0, .bool o1, .int .i64 x2, .string s3, .slice none 0 0, .slice B5 L5.length e5] : Array Value).size) (Nat.le_refl _)
      have hfin := World.rangeAt_setCells_same z5 gv 0 [.int .i64 x0, .bool o1, .int .i64 x2, .string s3, .slice none 0 0, .slice B5 L5.length e5] hth
      refine step_store_mid 75 _ _ rfl rfl gv 0 #[.int .i64 x0, .bool o1, .int .i64 x2, .string s3, .slice none 0 0, .slice B5 L5.length e5] rfl rfl hth (by kernel_rfl) (by simp [Value.oneCell']) ?_
      have hcq := GB.setv hHeld.1 hgv2 0 (#[.int .i64 x0, .bool o1, .int .i64 x2, .string s3, .slice none 0 0, .slice B5 L5.length e5] : Array Value).toList
      refine hkO hK ⟨hcq, trivial⟩ fun hHeld => ?_
      clear hK K
      refine wpAnyH_done (by kernel_rfl) ?_ _
      have hGl := hHeld.1
      clear hHeld
      repeat' ((fail_if_success at_builtin); first | go_skip | go_guarded | go_step)
      go_meet
      case rel => exact ⟨_, gv, y0, y1, y2, y3, y5, x0, x2, o1, s3, L5, B5, e5, b5_, rfl, (by first | rfl | (rw [hgv.out]) | (rw [hgv.out]; rfl)), hgv2, hTv.setAll rfl, hB5_.setv hgvg, hGl, hL5, ⟨hx0, he0⟩, he1, ⟨hx2, he2⟩, he3, he5, rs_move hl5 (Below.refl _ _) (Or.inl hgvS) hw5⟩
     exact AllReadyH.nil
    refine rdC (fun K hK => ?_) ?_
    ·go_simp
     generalize hxa : World.alloc _ _ = zA
     have hal : Below z1.heap.size z1 zA := by rw [← hxa]; exact (Below.refl _ _).alloc (Nat.le_refl _) _
     have hTv : Tgt zA z1.heap.size 0 vZ := by rw [← hxa]; exact Tgt.new z1 vZ.toArray _
     obtain ⟨gv, hgv⟩ : ∃ gv, gv = z1.heap.size := ⟨_, rfl⟩
     rw [← hgv] at hTv ⊢
     have hgvg : gv ≠ g := by have := hB1_.lt; omega
     have hgv2 : w2.heap.size ≤ gv := by rw [hgv]; exact hHeld.1.size
     have hBA := hB1_.below hal
     have hcq := hHeld.1.trans (GB.of hal)
     clear hxa
     replace hgv := Lib.hid hgv
     refine hkO hK ⟨hcq, trivial⟩ fun hHeld => ?_
     clear hK K
     refine rdO 14 fun K hK => ?_
     go_simp
     go_at_call 40
     refine (num_b.lg hL2 hBA (rF_gb hr2 hHeld.1) hc2 hz2).mono ?_
     rintro e z2 ⟨v2, y2, b2_, rfl, ⟨x2, hx2, he2, hv⟩, hB2_, hG2_, hL3⟩
     dsimp only
     injection hv with hv
     subst hv
     replace hTv := hTv.f2 hG2_ hgvg
     have hcq := hHeld.1.trans hG2_
     refine hkO hK ⟨hcq, trivial⟩ fun hHeld => ?_
     clear hK K
     refine rdO 19 fun K hK => ?_
     go_simp
     go_at_call 41
     refine (str_b.lg hL3 hB2_ (rF_gb hr3 hHeld.1) hc3 hz3).mono ?_
     rintro e z3 ⟨v3, y3, b3_, rfl, ⟨s3, he3, hv⟩, hB3_, hG3_, hL4⟩
     dsimp only
     injection hv with hv
     subst hv
     replace hTv := hTv.f2 hG3_ hgvg
     have hcq := hHeld.1.trans hG3_
     refine hkO hK ⟨hcq, trivial⟩ fun hHeld => ?_
     clear hK K
     refine rdO 24 fun K hK => ?_
     go_simp
     go_at_call 95
     refine (strs_b.lg hL4 hB3_ (rF_gb hr5 hHeld.1) hc5 hz5).mono ?_
     rintro e z5 ⟨v5, y5, b5_, rfl, ⟨L5, B5, e5, he5, hv, hl5⟩, hB5_, hG5_, hL5⟩
     dsimp only
     injection hv with hv
     subst hv
     have hw5 := hHeld.1.size
     have hgvS := hTv.lt
     replace hTv := hTv.f2 hG5_ hgvg
     have hcq := hHeld.1.trans hG5_
     refine hkO hK ⟨hcq, trivial⟩ fun hHeld => ?_
     clear hK K
     refine tkQ 25 ?_
     refine rdO 27 fun K hK => ?_
     have hth := hTv.there (n := (#[.int .i64 x0, .bool o1, .int .i64 x2, .string s3, .slice none 0 0, .slice B5 L5.length e5] : Array Value).size) (Nat.le_refl _)
     have hfin := World.rangeAt_setCells_same z5 gv 0 [.int .i64 x0, .bool o1, .int .i64 x2, .string s3, .slice none 0 0, .slice B5 L5.length e5] hth
     refine step_store_mid 75 _ _ rfl rfl gv 0 #[.int .i64 x0, .bool o1, .int .i64 x2, .string s3, .slice none 0 0, .slice B5 L5.length e5] rfl rfl hth (by kernel_rfl) (by simp [Value.oneCell']) ?_
     have hcq := GB.setv hHeld.1 hgv2 0 (#[.int .i64 x0, .bool o1, .int .i64 x2, .string s3, .slice none 0 0, .slice B5 L5.length e5] : Array Value).toList
     refine hkO hK ⟨hcq, trivial⟩ fun hHeld => ?_
     clear hK K
     refine wpAnyH_done (by kernel_rfl) ?_ _
     have hGl := hHeld.1
     clear hHeld
     repeat' ((fail_if_success at_builtin); first | go_skip | go_guarded | go_step)
     go_meet
     case rel => exact ⟨_, gv, y0, y1, y2, y3, y5, x0, x2, o1, s3, L5, B5, e5, b5_, rfl, (by first | rfl | (rw [hgv.out]) | (rw [hgv.out]; rfl)), hgv2, hTv.setAll rfl, hB5_.setv hgvg, hGl, hL5, ⟨hx0, he0⟩, he1, ⟨hx2, he2⟩, he3, he5, rs_move hl5 (Below.refl _ _) (Or.inl hgvS) hw5⟩
    exact AllReadyH.nil
   refine rdC (fun K hK => ?_) ?_
   ·go_simp
    generalize hxa : World.alloc _ _ = zA
    have hal : Below z0.heap.size z0 zA := by rw [← hxa]; exact (Below.refl _ _).alloc (Nat.le_refl _) _
    have hTv : Tgt zA z0.heap.size 0 vZ := by rw [← hxa]; exact Tgt.new z0 vZ.toArray _
    obtain ⟨gv, hgv⟩ : ∃ gv, gv = z0.heap.size := ⟨_, rfl⟩
    rw [← hgv] at hTv ⊢
    have hgvg : gv ≠ g := by have := hB0_.lt; omega
    have hgv2 : w2.heap.size ≤ gv := by rw [hgv]; exact hHeld.1.size
    have hBA := hB0_.below hal
    have hcq := hHeld.1.trans (GB.of hal)
    clear hxa
    replace hgv := Lib.hid hgv
    refine hkO hK ⟨hcq, trivial⟩ fun hHeld => ?_
    clear hK K
    refine rdO 9 fun K hK => ?_
    go_simp
    go_at_call 91
    refine (flag_b.lg hL1 hBA (rF_gb hr1 hHeld.1) hc1 hz1).mono ?_
    rintro e z1 ⟨v1, y1, b1_, rfl, ⟨o1, he1, hv⟩, hB1_, hG1_, hL2⟩
    dsimp only
    injection hv with hv
    subst hv
    replace hTv := hTv.f2 hG1_ hgvg
    have hcq := hHeld.1.trans hG1_
    refine hkO hK ⟨hcq, trivial⟩ fun hHeld => ?_
    clear hK K
    refine rdO 14 fun K hK => ?_
    go_simp
    go_at_call 40
    refine (num_b.lg hL2 hB1_ (rF_gb hr2 hHeld.1) hc2 hz2).mono ?_
    rintro e z2 ⟨v2, y2, b2_, rfl, ⟨x2, hx2, he2, hv⟩, hB2_, hG2_, hL3⟩
    dsimp only
    injection hv with hv
    subst hv
    replace hTv := hTv.f2 hG2_ hgvg
    have hcq := hHeld.1.trans hG2_
    refine hkO hK ⟨hcq, trivial⟩ fun hHeld => ?_
    clear hK K
    refine rdO 19 fun K hK => ?_
    go_simp
    go_at_call 41
    refine (str_b.lg hL3 hB2_ (rF_gb hr3 hHeld.1) hc3 hz3).mono ?_
    rintro e z3 ⟨v3, y3, b3_, rfl, ⟨s3, he3, hv⟩, hB3_, hG3_, hL4⟩
    dsimp only
    injection hv with hv
    subst hv
    replace hTv := hTv.f2 hG3_ hgvg
    have hcq := hHeld.1.trans hG3_
    refine hkO hK ⟨hcq, trivial⟩ fun hHeld => ?_
    clear hK K
    refine rdO 24 fun K hK => ?_
    go_simp
    go_at_call 95
    refine (strs_b.lg hL4 hB3_ (rF_gb hr5 hHeld.1) hc5 hz5).mono ?_
    rintro e z5 ⟨v5, y5, b5_, rfl, ⟨L5, B5, e5, he5, hv, hl5⟩, hB5_, hG5_, hL5⟩
    dsimp only
    injection hv with hv
    subst hv
    have hw5 := hHeld.1.size
    have hgvS := hTv.lt
    replace hTv := hTv.f2 hG5_ hgvg
    have hcq := hHeld.1.trans hG5_
    refine hkO hK ⟨hcq, trivial⟩ fun hHeld => ?_
    clear hK K
    refine tkQ 25 ?_
    refine rdO 27 fun K hK => ?_
    have hth := hTv.there (n := (#[.int .i64 x0, .bool o1, .int .i64 x2, .string s3, .slice none 0 0, .slice B5 L5.length e5] : Array Value).size) (Nat.le_refl _)
    have hfin := World.rangeAt_setCells_same z5 gv 0 [.int .i64 x0, .bool o1, .int .i64 x2, .string s3, .slice none 0 0, .slice B5 L5.length e5] hth
    refine step_store_mid 75 _ _ rfl rfl gv 0 #[.int .i64 x0, .bool o1, .int .i64 x2, .string s3, .slice none 0 0, .slice B5 L5.length e5] rfl rfl hth (by kernel_rfl) (by simp [Value.oneCell']) ?_
    have hcq := GB.setv hHeld.1 hgv2 0 (#[.int .i64 x0, .bool o1, .int .i64 x2, .string s3, .slice none 0 0, .slice B5 L5.length e5] : Array Value).toList
    refine hkO hK ⟨hcq, trivial⟩ fun hHeld => ?_
    clear hK K
    refine wpAnyH_done (by kernel_rfl) ?_ _
    have hGl := hHeld.1
    clear hHeld
    repeat' ((fail_if_success at_builtin); first | go_skip | go_guarded | go_step)
    go_meet
    case rel => exact ⟨_, gv, y0, y1, y2, y3, y5, x0, x2, o1, s3, L5, B5, e5, b5_, rfl, (by first | rfl | (rw [hgv.out]) | (rw [hgv.out]; rfl)), hgv2, hTv.setAll rfl, hB5_.setv hgvg, hGl, hL5, ⟨hx0, he0⟩, he1, ⟨hx2, he2⟩, he3, he5, rs_move hl5 (Below.refl _ _) (Or.inl hgvS) hw5⟩
   exact AllReadyH.nil
  refine rdC (fun K hK => ?_) ?_
  ·go_simp
   generalize hxa : World.drew _ = zA
   have hal : Below w2.heap.size w2 zA := by rw [← hxa]; exact ((Below.refl _ _).alloc (Nat.le_refl _) _).drew
   have hTv : Tgt zA w2.heap.size 0 vZ := by
    rw [← hxa]
    have q := Tgt.new w2 vZ.toArray 75
    exact ⟨q.lt, q.at_, q.fr⟩
   obtain ⟨gv, hgv⟩ : ∃ gv, gv = w2.heap.size := ⟨_, rfl⟩
   rw [← hgv] at hTv ⊢
   have hgvg : gv ≠ g := by have h9 : g < w2.heap.size := hBd.lt; omega
   have hgv2 : w2.heap.size ≤ gv := Nat.le_of_eq hgv.symm
   have hBA := BK.below (⟨hBd.lt, hBd.c, hBd.fr⟩ : BK w2 g b2) hal
   have hcq : GB w2 zA g := GB.of hal
   clear hxa
   replace hgv := Lib.hid hgv
   refine hkO hK ⟨hcq, trivial⟩ fun hHeld => ?_
   clear hK K
   refine rdO 4 fun K hK => ?_
   go_simp
   go_at_call 40
   refine (num_b.lg (LG.nil b2) hBA (rF_gb hr0 hHeld.1) hc0 hz0).mono ?_
   rintro e z0 ⟨v0, y0, b0_, rfl, ⟨x0, hx0, he0, hv⟩, hB0_, hG0_, hL1⟩
   dsimp only
   injection hv with hv
   subst hv
   replace hTv := hTv.f2 hG0_ hgvg
   have hcq := hHeld.1.trans hG0_
   refine hkO hK ⟨hcq, trivial⟩ fun hHeld => ?_
   clear hK K
   refine rdO 9 fun K hK => ?_
   go_simp
   go_at_call 91
   refine (flag_b.lg hL1 hB0_ (rF_gb hr1 hHeld.1) hc1 hz1).mono ?_
   rintro e z1 ⟨v1, y1, b1_, rfl, ⟨o1, he1, hv⟩, hB1_, hG1_, hL2⟩
   dsimp only
   injection hv with hv
   subst hv
   replace hTv := hTv.f2 hG1_ hgvg
   have hcq := hHeld.1.trans hG1_
   refine hkO hK ⟨hcq, trivial⟩ fun hHeld => ?_
   clear hK K
   refine rdO 14 fun K hK => ?_
   go_simp
   go_at_call 40
   refine (num_b.lg hL2 hB1_ (rF_gb hr2 hHeld.1) hc2 hz2).mono ?_
   rintro e z2 ⟨v2, y2, b2_, rfl, ⟨x2, hx2, he2, hv⟩, hB2_, hG2_, hL3⟩
   dsimp only
   injection hv with hv
   subst hv
   replace hTv := hTv.f2 hG2_ hgvg
   have hcq := hHeld.1.trans hG2_
   refine hkO hK ⟨hcq, trivial⟩ fun hHeld => ?_
   clear hK K
   refine rdO 19 fun K hK => ?_
   go_simp
   go_at_call 41
   refine (str_b.lg hL3 hB2_ (rF_gb hr3 hHeld.1) hc3 hz3).mono ?_
   rintro e z3 ⟨v3, y3, b3_, rfl, ⟨s3, he3, hv⟩, hB3_, hG3_, hL4⟩
   dsimp only
   injection hv with hv
   subst hv
   replace hTv := hTv.f2 hG3_ hgvg
   have hcq := hHeld.1.trans hG3_
   refine hkO hK ⟨hcq, trivial⟩ fun hHeld => ?_
   clear hK K
   refine rdO 24 fun K hK => ?_
   go_simp
   go_at_call 95
   refine (strs_b.lg hL4 hB3_ (rF_gb hr5 hHeld.1) hc5 hz5).mono ?_
   rintro e z5 ⟨v5, y5, b5_, rfl, ⟨L5, B5, e5, he5, hv, hl5⟩, hB5_, hG5_, hL5⟩
   dsimp only
   injection hv with hv
   subst hv
   have hw5 := hHeld.1.size
   have hgvS := hTv.lt
   replace hTv := hTv.f2 hG5_ hgvg
   have hcq := hHeld.1.trans hG5_
   refine hkO hK ⟨hcq, trivial⟩ fun hHeld => ?_
   clear hK K
   refine tkQ 25 ?_
   refine rdO 27 fun K hK => ?_
   have hth := hTv.there (n := (#[.int .i64 x0, .bool o1, .int .i64 x2, .string s3, .slice none 0 0, .slice B5 L5.length e5] : Array Value).size) (Nat.le_refl _)
   have hfin := World.rangeAt_setCells_same z5 gv 0 [.int .i64 x0, .bool o1, .int .i64 x2, .string s3, .slice none 0 0, .slice B5 L5.length e5] hth
   refine step_store_mid 75 _ _ rfl rfl gv 0 #[.int .i64 x0, .bool o1, .int .i64 x2, .string s3, .slice none 0 0, .slice B5 L5.length e5] rfl rfl hth (by kernel_rfl) (by simp [Value.oneCell']) ?_
   have hcq := GB.setv hHeld.1 hgv2 0 (#[.int .i64 x0, .bool o1, .int .i64 x2, .string s3, .slice none 0 0, .slice B5 L5.length e5] : Array Value).toList
   refine hkO hK ⟨hcq, trivial⟩ fun hHeld => ?_
   clear hK K
   refine wpAnyH_done (by kernel_rfl) ?_ _
   have hGl := hHeld.1
   clear hHeld
   repeat' ((fail_if_success at_builtin); first | go_skip | go_guarded | go_step)
   go_meet
   case rel => exact ⟨_, gv, y0, y1, y2, y3, y5, x0, x2, o1, s3, L5, B5, e5, b5_, rfl, (by first | rfl | (rw [hgv.out]) | (rw [hgv.out]; rfl)), hgv2, hTv.setAll rfl, hB5_.setv hgvg, hGl, hL5, ⟨hx0, he0⟩, he1, ⟨hx2, he2⟩, he3, he5, rs_move hl5 (Below.refl _ _) (Or.inl hgvS) hw5⟩
  exact AllReadyH.nil
 case rest =>
  obtain ⟨wq, gv, y0, y1, y2, y3, y5, x0, x2, o1, s3, L5, B5, e5, b5, rfl, rfl, hgv, hTx, hBx, hGx, hLx, hx0, hy1, hx2, hy3, hy5, hr5⟩ := hcut
  have hgne : gv ≠ g := by omega
  have hA4x := range_gb hA4 hGx hq1 hq2
  have hr4x : rF wq (fun x => x < w2.heap.size ∧ x ≠ g) p4 (fC p4 a4 k4_) := rF_ok _ _ _ _ _ _ (fun p hp => hGx.cell hp.1 hp.2) (fun x hx => hx) hr4
  have hTB := hT2.f2 hGx (by omega)
  have hsx := hGx.size
  clear hA0 hA1 hA2 hA3 hA5 hr0 hr1 hr2 hr3 hBd hT2 hB2 hA4 hr4
  have hps := parts_of hr4x
  have hps4 : p4.2.2.2.length ≤ 1000000000 := by
   have h9 := Flds.length_le_size p4.2.2.2
   rcases hz4 with h | h
   ·unfold fsz at h hN; omega
   ·rw [h]; decide
  repeat' (first | (refine wpList_load_mid rfl 98 _ rfl bq (oq + 16) rfl (fC p4 a4 k4_) _ hA4x Tryz.underlying98 rfl fld_sz ?_) | go_skip | go_guarded | go_step)
  refine (bseq_any wq g b5 p4 a4 k4_ hBx).mono ?_
  rintro e w4 ⟨rfl, hB4, hG4⟩
  dsimp only
  have hs4 := hG4.size
  have hT4 := hTx.f2 hG4 hgne
  have hTB4 := hTB.f2 hG4 (by omega)
  have hps4' := fsl_gbS hps hG4 (fun x hx => ⟨by have := hx.1; omega, hx.2⟩)
  have hgv4 := hT4.lt
  obtain ⟨n, hn⟩ : ∃ n, n = p4.2.2.2.length := ⟨_, rfl⟩
  rw [← hn] at hps4 ⊢
  have hll : (toL p4.2.2.2).length = n := by rw [toL_length, hn]
  replace hn := Lib.hid hn
  have hr5 := Lib.hid hr5
  clear hps hA4x hr4x hTB hBx
  repeat' (first | go_skip | go_guarded | go_step)
  go_loopw [8] (fun u8 wr => ∃ (i : Nat) (vs : List FV) (bi : Bool) (v4 : Value), i ≤ n ∧ u8 = .int .i64 (i : Int) ∧ vs.length = i ∧ BK wr g bi ∧ F2 w4 wr g gv ∧ Tgt wr gv 0 [.int .i64 x0, .bool o1, .int .i64 x2, .string s3, v4, .slice B5 L5.length e5] ∧ OL .value w4.heap.size wr 75 v4 vs ∧ (bi = false → (b5 || !(p4.1 == 2)) = false ∧ (∀ y ∈ (toL p4.2.2.2).take i, FitV y) ∧ vs = (toL p4.2.2.2).take i) ∧ ((b5 || !(p4.1 == 2)) = false → (∀ y ∈ (toL p4.2.2.2).take i, FitV y) → bi = false)) (fun u8 _ => n - (intOf u8).toNat)
  case atStart => exact ⟨0, [], _, .slice none 0 0, by omega, rfl, rfl, hB4, F2.refl _ _ _, hT4, OL.nil (Nat.le_refl _), fun hb => ⟨hb, by simp, by simp⟩, fun hb _ => hb⟩
  case round =>
   obtain ⟨i, vs, bi, v4, hin, rfl, hvl, hB, hF, hT, hOL, n1, n2⟩ := hrel
   replace n1 := Lib.hid n1
   replace n2 := Lib.hid n2
   obtain ⟨A5, c5, rfl⟩ := hOL.form
   have hg4 : g < w4.heap.size := by omega
   by_cases hlt : i < n
   ·have hd : (decide ((i : Int) < n)) = true := by simp; omega
    obtain ⟨y, hx⟩ : ∃ y, (toL p4.2.2.2)[i]? = some y := ⟨(toL p4.2.2.2)[i]'(by omega), List.getElem?_eq_getElem _⟩
    obtain ⟨br, or_, Ay, cy, rfl, hS, hry, hra⟩ := fsl_at hps4' hx
    have hry : rF w4 (fun x => x < w4.heap.size ∧ x ≠ g ∧ x ≠ gv) y (fC y Ay cy) := rF_ok _ _ _ _ _ _ (fun _ _ => rfl) (fun x hx => ⟨by have := hx.1; omega, hx.2, by have := hx.1; omega⟩) hry
    have hym : y ∈ toL p4.2.2.2 := List.mem_iff_getElem?.2 ⟨i, hx⟩
    have hyz := fsz_toL hym
    have hyN : fsz y < N := by
     rcases hz4 with h | h
     ·omega
     ·rw [h] at hym; exact absurd hym (by intro h; cases h)
    have hyc := cln_mem (cl1_list hc4) y hym
    have hr1 : br < w4.heap.size := by have := hS.1; omega
    have hr2 : br ≠ g := hS.2
    have hr3 : br ≠ gv := by have := hS.1; omega
    replace hx := Lib.hid hx
    replace hll := Lib.hid hll
    rw [hvl] at hOL hT
    have hOLlo := hOL.lo
    have hBd : BK wr.drew g bi := ⟨hB.lt, hB.c, hB.fr⟩
    have hTd : Tgt wr.drew gv 0 [.int .i64 x0, .bool o1, .int .i64 x2, .string s3, (.slice A5 i c5), .slice B5 L5.length e5] := ⟨hT.lt, hT.at_, hT.fr⟩
    have hOLd : OL .value w4.heap.size wr.drew 75 (.slice A5 i c5) vs := hOL.gb Cod.value_ok hg4 (GB.of ((Below.refl wr.heap.size wr).drew))
    clear hym hps4' hB hT hOL hT4 hTB4
    go_upto_region 7 with (fail)
    refine wp_region_held_drew (S := fun w' => F2 w4 w' g gv ∧ True) (by kernel_rfl) ?_ (fun hHeld => ?_)
    ·(try dsimp only)
     exact ⟨hF.drew, trivial⟩
    refine tkQ 0 ?_
    refine tkQ 2 ?_
    refine tkQ 3 ?_
    refine tkQ 4 ?_
    refine tkQ 5 ?_
    refine tkV 6 (v := .agg (fC y Ay cy).toArray) rfl (yieldsIf_load_mid (by rfl) 98 _ rfl br (or_ + i * 4) rfl (fC y Ay cy) _ (fun v h => F2.range hra h.1 hr1 hr2 hr3) Tryz.underlying98 rfl fld_sz) ?_
    refine rdN [1, 7] ?_
    refine rdC (fun K hK => ?_) ?_
    ·have hl4 : wr.drew.cell? ⟨gv, 4, none⟩ = some (.slice A5 i c5) := hTd.at_ 4 _ rfl
     go_simp
     have hcq := hHeld.1
     refine hkO hK ⟨hcq, trivial⟩ fun hHeld => ?_
     clear hK K
     refine rdO 7 fun K hK => ?_
     go_simp
     go_at_call 92
     refine (ih (fsz y) hyN _ g bi y Ay cy hBd (F2.rF hry hHeld.1) hyc (Nat.le_refl _)).mono ?_
     rintro e z1 ⟨cs, rfl, y1_, b1_, hB1_, hG1_, hrp, m1, m2⟩
     obtain ⟨vk, vb, vi, vs_, vA, vn, vc, vA2, vn2, vc2, rfl⟩ := value_form hrp
     dsimp only
     have hT1_ := hTd.f2 hG1_ hgne
     have hOL1_ := hOLd.gb Cod.value_ok hg4 hG1_
     replace m1 := Lib.hid m1
     replace m2 := Lib.hid m2
     have hw1 : w4.heap.size ≤ (wr.drew).heap.size := hHeld.1.size
     have hcq := hHeld.1.gb hG1_
     refine hkO hK ⟨hcq, trivial⟩ fun hHeld => ?_
     clear hK K
     refine rdO 8 fun K hK => ?_
     go_simp
     have hT2_ := hT1_.f2 (GB.of ((Below.refl z1.heap.size z1).alloc (Nat.le_refl _) (.cells #[.int .i64 vk, .bool vb, .int .i64 vi, .string vs_, .slice vA vn vc, .slice vA2 vn2 vc2] 75))) hgne
     have hFz := hHeld.1
     have hcq := hHeld.1.gb (GB.of (g := g) ((Below.refl z1.heap.size z1).alloc (Nat.le_refl _) (.cells #[.int .i64 vk, .bool vb, .int .i64 vi, .string vs_, .slice vA vn vc, .slice vA2 vn2 vc2] 75)))
     refine hkO hK ⟨hcq, trivial⟩ fun hHeld => ?_
     clear hK K
     refine rdO 9 fun K hK => ?_
     have hlo1 : ∀ b, Fresh wr.drew z1 b → w4.heap.size ≤ b := fun b hb => Nat.le_trans hw1 hb.1
     have hne1 : ∀ b, Fresh wr.drew z1 b → some b ≠ Value.ownBlock (.slice A5 i c5) := fun b hb he => by have h1 := hOLlo b he.symm; have h2 : wr.heap.size ≤ b := hb.1; omega
     refine OL.step Cod.value_ok hOL1_ (Below.refl _ _) (x := y1_) (cs := #[.int .i64 vk, .bool vb, .int .i64 vi, .string vs_, .slice vA vn vc, .slice vA2 vn2 vc2]) (Cod.value_ok.map _ _ _ _ _ _ (fun _ _ => rfl) (fun b hb => ⟨hlo1 b hb, hb.2, hne1 b hb⟩) hrp) Tryz.underlying73 val_info (by omega) ?_
     intro v9 w9 hOL9 hbw9 hs9 hk9
     have hl9 : (vs ++ [y1_]).length = i + 1 := by rw [List.length_append, hvl]; rfl
     obtain ⟨A9, c9, hv9⟩ := hOL9.form
     rw [hl9] at hv9
     subst hv9
     have hcq := hFz.low hbw9 hs9
     refine hkO hK ⟨hcq, trivial⟩ fun hHeld => ?_
     clear hK K
     refine tkQ 10 ?_
     refine rdO 11 fun K hK => ?_
     have hT9 := hT1_.low hbw9 hgv4 hs9
     have hc9 : w9.cell? ⟨gv, 4, none⟩ = some (.slice A5 i c5) := hT9.at_ 4 _ rfl
     have hf9 : w9.frozen? ⟨gv, 4, none⟩ = false := hT9.fr 4
     go_simp
     have hcq := hHeld.1.setc 4 (.slice A9 (i + 1) c9)
     refine hkO hK ⟨hcq, trivial⟩ fun hHeld => ?_
     clear hK K
     refine wpAnyH_done (by kernel_rfl) ?_ _
     have hFf := hHeld.1
     clear hHeld
     repeat' (first | go_skip | go_guarded | go_step)
     go_roundw
     case rel =>
      obtain ⟨e1, e2⟩ := seq_step hx.out n1.out n2.out m1.out m2.out
      exact ⟨i + 1, vs ++ [y1_], b1_, _, by omega, by go_num, hl9, (hB1_.low hbw9 hg4 hs9).setc1 hgne, hFf, hT9.setc (j := 4) (by show 4 < 6; decide) _, hOL9.gb Cod.value_ok hgv4 (setCell_grown w9 gv 4 _), e1, e2⟩
     case measure => simp [intOf]; omega
    refine rdC (fun K hK => ?_) ?_
    ·go_simp
     go_at_call 92
     refine (ih (fsz y) hyN _ g bi y Ay cy hBd (F2.rF hry hHeld.1) hyc (Nat.le_refl _)).mono ?_
     rintro e z1 ⟨cs, rfl, y1_, b1_, hB1_, hG1_, hrp, m1, m2⟩
     obtain ⟨vk, vb, vi, vs_, vA, vn, vc, vA2, vn2, vc2, rfl⟩ := value_form hrp
     dsimp only
     have hT1_ := hTd.f2 hG1_ hgne
     have hOL1_ := hOLd.gb Cod.value_ok hg4 hG1_
     replace m1 := Lib.hid m1
     replace m2 := Lib.hid m2
     have hw1 : w4.heap.size ≤ (wr.drew).heap.size := hHeld.1.size
     have hcq := hHeld.1.gb hG1_
     refine hkO hK ⟨hcq, trivial⟩ fun hHeld => ?_
     clear hK K
     refine rdN [1, 8] ?_
     refine rdC (fun K hK => ?_) ?_
     ·have hl4 : z1.cell? ⟨gv, 4, none⟩ = some (.slice A5 i c5) := hT1_.at_ 4 _ rfl
      go_simp
      have hcq := hHeld.1
      refine hkO hK ⟨hcq, trivial⟩ fun hHeld => ?_
      clear hK K
      refine rdO 8 fun K hK => ?_
      go_simp
      have hT2_ := hT1_.f2 (GB.of ((Below.refl z1.heap.size z1).alloc (Nat.le_refl _) (.cells #[.int .i64 vk, .bool vb, .int .i64 vi, .string vs_, .slice vA vn vc, .slice vA2 vn2 vc2] 75))) hgne
      have hFz := hHeld.1
      have hcq := hHeld.1.gb (GB.of (g := g) ((Below.refl z1.heap.size z1).alloc (Nat.le_refl _) (.cells #[.int .i64 vk, .bool vb, .int .i64 vi, .string vs_, .slice vA vn vc, .slice vA2 vn2 vc2] 75)))
      refine hkO hK ⟨hcq, trivial⟩ fun hHeld => ?_
      clear hK K
      refine rdO 9 fun K hK => ?_
      have hlo1 : ∀ b, Fresh wr.drew z1 b → w4.heap.size ≤ b := fun b hb => Nat.le_trans hw1 hb.1
      have hne1 : ∀ b, Fresh wr.drew z1 b → some b ≠ Value.ownBlock (.slice A5 i c5) := fun b hb he => by have h1 := hOLlo b he.symm; have h2 : wr.heap.size ≤ b := hb.1; omega
      refine OL.step Cod.value_ok hOL1_ (Below.refl _ _) (x := y1_) (cs := #[.int .i64 vk, .bool vb, .int .i64 vi, .string vs_, .slice vA vn vc, .slice vA2 vn2 vc2]) (Cod.value_ok.map _ _ _ _ _ _ (fun _ _ => rfl) (fun b hb => ⟨hlo1 b hb, hb.2, hne1 b hb⟩) hrp) Tryz.underlying73 val_info (by omega) ?_
      intro v9 w9 hOL9 hbw9 hs9 hk9
      have hl9 : (vs ++ [y1_]).length = i + 1 := by rw [List.length_append, hvl]; rfl
      obtain ⟨A9, c9, hv9⟩ := hOL9.form
      rw [hl9] at hv9
      subst hv9
      have hcq := hFz.low hbw9 hs9
      refine hkO hK ⟨hcq, trivial⟩ fun hHeld => ?_
      clear hK K
      refine tkQ 10 ?_
      refine rdO 11 fun K hK => ?_
      have hT9 := hT1_.low hbw9 hgv4 hs9
      have hc9 : w9.cell? ⟨gv, 4, none⟩ = some (.slice A5 i c5) := hT9.at_ 4 _ rfl
      have hf9 : w9.frozen? ⟨gv, 4, none⟩ = false := hT9.fr 4
      go_simp
      have hcq := hHeld.1.setc 4 (.slice A9 (i + 1) c9)
      refine hkO hK ⟨hcq, trivial⟩ fun hHeld => ?_
      clear hK K
      refine wpAnyH_done (by kernel_rfl) ?_ _
      have hFf := hHeld.1
      clear hHeld
      repeat' (first | go_skip | go_guarded | go_step)
      go_roundw
      case rel =>
       obtain ⟨e1, e2⟩ := seq_step hx.out n1.out n2.out m1.out m2.out
       exact ⟨i + 1, vs ++ [y1_], b1_, _, by omega, by go_num, hl9, (hB1_.low hbw9 hg4 hs9).setc1 hgne, hFf, hT9.setc (j := 4) (by show 4 < 6; decide) _, hOL9.gb Cod.value_ok hgv4 (setCell_grown w9 gv 4 _), e1, e2⟩
      case measure => simp [intOf]; omega
     refine rdC (fun K hK => ?_) ?_
     ·go_simp
      have hT2_ := hT1_.f2 (GB.of ((Below.refl z1.heap.size z1).alloc (Nat.le_refl _) (.cells #[.int .i64 vk, .bool vb, .int .i64 vi, .string vs_, .slice vA vn vc, .slice vA2 vn2 vc2] 75))) hgne
      have hFz := hHeld.1
      have hcq := hHeld.1.gb (GB.of (g := g) ((Below.refl z1.heap.size z1).alloc (Nat.le_refl _) (.cells #[.int .i64 vk, .bool vb, .int .i64 vi, .string vs_, .slice vA vn vc, .slice vA2 vn2 vc2] 75)))
      refine hkO hK ⟨hcq, trivial⟩ fun hHeld => ?_
      clear hK K
      refine rdO 1 fun K hK => ?_
      have hl4 : (World.alloc z1 (.cells #[.int .i64 vk, .bool vb, .int .i64 vi, .string vs_, .slice vA vn vc, .slice vA2 vn2 vc2] 75)).cell? ⟨gv, 4, none⟩ = some (.slice A5 i c5) := hT2_.at_ 4 _ rfl
      go_simp
      have hcq := hHeld.1
      refine hkO hK ⟨hcq, trivial⟩ fun hHeld => ?_
      clear hK K
      refine rdO 9 fun K hK => ?_
      have hlo1 : ∀ b, Fresh wr.drew z1 b → w4.heap.size ≤ b := fun b hb => Nat.le_trans hw1 hb.1
      have hne1 : ∀ b, Fresh wr.drew z1 b → some b ≠ Value.ownBlock (.slice A5 i c5) := fun b hb he => by have h1 := hOLlo b he.symm; have h2 : wr.heap.size ≤ b := hb.1; omega
      refine OL.step Cod.value_ok hOL1_ (Below.refl _ _) (x := y1_) (cs := #[.int .i64 vk, .bool vb, .int .i64 vi, .string vs_, .slice vA vn vc, .slice vA2 vn2 vc2]) (Cod.value_ok.map _ _ _ _ _ _ (fun _ _ => rfl) (fun b hb => ⟨hlo1 b hb, hb.2, hne1 b hb⟩) hrp) Tryz.underlying73 val_info (by omega) ?_
      intro v9 w9 hOL9 hbw9 hs9 hk9
      have hl9 : (vs ++ [y1_]).length = i + 1 := by rw [List.length_append, hvl]; rfl
      obtain ⟨A9, c9, hv9⟩ := hOL9.form
      rw [hl9] at hv9
      subst hv9
      have hcq := hFz.low hbw9 hs9
      refine hkO hK ⟨hcq, trivial⟩ fun hHeld => ?_
      clear hK K
      refine tkQ 10 ?_
      refine rdO 11 fun K hK => ?_
      have hT9 := hT1_.low hbw9 hgv4 hs9
      have hc9 : w9.cell? ⟨gv, 4, none⟩ = some (.slice A5 i c5) := hT9.at_ 4 _ rfl
      have hf9 : w9.frozen? ⟨gv, 4, none⟩ = false := hT9.fr 4
      go_simp
      have hcq := hHeld.1.setc 4 (.slice A9 (i + 1) c9)
      refine hkO hK ⟨hcq, trivial⟩ fun hHeld => ?_
      clear hK K
      refine wpAnyH_done (by kernel_rfl) ?_ _
      have hFf := hHeld.1
      clear hHeld
      repeat' (first | go_skip | go_guarded | go_step)
      go_roundw
      case rel =>
       obtain ⟨e1, e2⟩ := seq_step hx.out n1.out n2.out m1.out m2.out
       exact ⟨i + 1, vs ++ [y1_], b1_, _, by omega, by go_num, hl9, (hB1_.low hbw9 hg4 hs9).setc1 hgne, hFf, hT9.setc (j := 4) (by show 4 < 6; decide) _, hOL9.gb Cod.value_ok hgv4 (setCell_grown w9 gv 4 _), e1, e2⟩
      case measure => simp [intOf]; omega
     exact AllReadyH.nil
    exact AllReadyH.nil
   ·have hd : (decide ((i : Int) < n)) = false := by simp; omega
    have hti : (toL p4.2.2.2).take i = toL p4.2.2.2 := List.take_of_length_le (by omega)
    obtain rfl : i = n := by omega
    have hTBr : Tgt wr (w.heap.size + 1) 0 vZ := hTB4.f2F hF (by omega) (by omega)
    rw [hvl] at hT hOL
    have hth := hTBr.there (n := 6) (Nat.le_refl _)
    have hfin := World.rangeAt_setCells_same wr (w.heap.size + 1) 0 [.int .i64 x0, .bool o1, .int .i64 x2, .string s3, (.slice A5 i c5), .slice B5 L5.length e5] hth
    repeat' (first | (refine wpList_load_mid rfl 75 _ rfl gv 0 rfl [.int .i64 x0, .bool o1, .int .i64 x2, .string s3, (.slice A5 i c5), .slice B5 L5.length e5] _ (fun j u hj => hT.at_ j u hj) Tryz.underlying75 rfl (by kernel_rfl) ?_) | (refine wpList_store_mid rfl 75 _ _ rfl (w.heap.size + 1) 0 #[.int .i64 x0, .bool o1, .int .i64 x2, .string s3, (.slice A5 i c5), .slice B5 L5.length e5] rfl rfl hth (by kernel_rfl) (by simp [Value.oneCell']) ?_) | go_skip | go_guarded | go_step)
    refine bodyPost_ret (v := .agg #[.int .i64 x0, .bool o1, .int .i64 x2, .string s3, (.slice A5 i c5), .slice B5 L5.length e5]) (run_res_cell 4 75 (w.heap.size + 1) 0 [.int .i64 x0, .bool o1, .int .i64 x2, .string s3, (.slice A5 i c5), .slice B5 L5.length e5] _ rfl rfl hfin Tryz.underlying75 rfl (by kernel_rfl)) rfl ?_
    have n1 := n1.out
    have n2 := n2.out
    rw [hti] at n1 n2
    exact ⟨_, rfl, value_res hcl hc4 hb hgw (Nat.le_succ _) hlt1 hG2 hGx hG4 hF hgv q1.out q2.out hLx hx0 hy1 hx2 hy3 hy5 hr5.out hB hOL n1 n2 rfl⟩
end Go.Proofs.YtgdapkglofchjaaGreatDoor
