/- The law that counts the votes. -/
import Derived.Test.YtionchkblgpklaaDoorGtK
import Derived.Test.YtionchkblgpklaaDoorGtLaw1
namespace Go.Proofs.YtionchkblgpklaaDoor
open Go.RowKit
set_option maxRecDepth 100000 in
set_option maxHeartbeats 4000000 in
theorem counts_law (s : Gs) (A : Option Addr) (c : Nat) (now : Int) (vs : List Vo) (AV : Option Addr) (cv : Nat) (w : World) (hs : Seq w w.heap.size 1 A s.who.length (cellsS s.who)) (hl : s.who.length ≤ 9223372036854775807) (hm : ∀ x ∈ s.who, x.size ≤ 9223372036854775807) (hv : Seq w w.heap.size 3 AV vs.length (vs.flatMap vcells)) (hva : ∀ v ∈ vs, I64 v.at_ ∧ v.who.size ≤ 9223372036854775807) : Calls Tryd.prog 6 #[.agg (sarr s A c), .int .i64 now, .slice AV vs.length cv] w fun e w' => e = .returned (.bool true) ∧ Below w.heap.size w w' := by
  have hb1 := (Below.refl w.heap.size w).alloc (Nat.le_refl _) (.cells (sarr s A c) 24)
  have hz : (w.alloc (.cells (sarr s A c) 24)).heap.size = w.heap.size + 1 := by simp
  have d0 : ((w.alloc (.cells (sarr s A c) 24))).cell? ⟨w.heap.size, 0, none⟩ = some (.int .i64 s.app) := by simp [go_sem]
  have d1 : ((w.alloc (.cells (sarr s A c) 24))).cell? ⟨w.heap.size, 1, none⟩ = some (.slice A s.who.length c) := by simp [go_sem]
  have d2 : ((w.alloc (.cells (sarr s A c) 24))).cell? ⟨w.heap.size, 2, none⟩ = some (.int .i64 s.exp) := by simp [go_sem]
  have dF : ∀ j, ((w.alloc (.cells (sarr s A c) 24))).frozen? ⟨w.heap.size, j, none⟩ = false := fun j => by simp [go_sem]
  go_enter Tryd.func6, Tryd.ntmps6
  repeat' ((fail_if_success at_builtin); (first | go_skip | go_guarded | go_step))
  generalize (w.alloc (.cells (sarr s A c) 24)) = w1 at *
  have hr1 := (hs.below hb1).more hb1.size
  refine (few_any s.who A c _ w1 hr1 hl hm).mono ?_
  rintro e w1' ⟨rfl, hw1'⟩
  subst hw1'
  dsimp only
  cases hf : fewL s.who with
  | false =>
    repeat' ((fail_if_success at_builtin); (first | go_skip | go_guarded | go_step))
    refine (lives_any _).mono ?_
    rintro e wl ⟨rfl, hbl⟩
    dsimp only
    repeat' ((fail_if_success at_builtin); (first | go_skip | go_guarded | go_step))
    go_ret
    exact ⟨rfl, hb1.trans (hbl.mono hb1.size)⟩
  | true =>
    obtain ⟨n1, n2⟩ := fewL_out hf
    clear hf
    by_cases hvl : 60 < vs.length
    · have hvl2 : (60 : Int) < (vs.length : Int) := by omega
      clear hvl
      repeat' ((fail_if_success at_builtin); (first | go_skip | go_guarded | go_step))
      refine (lives_any _).mono ?_
      rintro e wl ⟨rfl, hbl⟩
      dsimp only
      repeat' ((fail_if_success at_builtin); (first | go_skip | go_guarded | go_step))
      go_ret
      exact ⟨rfl, hb1.trans (hbl.mono hb1.size)⟩
    · have hvl2 : ¬ (60 : Int) < (vs.length : Int) := by omega
      have hm2 : ∀ x ∈ s.who, x.size ≤ 1000 := fun x hx => by have := n2 x hx; omega
      have C := open_any s A c now w1' hr1 (by omega) hm2
      by_cases hoe : openE s now = 0
      · have hopen : openG s now = ⟨s, now, [], 0⟩ := by unfold openG; rw [if_neg (Decidable.not_not.2 hoe)]
        have hvld : validG s = 0 ∧ 0 ≤ now ∧ now ≤ 1125899906842624 := by
          unfold openE at hoe
          by_cases h1 : validG s = 0
          · rw [if_neg (Decidable.not_not.2 h1)] at hoe
            by_cases h2 : now < 0 ∨ 1125899906842624 < now
            · rw [if_pos h2] at hoe; omega
            · exact ⟨h1, by omega, by omega⟩
          · rw [if_pos h1] at hoe; exact absurd hoe h1
        obtain ⟨hv0, hn0, hn1⟩ := hvld
        have hsp : 1 ≤ s.app ∧ 1 ≤ s.exp ∧ s.exp ≤ 1125899906842624 := by
          unfold validG at hv0
          by_cases h1 : 16 < s.who.length
          · rw [if_pos h1] at hv0; omega
          · rw [if_neg h1] at hv0
            by_cases h2 : namesL s.who = false
            · rw [if_pos h2] at hv0; omega
            · rw [if_neg h2] at hv0
              by_cases h3 : ascL s.who = false
              · rw [if_pos h3] at hv0; omega
              · rw [if_neg h3] at hv0
                by_cases h4 : s.app < 1 ∨ (s.who.length : Int) < s.app ∨ s.exp < 1 ∨ 1125899906842624 < s.exp
                · rw [if_pos h4] at hv0; omega
                · omega
        rw [hopen, hoe] at C
        clear hopen hoe hv0
        replace C := Lib.hid C
        repeat' ((fail_if_success at_builtin); (first | go_skip | go_guarded | go_step))
        refine C.out.mono ?_
        rintro e w2 ⟨A1, c1, B1, k1, rfl, hb2, hq1, hq2⟩
        dsimp only
        replace d0 := (hb2.cell (p := ⟨w.heap.size, 0, none⟩) (by dsimp only; omega)).trans d0
        replace d1 := (hb2.cell (p := ⟨w.heap.size, 1, none⟩) (by dsimp only; omega)).trans d1
        replace d2 := (hb2.cell (p := ⟨w.heap.size, 2, none⟩) (by dsimp only; omega)).trans d2
        replace dF := frz_below hb2 (by omega) dF
        clear dF
        have hbw2 := hb1.trans (hb2.mono hb1.size)
        have hz2 := hb2.size
        clear C hb2 hr1
        repeat' ((fail_if_success at_builtin); (first | go_skip | go_guarded | go_step))
        have hal := (Below.refl w2.heap.size w2).alloc (Nat.le_refl _) (.cells #[.int .i64 s.app, .slice A1 s.who.length c1, .int .i64 s.exp, .int .i64 now, .slice B1 0 k1, .int .i64 0] 28)
        have p0 : (w2.alloc (.cells #[.int .i64 s.app, .slice A1 s.who.length c1, .int .i64 s.exp, .int .i64 now, .slice B1 0 k1, .int .i64 0] 28)).cell? ⟨w2.heap.size, 0, none⟩ = some (.int .i64 s.app) := by simp [go_sem]
        have p1 : (w2.alloc (.cells #[.int .i64 s.app, .slice A1 s.who.length c1, .int .i64 s.exp, .int .i64 now, .slice B1 0 k1, .int .i64 0] 28)).cell? ⟨w2.heap.size, 1, none⟩ = some (.slice A1 s.who.length c1) := by simp [go_sem]
        have p2 : (w2.alloc (.cells #[.int .i64 s.app, .slice A1 s.who.length c1, .int .i64 s.exp, .int .i64 now, .slice B1 0 k1, .int .i64 0] 28)).cell? ⟨w2.heap.size, 2, none⟩ = some (.int .i64 s.exp) := by simp [go_sem]
        have p3 : (w2.alloc (.cells #[.int .i64 s.app, .slice A1 s.who.length c1, .int .i64 s.exp, .int .i64 now, .slice B1 0 k1, .int .i64 0] 28)).cell? ⟨w2.heap.size, 3, none⟩ = some (.int .i64 now) := by simp [go_sem]
        have p4 : (w2.alloc (.cells #[.int .i64 s.app, .slice A1 s.who.length c1, .int .i64 s.exp, .int .i64 now, .slice B1 0 k1, .int .i64 0] 28)).cell? ⟨w2.heap.size, 4, none⟩ = some (.slice B1 0 k1) := by simp [go_sem]
        have p5 : (w2.alloc (.cells #[.int .i64 s.app, .slice A1 s.who.length c1, .int .i64 s.exp, .int .i64 now, .slice B1 0 k1, .int .i64 0] 28)).cell? ⟨w2.heap.size, 5, none⟩ = some (.int .i64 0) := by simp [go_sem]
        have pF : ∀ j, (w2.alloc (.cells #[.int .i64 s.app, .slice A1 s.who.length c1, .int .i64 s.exp, .int .i64 now, .slice B1 0 k1, .int .i64 0] 28)).frozen? ⟨w2.heap.size, j, none⟩ = false := fun j => by simp [go_sem]
        have hz3 : (w2.alloc (.cells #[.int .i64 s.app, .slice A1 s.who.length c1, .int .i64 s.exp, .int .i64 now, .slice B1 0 k1, .int .i64 0] 28)).heap.size = w2.heap.size + 1 := by simp
        generalize w2.alloc (.cells #[.int .i64 s.app, .slice A1 s.who.length c1, .int .i64 s.exp, .int .i64 now, .slice B1 0 k1, .int .i64 0] 28) = w3 at *
        have hq1' : SeqP w3 (fun b => b ≠ w2.heap.size ∧ b < w3.heap.size) 1 A1 s.who.length (cellsS s.who) := (Seq.below hq1 hal).imp (fun b hb => ⟨by omega, by omega⟩)
        have hq2' : SeqP w3 (fun b => b ≠ w2.heap.size ∧ b < w3.heap.size) 1 B1 ([] : List ByteArray).length (cellsS []) := (Seq.below hq2 hal).imp (fun b hb => ⟨by omega, by omega⟩)
        have hv2 := (hv.below hbw2).more hbw2.size
        have hs2 := (hs.below hbw2).more hbw2.size
        have hown0 : w3.ownsRow (w2.heap.size + 1) 9 1 (.slice none 0 0) ([] : List ByteArray).length (cellsS []) := World.ownsRow_nil _ _ _ _
        have hc0 : CIn s [] [] 0 := ⟨rfl, rfl, fun _ => rfl, (fun x hx => by cases hx), fun _ => by simp; omega⟩
        go_loopw [9, 10, 11] (fun u9 u10 u11 wr => ∃ (i : Nat) (st : Int) (yes ys : List ByteArray) (AG : Option Addr) (cg : Nat) (AY : Option Addr) (cy : Nat), i ≤ vs.length ∧ u11 = .int .i64 (i : Int) ∧ u10 = .int .i64 st ∧ CIn s yes ys st ∧ ys.length ≤ i ∧ wr.ownsRow (w2.heap.size + 1) 9 1 u9 ys.length (cellsS ys) ∧ Below w2.heap.size w2 wr ∧ w2.heap.size < wr.heap.size ∧ (wr.cell? ⟨w2.heap.size, 0, none⟩ = some (.int .i64 s.app) ∧ wr.cell? ⟨w2.heap.size, 1, none⟩ = some (.slice AG s.who.length cg) ∧ wr.cell? ⟨w2.heap.size, 2, none⟩ = some (.int .i64 s.exp) ∧ wr.cell? ⟨w2.heap.size, 3, none⟩ = some (.int .i64 now) ∧ wr.cell? ⟨w2.heap.size, 4, none⟩ = some (.slice AY yes.length cy) ∧ wr.cell? ⟨w2.heap.size, 5, none⟩ = some (.int .i64 st)) ∧ (∀ j, wr.frozen? ⟨w2.heap.size, j, none⟩ = false) ∧ SeqP wr (fun b => b ≠ w2.heap.size ∧ b < wr.heap.size) 1 AG s.who.length (cellsS s.who) ∧ SeqP wr (fun b => b ≠ w2.heap.size ∧ b < wr.heap.size) 1 AY yes.length (cellsS yes)) (fun _ _ u11 _ => vs.length - (intOf u11).toNat)
        case atStart => exact ⟨0, 0, [], [], A1, c1, B1, k1, by omega, rfl, rfl, hc0, Nat.le_refl _, hown0, hal, by omega, ⟨p0, p1, p2, p3, p4, p5⟩, pF, hq1', hq2'⟩
        case round =>
          clear p0 p1 p2 p3 p4 p5 pF hq1' hq2' hown0 hc0 hal hz3 hq1 hq2
          obtain ⟨i, st, yes, ys, AG, cg, AY, cy, hi, rfl, rfl, hC, hyi, hO, hbr, hwr, ⟨p0, p1, p2, p3, p4, p5⟩, pF, hqA, hqY⟩ := hrel
          obtain ⟨wx, hwx⟩ : ∃ wx : World, wx = wr := ⟨wr, rfl⟩
          subst hwx
          obtain ⟨AO, cO, rfl⟩ := owns_form hO
          by_cases hlt : i < vs.length
          · obtain ⟨bV, oV, rfl, hbV, hcell⟩ := hv2.2 (by omega)
            have hci : vs[i]? = some vs[i] := List.getElem?_eq_getElem hlt
            have e0 := (hbr.cell (p := ⟨bV, oV + i * 3, none⟩) hbV).trans (hcell (i * 3) _ (flat3_at (j := 0) hci rfl))
            have e1 := (hbr.cell (p := ⟨bV, oV + i * 3 + 1, none⟩) hbV).trans ((congrArg (fun q => w2.cell? ⟨bV, q, none⟩) (by omega : oV + i * 3 + 1 = oV + (i * 3 + 1))).trans (hcell (i * 3 + 1) _ (flat3_at (j := 1) hci rfl)))
            have e2 := (hbr.cell (p := ⟨bV, oV + i * 3 + 2, none⟩) hbV).trans ((congrArg (fun q => w2.cell? ⟨bV, q, none⟩) (by omega : oV + i * 3 + 2 = oV + (i * 3 + 2))).trans (hcell (i * 3 + 2) _ (flat3_at (j := 2) hci rfl)))
            obtain ⟨vt, vw⟩ := hva vs[i] (List.getElem_mem hlt)
            have d0 := (hbr.cell (p := ⟨w.heap.size, 0, none⟩) (by dsimp only; omega)).trans d0
            have d1 := (hbr.cell (p := ⟨w.heap.size, 1, none⟩) (by dsimp only; omega)).trans d1
            have d2 := (hbr.cell (p := ⟨w.heap.size, 2, none⟩) (by dsimp only; omega)).trans d2
            have hsx := (hs2.below hbr).more hbr.size
            have hwx : w.heap.size < wx.heap.size := by omega
            generalize vs[i] = v at *
            obtain ⟨who, no, t⟩ := v
            dsimp only at e0 e1 e2 vt vw
            have hcz := check_zero (s := s) (now := now) (yes := yes) (st := st) (who := who) (t := t) ⟨hn0, hn1⟩ hsp.2
            have i0 : (0 : Int) ≤ (i : Int) := by omega
            have i1 : (i : Int) < (vs.length : Int) := by omega
            have hwrap : IntKind.i64.wrap (now + s.exp) = now + s.exp := by rw [IntKind.wrap_i64]; omega
            have hlen := hC.len
            have hleb : ((yes.length : Int) != (ys.length : Int)) = false := by simp [hlen]
            replace hlen := Lib.hid hlen
            clear hcell hci hbV
            by_cases hst : st = 0
            · subst hst
              by_cases ht : t < now + s.exp
              · cases no with
                | true =>
                  repeat' ((fail_if_success at_builtin); (first | go_skip | go_guarded | go_step))
                  have hal := (Below.refl wx.heap.size wx).alloc (Nat.le_refl _) (.cells #[.string who, .bool true, .int .i64 t] 47)
                  replace p0 := (hal.cell (p := ⟨w2.heap.size, 0, none⟩) (by dsimp only; omega)).trans p0
                  replace p1 := (hal.cell (p := ⟨w2.heap.size, 1, none⟩) (by dsimp only; omega)).trans p1
                  replace p2 := (hal.cell (p := ⟨w2.heap.size, 2, none⟩) (by dsimp only; omega)).trans p2
                  replace p3 := (hal.cell (p := ⟨w2.heap.size, 3, none⟩) (by dsimp only; omega)).trans p3
                  replace p4 := (hal.cell (p := ⟨w2.heap.size, 4, none⟩) (by dsimp only; omega)).trans p4
                  replace p5 := (hal.cell (p := ⟨w2.heap.size, 5, none⟩) (by dsimp only; omega)).trans p5
                  replace pF := frz_below hal (by omega) pF
                  replace d0 := (hal.cell (p := ⟨w.heap.size, 0, none⟩) (by dsimp only; omega)).trans d0
                  replace d1 := (hal.cell (p := ⟨w.heap.size, 1, none⟩) (by dsimp only; omega)).trans d1
                  replace d2 := (hal.cell (p := ⟨w.heap.size, 2, none⟩) (by dsimp only; omega)).trans d2
                  have u0 : (wx.alloc (.cells #[.string who, .bool true, .int .i64 t] 47)).cell? ⟨wx.heap.size, 0, none⟩ = some (.string who) := by simp [go_sem]
                  have u1 : (wx.alloc (.cells #[.string who, .bool true, .int .i64 t] 47)).cell? ⟨wx.heap.size, 1, none⟩ = some (.bool true) := by simp [go_sem]
                  have u2 : (wx.alloc (.cells #[.string who, .bool true, .int .i64 t] 47)).cell? ⟨wx.heap.size, 2, none⟩ = some (.int .i64 t) := by simp [go_sem]
                  have hza : (wx.alloc (.cells #[.string who, .bool true, .int .i64 t] 47)).heap.size = wx.heap.size + 1 := by simp
                  have hqA1 := hqA.belowS hal (fun b hb => hb.2)
                  have hqY1 := hqY.belowS hal (fun b hb => hb.2)
                  have hO1 := owns_below hO hal
                  have hbr1 := hbr.trans (hal.mono hbr.size)
                  have hsa := (hsx.below hal).more hal.size
                  have hOk : ∀ g, (Value.slice AO ys.length cO).ownBlock = some g → w2.heap.size + 1 ≤ g ∧ g < wx.heap.size := fun g hg => hO.lt g hg
                  generalize wx.alloc (.cells #[.string who, .bool true, .int .i64 t] 47) = wa at *
                  clear hal hO hqA hqY hsx
                  refine (refHas_any s.who who A c wa.heap.size wa hsa (by omega)).mono ?_
                  rintro e wq ⟨rfl, hwq⟩
                  obtain rfl := hwq.symm
                  dsimp only
                  cases hh : hasL s.who who with
                  | false =>
                    have hr : checkG ⟨s, now, yes, 0⟩ who t ≠ 0 := fun h => by rw [(hcz.1 h).2.2] at hh; cases hh
                    repeat' ((fail_if_success at_builtin); (first | go_skip | go_guarded | go_step))
                    have C := rejectF_any ⟨s, now, yes, 0⟩ AG cg AY cy who t wa (hqA1.imp (fun b hb => by have := hb.2; omega)) (hqY1.imp (fun b hb => by have := hb.2; omega)) (by dsimp only; omega) (by have := hlen.out; dsimp only; omega) ⟨by dsimp only; omega, by dsimp only; omega⟩ ⟨by dsimp only; omega, by dsimp only; omega⟩
                    have hg : rejG ⟨s, now, yes, 0⟩ who t = ⟨s, now, yes, 0⟩ := by unfold rejG; rw [if_pos hr]
                    rw [hg] at C
                    generalize checkG ⟨s, now, yes, 0⟩ who t = r at *
                    have hr0 : (r == 0) = false := by simp [hr]
                    clear hg hcz
                    replace C := Lib.hid C
                    refine C.out.mono ?_
                    rintro e wb ⟨AG2, cg2, AY2, cy2, rfl, hb, hqA2, hqY2⟩
                    dsimp only at hqA2 hqY2 ⊢
                    replace p0 := (hb.cell (p := ⟨w2.heap.size, 0, none⟩) (by dsimp only; omega)).trans p0
                    replace p1 := (hb.cell (p := ⟨w2.heap.size, 1, none⟩) (by dsimp only; omega)).trans p1
                    replace p2 := (hb.cell (p := ⟨w2.heap.size, 2, none⟩) (by dsimp only; omega)).trans p2
                    replace p3 := (hb.cell (p := ⟨w2.heap.size, 3, none⟩) (by dsimp only; omega)).trans p3
                    replace p4 := (hb.cell (p := ⟨w2.heap.size, 4, none⟩) (by dsimp only; omega)).trans p4
                    replace p5 := (hb.cell (p := ⟨w2.heap.size, 5, none⟩) (by dsimp only; omega)).trans p5
                    replace pF := frz_below hb (by omega) pF
                    replace d0 := (hb.cell (p := ⟨w.heap.size, 0, none⟩) (by dsimp only; omega)).trans d0
                    replace d1 := (hb.cell (p := ⟨w.heap.size, 1, none⟩) (by dsimp only; omega)).trans d1
                    replace d2 := (hb.cell (p := ⟨w.heap.size, 2, none⟩) (by dsimp only; omega)).trans d2
                    replace u0 := (hb.cell (p := ⟨wx.heap.size, 0, none⟩) (by dsimp only; omega)).trans u0
                    replace u1 := (hb.cell (p := ⟨wx.heap.size, 1, none⟩) (by dsimp only; omega)).trans u1
                    replace u2 := (hb.cell (p := ⟨wx.heap.size, 2, none⟩) (by dsimp only; omega)).trans u2
                    have hO2 := owns_below hO1 hb
                    have hbr2 := hbr1.trans (hb.mono hbr1.size)
                    have hzb := hb.size
                    clear hb C hO1 hbr1 hqA1 hqY1
                    repeat' ((fail_if_success at_builtin); (first | go_skip | go_guarded | go_step))
                    generalize hw_wc : ((((((wb.setCell ⟨w2.heap.size, 0, none⟩ (.int .i64 s.app)).setCell ⟨w2.heap.size, 1, none⟩ (.slice AG2 s.who.length cg2)).setCell ⟨w2.heap.size, 2, none⟩ (.int .i64 s.exp)).setCell ⟨w2.heap.size, 3, none⟩ (.int .i64 now)).setCell ⟨w2.heap.size, 4, none⟩ (.slice AY2 yes.length cy2)).setCell ⟨w2.heap.size, 5, none⟩ (.int .i64 0)) = wc at *
                    have hO3 := owns_six hO2 (fun e => by have := (hO2.lt _ e.symm).1; omega) hw_wc
                    obtain ⟨⟨np0, np1, np2, np3, np4, np5⟩, far_wc, frz_wc, hsz_wc, bel_wc, own_wc⟩ := six_ok (.int .i64 s.app) (.slice AG2 s.who.length cg2) (.int .i64 s.exp) (.int .i64 now) (.slice AY2 yes.length cy2) (.int .i64 0) p0 p1 p2 p3 p4 p5 wc hw_wc
                    clear p0 p1 p2 p3 p4 p5 hw_wc
                    have p0 := np0
                    have p1 := np1
                    have p2 := np2
                    have p3 := np3
                    have p4 := np4
                    have p5 := np5
                    clear np0 np1 np2 np3 np4 np5
                    replace pF := fun j => (frz_wc ⟨w2.heap.size, j, none⟩).trans (pF j)
                    replace d0 := (far_wc ⟨w.heap.size, 0, none⟩ (by dsimp only; omega)).trans d0
                    replace d1 := (far_wc ⟨w.heap.size, 1, none⟩ (by dsimp only; omega)).trans d1
                    replace d2 := (far_wc ⟨w.heap.size, 2, none⟩ (by dsimp only; omega)).trans d2
                    have hbr3 := bel_wc _ _ (Nat.le_refl _) hbr2
                    have hqA3 := SeqP.map hqA2 (fun q hq => far_wc q (by have := hq.1; omega)) fun _ h => h
                    have hqY3 := SeqP.map hqY2 (fun q hq => far_wc q (by have := hq.1; omega)) fun _ h => h
                    have hzc := hsz_wc
                    clear far_wc frz_wc hsz_wc bel_wc own_wc hO2 hbr2 hqA2 hqY2 u0 u1 u2
                    have CS := refAsc_any (yes) AY2 cy2 wc (SeqP.imp hqY3 (fun b hb => by have := hb.2; omega)) (by have := hlen.out; omega) (fun x hx => by have := hm2 x (hC.sub x hx); omega)
                    rw [hC.asc] at CS
                    replace CS := Lib.hid CS
                    refine CS.out.mono ?_
                    rintro e we ⟨rfl, hb⟩
                    dsimp only
                    replace p0 := (hb.cell (p := ⟨w2.heap.size, 0, none⟩) (by dsimp only; omega)).trans p0
                    replace p1 := (hb.cell (p := ⟨w2.heap.size, 1, none⟩) (by dsimp only; omega)).trans p1
                    replace p2 := (hb.cell (p := ⟨w2.heap.size, 2, none⟩) (by dsimp only; omega)).trans p2
                    replace p3 := (hb.cell (p := ⟨w2.heap.size, 3, none⟩) (by dsimp only; omega)).trans p3
                    replace p4 := (hb.cell (p := ⟨w2.heap.size, 4, none⟩) (by dsimp only; omega)).trans p4
                    replace p5 := (hb.cell (p := ⟨w2.heap.size, 5, none⟩) (by dsimp only; omega)).trans p5
                    replace pF := frz_below hb (by omega) pF
                    have hO5 := owns_below hO3 hb
                    have hbr5 := hbr3.trans (hb.mono hbr3.size)
                    have hze := hb.size
                    have hqA5 := SeqP.belowS hqA3 hb (fun b hb => by have := hb.2; omega)
                    have hqY5 := SeqP.belowS hqY3 hb (fun b hb => by have := hb.2; omega)
                    clear CS hb
                    repeat' ((fail_if_success at_builtin); (first | go_skip | go_guarded | go_step))
                    go_roundw
                    case rel => exact ⟨i + 1, 0, yes, ys, AG2, cg2, AY2, cy2, by omega, by go_num, rfl, hC, by omega, hO5, hbr5, by omega, ⟨p0, p1, p2, p3, p4, p5⟩, pF, hqA5.imp (fun b hb => ⟨by have := hb.1; omega, by have := hb.2; omega⟩), hqY5.imp (fun b hb => ⟨by have := hb.1; omega, by have := hb.2; omega⟩)⟩
                    case measure => simp [intOf]; omega
                  | true =>
                    have hr : checkG ⟨s, now, yes, 0⟩ who t = 0 := hcz.2 ⟨rfl, ht, hh⟩
                    repeat' ((fail_if_success at_builtin); (first | go_skip | go_guarded | go_step))
                    have C := rejectF_any ⟨s, now, yes, 0⟩ AG cg AY cy who t wa (hqA1.imp (fun b hb => by have := hb.2; omega)) (hqY1.imp (fun b hb => by have := hb.2; omega)) (by dsimp only; omega) (by have := hlen.out; dsimp only; omega) ⟨by dsimp only; omega, by dsimp only; omega⟩ ⟨by dsimp only; omega, by dsimp only; omega⟩
                    have hg : rejG ⟨s, now, yes, 0⟩ who t = ⟨s, now, yes, 2⟩ := by unfold rejG; rw [if_neg (Decidable.not_not.2 hr)]
                    rw [hg, hr] at C
                    clear hg
                    replace C := Lib.hid C
                    refine C.out.mono ?_
                    rintro e wb ⟨AG2, cg2, AY2, cy2, rfl, hb, hqA2, hqY2⟩
                    dsimp only at hqA2 hqY2 ⊢
                    replace p0 := (hb.cell (p := ⟨w2.heap.size, 0, none⟩) (by dsimp only; omega)).trans p0
                    replace p1 := (hb.cell (p := ⟨w2.heap.size, 1, none⟩) (by dsimp only; omega)).trans p1
                    replace p2 := (hb.cell (p := ⟨w2.heap.size, 2, none⟩) (by dsimp only; omega)).trans p2
                    replace p3 := (hb.cell (p := ⟨w2.heap.size, 3, none⟩) (by dsimp only; omega)).trans p3
                    replace p4 := (hb.cell (p := ⟨w2.heap.size, 4, none⟩) (by dsimp only; omega)).trans p4
                    replace p5 := (hb.cell (p := ⟨w2.heap.size, 5, none⟩) (by dsimp only; omega)).trans p5
                    replace pF := frz_below hb (by omega) pF
                    replace d0 := (hb.cell (p := ⟨w.heap.size, 0, none⟩) (by dsimp only; omega)).trans d0
                    replace d1 := (hb.cell (p := ⟨w.heap.size, 1, none⟩) (by dsimp only; omega)).trans d1
                    replace d2 := (hb.cell (p := ⟨w.heap.size, 2, none⟩) (by dsimp only; omega)).trans d2
                    replace u0 := (hb.cell (p := ⟨wx.heap.size, 0, none⟩) (by dsimp only; omega)).trans u0
                    replace u1 := (hb.cell (p := ⟨wx.heap.size, 1, none⟩) (by dsimp only; omega)).trans u1
                    replace u2 := (hb.cell (p := ⟨wx.heap.size, 2, none⟩) (by dsimp only; omega)).trans u2
                    have hO2 := owns_below hO1 hb
                    have hbr2 := hbr1.trans (hb.mono hbr1.size)
                    have hzb := hb.size
                    clear hb C hO1 hbr1 hqA1 hqY1
                    have hC2 := hC.state (st' := 2) (by omega)
                    repeat' ((fail_if_success at_builtin); (first | go_skip | go_guarded | go_step))
                    generalize hw_wc : ((((((wb.setCell ⟨w2.heap.size, 0, none⟩ (.int .i64 s.app)).setCell ⟨w2.heap.size, 1, none⟩ (.slice AG2 s.who.length cg2)).setCell ⟨w2.heap.size, 2, none⟩ (.int .i64 s.exp)).setCell ⟨w2.heap.size, 3, none⟩ (.int .i64 now)).setCell ⟨w2.heap.size, 4, none⟩ (.slice AY2 yes.length cy2)).setCell ⟨w2.heap.size, 5, none⟩ (.int .i64 2)) = wc at *
                    have hO3 := owns_six hO2 (fun e => by have := (hO2.lt _ e.symm).1; omega) hw_wc
                    obtain ⟨⟨np0, np1, np2, np3, np4, np5⟩, far_wc, frz_wc, hsz_wc, bel_wc, own_wc⟩ := six_ok (.int .i64 s.app) (.slice AG2 s.who.length cg2) (.int .i64 s.exp) (.int .i64 now) (.slice AY2 yes.length cy2) (.int .i64 2) p0 p1 p2 p3 p4 p5 wc hw_wc
                    clear p0 p1 p2 p3 p4 p5 hw_wc
                    have p0 := np0
                    have p1 := np1
                    have p2 := np2
                    have p3 := np3
                    have p4 := np4
                    have p5 := np5
                    clear np0 np1 np2 np3 np4 np5
                    replace pF := fun j => (frz_wc ⟨w2.heap.size, j, none⟩).trans (pF j)
                    replace d0 := (far_wc ⟨w.heap.size, 0, none⟩ (by dsimp only; omega)).trans d0
                    replace d1 := (far_wc ⟨w.heap.size, 1, none⟩ (by dsimp only; omega)).trans d1
                    replace d2 := (far_wc ⟨w.heap.size, 2, none⟩ (by dsimp only; omega)).trans d2
                    have hbr3 := bel_wc _ _ (Nat.le_refl _) hbr2
                    have hqA3 := SeqP.map hqA2 (fun q hq => far_wc q (by have := hq.1; omega)) fun _ h => h
                    have hqY3 := SeqP.map hqY2 (fun q hq => far_wc q (by have := hq.1; omega)) fun _ h => h
                    have hzc := hsz_wc
                    clear far_wc frz_wc hsz_wc bel_wc own_wc hO2 hbr2 hqA2 hqY2 u0 u1 u2
                    have CS := refAsc_any (yes) AY2 cy2 wc (SeqP.imp hqY3 (fun b hb => by have := hb.2; omega)) (by have := hlen.out; omega) (fun x hx => by have := hm2 x (hC2.sub x hx); omega)
                    rw [hC2.asc] at CS
                    replace CS := Lib.hid CS
                    refine CS.out.mono ?_
                    rintro e we ⟨rfl, hb⟩
                    dsimp only
                    replace p0 := (hb.cell (p := ⟨w2.heap.size, 0, none⟩) (by dsimp only; omega)).trans p0
                    replace p1 := (hb.cell (p := ⟨w2.heap.size, 1, none⟩) (by dsimp only; omega)).trans p1
                    replace p2 := (hb.cell (p := ⟨w2.heap.size, 2, none⟩) (by dsimp only; omega)).trans p2
                    replace p3 := (hb.cell (p := ⟨w2.heap.size, 3, none⟩) (by dsimp only; omega)).trans p3
                    replace p4 := (hb.cell (p := ⟨w2.heap.size, 4, none⟩) (by dsimp only; omega)).trans p4
                    replace p5 := (hb.cell (p := ⟨w2.heap.size, 5, none⟩) (by dsimp only; omega)).trans p5
                    replace pF := frz_below hb (by omega) pF
                    have hO5 := owns_below hO3 hb
                    have hbr5 := hbr3.trans (hb.mono hbr3.size)
                    have hze := hb.size
                    have hqA5 := SeqP.belowS hqA3 hb (fun b hb => by have := hb.2; omega)
                    have hqY5 := SeqP.belowS hqY3 hb (fun b hb => by have := hb.2; omega)
                    clear CS hb
                    repeat' ((fail_if_success at_builtin); (first | go_skip | go_guarded | go_step))
                    go_roundw
                    case rel => exact ⟨i + 1, 2, yes, ys, AG2, cg2, AY2, cy2, by omega, by go_num, rfl, hC2, by omega, hO5, hbr5, by omega, ⟨p0, p1, p2, p3, p4, p5⟩, pF, hqA5.imp (fun b hb => ⟨by have := hb.1; omega, by have := hb.2; omega⟩), hqY5.imp (fun b hb => ⟨by have := hb.1; omega, by have := hb.2; omega⟩)⟩
                    case measure => simp [intOf]; omega
                | false =>
                  repeat' ((fail_if_success at_builtin); (first | go_skip | go_guarded | go_step))
                  have hal := (Below.refl wx.heap.size wx).alloc (Nat.le_refl _) (.cells #[.string who, .bool false, .int .i64 t] 47)
                  replace p0 := (hal.cell (p := ⟨w2.heap.size, 0, none⟩) (by dsimp only; omega)).trans p0
                  replace p1 := (hal.cell (p := ⟨w2.heap.size, 1, none⟩) (by dsimp only; omega)).trans p1
                  replace p2 := (hal.cell (p := ⟨w2.heap.size, 2, none⟩) (by dsimp only; omega)).trans p2
                  replace p3 := (hal.cell (p := ⟨w2.heap.size, 3, none⟩) (by dsimp only; omega)).trans p3
                  replace p4 := (hal.cell (p := ⟨w2.heap.size, 4, none⟩) (by dsimp only; omega)).trans p4
                  replace p5 := (hal.cell (p := ⟨w2.heap.size, 5, none⟩) (by dsimp only; omega)).trans p5
                  replace pF := frz_below hal (by omega) pF
                  replace d0 := (hal.cell (p := ⟨w.heap.size, 0, none⟩) (by dsimp only; omega)).trans d0
                  replace d1 := (hal.cell (p := ⟨w.heap.size, 1, none⟩) (by dsimp only; omega)).trans d1
                  replace d2 := (hal.cell (p := ⟨w.heap.size, 2, none⟩) (by dsimp only; omega)).trans d2
                  have u0 : (wx.alloc (.cells #[.string who, .bool false, .int .i64 t] 47)).cell? ⟨wx.heap.size, 0, none⟩ = some (.string who) := by simp [go_sem]
                  have u1 : (wx.alloc (.cells #[.string who, .bool false, .int .i64 t] 47)).cell? ⟨wx.heap.size, 1, none⟩ = some (.bool false) := by simp [go_sem]
                  have u2 : (wx.alloc (.cells #[.string who, .bool false, .int .i64 t] 47)).cell? ⟨wx.heap.size, 2, none⟩ = some (.int .i64 t) := by simp [go_sem]
                  have hza : (wx.alloc (.cells #[.string who, .bool false, .int .i64 t] 47)).heap.size = wx.heap.size + 1 := by simp
                  have hqA1 := hqA.belowS hal (fun b hb => hb.2)
                  have hqY1 := hqY.belowS hal (fun b hb => hb.2)
                  have hO1 := owns_below hO hal
                  have hbr1 := hbr.trans (hal.mono hbr.size)
                  have hsa := (hsx.below hal).more hal.size
                  have hOk : ∀ g, (Value.slice AO ys.length cO).ownBlock = some g → w2.heap.size + 1 ≤ g ∧ g < wx.heap.size := fun g hg => hO.lt g hg
                  generalize wx.alloc (.cells #[.string who, .bool false, .int .i64 t] 47) = wa at *
                  clear hal hO hqA hqY hsx
                  refine (refHas_any s.who who A c wa.heap.size wa hsa (by omega)).mono ?_
                  rintro e wq ⟨rfl, hwq⟩
                  obtain rfl := hwq.symm
                  dsimp only
                  cases hh : hasL s.who who with
                  | false =>
                    have hr : checkG ⟨s, now, yes, 0⟩ who t ≠ 0 := fun h => by rw [(hcz.1 h).2.2] at hh; cases hh
                    repeat' ((fail_if_success at_builtin); (first | go_skip | go_guarded | go_step))
                    have C := approveF_any ⟨s, now, yes, 0⟩ AG cg AY cy who t wa (hqA1.imp (fun b hb => by have := hb.2; omega)) (hqY1.imp (fun b hb => by have := hb.2; omega)) (by dsimp only; omega) (by have := hlen.out; dsimp only; omega) (fun x hx => hm2 x (hC.sub x hx)) (fun h => hm2 who (hasL_mem.1 (hcz.1 h).2.2)) ⟨by dsimp only; omega, by dsimp only; omega⟩ ⟨by dsimp only; omega, by dsimp only; omega⟩
                    obtain ⟨hg, hge⟩ := app_no hr
                    rw [hg, hge] at C
                    generalize checkG ⟨s, now, yes, 0⟩ who t = r at *
                    have hr0 : (r == 0) = false := by simp [hr]
                    clear hg hge hcz
                    replace C := Lib.hid C
                    refine C.out.mono ?_
                    rintro e wb ⟨AG2, cg2, AY2, cy2, rfl, hb, hqA2, hqY2⟩
                    dsimp only at hqA2 hqY2 ⊢
                    replace p0 := (hb.cell (p := ⟨w2.heap.size, 0, none⟩) (by dsimp only; omega)).trans p0
                    replace p1 := (hb.cell (p := ⟨w2.heap.size, 1, none⟩) (by dsimp only; omega)).trans p1
                    replace p2 := (hb.cell (p := ⟨w2.heap.size, 2, none⟩) (by dsimp only; omega)).trans p2
                    replace p3 := (hb.cell (p := ⟨w2.heap.size, 3, none⟩) (by dsimp only; omega)).trans p3
                    replace p4 := (hb.cell (p := ⟨w2.heap.size, 4, none⟩) (by dsimp only; omega)).trans p4
                    replace p5 := (hb.cell (p := ⟨w2.heap.size, 5, none⟩) (by dsimp only; omega)).trans p5
                    replace pF := frz_below hb (by omega) pF
                    replace d0 := (hb.cell (p := ⟨w.heap.size, 0, none⟩) (by dsimp only; omega)).trans d0
                    replace d1 := (hb.cell (p := ⟨w.heap.size, 1, none⟩) (by dsimp only; omega)).trans d1
                    replace d2 := (hb.cell (p := ⟨w.heap.size, 2, none⟩) (by dsimp only; omega)).trans d2
                    replace u0 := (hb.cell (p := ⟨wx.heap.size, 0, none⟩) (by dsimp only; omega)).trans u0
                    replace u1 := (hb.cell (p := ⟨wx.heap.size, 1, none⟩) (by dsimp only; omega)).trans u1
                    replace u2 := (hb.cell (p := ⟨wx.heap.size, 2, none⟩) (by dsimp only; omega)).trans u2
                    have hO2 := owns_below hO1 hb
                    have hbr2 := hbr1.trans (hb.mono hbr1.size)
                    have hzb := hb.size
                    clear hb C hO1 hbr1 hqA1 hqY1
                    repeat' ((fail_if_success at_builtin); (first | go_skip | go_guarded | go_step))
                    generalize hw_wc : ((((((wb.setCell ⟨w2.heap.size, 0, none⟩ (.int .i64 s.app)).setCell ⟨w2.heap.size, 1, none⟩ (.slice AG2 s.who.length cg2)).setCell ⟨w2.heap.size, 2, none⟩ (.int .i64 s.exp)).setCell ⟨w2.heap.size, 3, none⟩ (.int .i64 now)).setCell ⟨w2.heap.size, 4, none⟩ (.slice AY2 yes.length cy2)).setCell ⟨w2.heap.size, 5, none⟩ (.int .i64 0)) = wc at *
                    have hO3 := owns_six hO2 (fun e => by have := (hO2.lt _ e.symm).1; omega) hw_wc
                    obtain ⟨⟨np0, np1, np2, np3, np4, np5⟩, far_wc, frz_wc, hsz_wc, bel_wc, own_wc⟩ := six_ok (.int .i64 s.app) (.slice AG2 s.who.length cg2) (.int .i64 s.exp) (.int .i64 now) (.slice AY2 yes.length cy2) (.int .i64 0) p0 p1 p2 p3 p4 p5 wc hw_wc
                    clear p0 p1 p2 p3 p4 p5 hw_wc
                    have p0 := np0
                    have p1 := np1
                    have p2 := np2
                    have p3 := np3
                    have p4 := np4
                    have p5 := np5
                    clear np0 np1 np2 np3 np4 np5
                    replace pF := fun j => (frz_wc ⟨w2.heap.size, j, none⟩).trans (pF j)
                    replace d0 := (far_wc ⟨w.heap.size, 0, none⟩ (by dsimp only; omega)).trans d0
                    replace d1 := (far_wc ⟨w.heap.size, 1, none⟩ (by dsimp only; omega)).trans d1
                    replace d2 := (far_wc ⟨w.heap.size, 2, none⟩ (by dsimp only; omega)).trans d2
                    have hbr3 := bel_wc _ _ (Nat.le_refl _) hbr2
                    have hqA3 := SeqP.map hqA2 (fun q hq => far_wc q (by have := hq.1; omega)) fun _ h => h
                    have hqY3 := SeqP.map hqY2 (fun q hq => far_wc q (by have := hq.1; omega)) fun _ h => h
                    have hzc := hsz_wc
                    clear far_wc frz_wc hsz_wc bel_wc own_wc hO2 hbr2 hqA2 hqY2 u0 u1 u2
                    have CS := refAsc_any (yes) AY2 cy2 wc (SeqP.imp hqY3 (fun b hb => by have := hb.2; omega)) (by have := hlen.out; omega) (fun x hx => by have := hm2 x (hC.sub x hx); omega)
                    rw [hC.asc] at CS
                    replace CS := Lib.hid CS
                    refine CS.out.mono ?_
                    rintro e we ⟨rfl, hb⟩
                    dsimp only
                    replace p0 := (hb.cell (p := ⟨w2.heap.size, 0, none⟩) (by dsimp only; omega)).trans p0
                    replace p1 := (hb.cell (p := ⟨w2.heap.size, 1, none⟩) (by dsimp only; omega)).trans p1
                    replace p2 := (hb.cell (p := ⟨w2.heap.size, 2, none⟩) (by dsimp only; omega)).trans p2
                    replace p3 := (hb.cell (p := ⟨w2.heap.size, 3, none⟩) (by dsimp only; omega)).trans p3
                    replace p4 := (hb.cell (p := ⟨w2.heap.size, 4, none⟩) (by dsimp only; omega)).trans p4
                    replace p5 := (hb.cell (p := ⟨w2.heap.size, 5, none⟩) (by dsimp only; omega)).trans p5
                    replace pF := frz_below hb (by omega) pF
                    have hO5 := owns_below hO3 hb
                    have hbr5 := hbr3.trans (hb.mono hbr3.size)
                    have hze := hb.size
                    have hqA5 := SeqP.belowS hqA3 hb (fun b hb => by have := hb.2; omega)
                    have hqY5 := SeqP.belowS hqY3 hb (fun b hb => by have := hb.2; omega)
                    clear CS hb
                    repeat' ((fail_if_success at_builtin); (first | go_skip | go_guarded | go_step))
                    go_roundw
                    case rel => exact ⟨i + 1, 0, yes, ys, AG2, cg2, AY2, cy2, by omega, by go_num, rfl, hC, by omega, hO5, hbr5, by omega, ⟨p0, p1, p2, p3, p4, p5⟩, pF, hqA5.imp (fun b hb => ⟨by have := hb.1; omega, by have := hb.2; omega⟩), hqY5.imp (fun b hb => ⟨by have := hb.1; omega, by have := hb.2; omega⟩)⟩
                    case measure => simp [intOf]; omega
                  | true =>
                    have hr : checkG ⟨s, now, yes, 0⟩ who t = 0 := hcz.2 ⟨rfl, ht, hh⟩
                    have hCh := hC.has who
                    repeat' ((fail_if_success at_builtin); (first | go_skip | go_guarded | go_step))
                    refine (refHas_any ys who AO cO wa.heap.size wa (Seq.of_own hO1) (by omega)).mono ?_
                    rintro e wq ⟨rfl, hwq⟩
                    obtain rfl := hwq.symm
                    dsimp only
                    cases hy : hasL ys who with
                    | true =>
                      have hyy : hasL yes who = true := by rw [hCh]; exact hy
                      clear hCh
                      repeat' ((fail_if_success at_builtin); (first | go_skip | go_guarded | go_step))
                      have C := approveF_any ⟨s, now, yes, 0⟩ AG cg AY cy who t wa (hqA1.imp (fun b hb => by have := hb.2; omega)) (hqY1.imp (fun b hb => by have := hb.2; omega)) (by dsimp only; omega) (by have := hlen.out; dsimp only; omega) (fun x hx => hm2 x (hC.sub x hx)) (fun h => hm2 who (hasL_mem.1 (hcz.1 h).2.2)) ⟨by dsimp only; omega, by dsimp only; omega⟩ ⟨by dsimp only; omega, by dsimp only; omega⟩
                      obtain ⟨hg, hge⟩ := app_has hr hyy
                      rw [hg, hge] at C
                      clear hg hge hcz
                      replace C := Lib.hid C
                      refine C.out.mono ?_
                      rintro e wb ⟨AG2, cg2, AY2, cy2, rfl, hb, hqA2, hqY2⟩
                      dsimp only at hqA2 hqY2 ⊢
                      replace p0 := (hb.cell (p := ⟨w2.heap.size, 0, none⟩) (by dsimp only; omega)).trans p0
                      replace p1 := (hb.cell (p := ⟨w2.heap.size, 1, none⟩) (by dsimp only; omega)).trans p1
                      replace p2 := (hb.cell (p := ⟨w2.heap.size, 2, none⟩) (by dsimp only; omega)).trans p2
                      replace p3 := (hb.cell (p := ⟨w2.heap.size, 3, none⟩) (by dsimp only; omega)).trans p3
                      replace p4 := (hb.cell (p := ⟨w2.heap.size, 4, none⟩) (by dsimp only; omega)).trans p4
                      replace p5 := (hb.cell (p := ⟨w2.heap.size, 5, none⟩) (by dsimp only; omega)).trans p5
                      replace pF := frz_below hb (by omega) pF
                      replace d0 := (hb.cell (p := ⟨w.heap.size, 0, none⟩) (by dsimp only; omega)).trans d0
                      replace d1 := (hb.cell (p := ⟨w.heap.size, 1, none⟩) (by dsimp only; omega)).trans d1
                      replace d2 := (hb.cell (p := ⟨w.heap.size, 2, none⟩) (by dsimp only; omega)).trans d2
                      replace u0 := (hb.cell (p := ⟨wx.heap.size, 0, none⟩) (by dsimp only; omega)).trans u0
                      replace u1 := (hb.cell (p := ⟨wx.heap.size, 1, none⟩) (by dsimp only; omega)).trans u1
                      replace u2 := (hb.cell (p := ⟨wx.heap.size, 2, none⟩) (by dsimp only; omega)).trans u2
                      have hO2 := owns_below hO1 hb
                      have hbr2 := hbr1.trans (hb.mono hbr1.size)
                      have hzb := hb.size
                      clear hb C hO1 hbr1 hqA1 hqY1
                      repeat' ((fail_if_success at_builtin); (first | go_skip | go_guarded | go_step))
                      generalize hw_wc : ((((((wb.setCell ⟨w2.heap.size, 0, none⟩ (.int .i64 s.app)).setCell ⟨w2.heap.size, 1, none⟩ (.slice AG2 s.who.length cg2)).setCell ⟨w2.heap.size, 2, none⟩ (.int .i64 s.exp)).setCell ⟨w2.heap.size, 3, none⟩ (.int .i64 now)).setCell ⟨w2.heap.size, 4, none⟩ (.slice AY2 yes.length cy2)).setCell ⟨w2.heap.size, 5, none⟩ (.int .i64 0)) = wc at *
                      have hO3 := owns_six hO2 (fun e => by have := (hO2.lt _ e.symm).1; omega) hw_wc
                      obtain ⟨⟨np0, np1, np2, np3, np4, np5⟩, far_wc, frz_wc, hsz_wc, bel_wc, own_wc⟩ := six_ok (.int .i64 s.app) (.slice AG2 s.who.length cg2) (.int .i64 s.exp) (.int .i64 now) (.slice AY2 yes.length cy2) (.int .i64 0) p0 p1 p2 p3 p4 p5 wc hw_wc
                      clear p0 p1 p2 p3 p4 p5 hw_wc
                      have p0 := np0
                      have p1 := np1
                      have p2 := np2
                      have p3 := np3
                      have p4 := np4
                      have p5 := np5
                      clear np0 np1 np2 np3 np4 np5
                      replace pF := fun j => (frz_wc ⟨w2.heap.size, j, none⟩).trans (pF j)
                      replace d0 := (far_wc ⟨w.heap.size, 0, none⟩ (by dsimp only; omega)).trans d0
                      replace d1 := (far_wc ⟨w.heap.size, 1, none⟩ (by dsimp only; omega)).trans d1
                      replace d2 := (far_wc ⟨w.heap.size, 2, none⟩ (by dsimp only; omega)).trans d2
                      have hbr3 := bel_wc _ _ (Nat.le_refl _) hbr2
                      have hqA3 := SeqP.map hqA2 (fun q hq => far_wc q (by have := hq.1; omega)) fun _ h => h
                      have hqY3 := SeqP.map hqY2 (fun q hq => far_wc q (by have := hq.1; omega)) fun _ h => h
                      have hzc := hsz_wc
                      clear far_wc frz_wc hsz_wc bel_wc own_wc hO2 hbr2 hqA2 hqY2 u0 u1 u2
                      have CS := refAsc_any (yes) AY2 cy2 wc (SeqP.imp hqY3 (fun b hb => by have := hb.2; omega)) (by have := hlen.out; omega) (fun x hx => by have := hm2 x (hC.sub x hx); omega)
                      rw [hC.asc] at CS
                      replace CS := Lib.hid CS
                      refine CS.out.mono ?_
                      rintro e we ⟨rfl, hb⟩
                      dsimp only
                      replace p0 := (hb.cell (p := ⟨w2.heap.size, 0, none⟩) (by dsimp only; omega)).trans p0
                      replace p1 := (hb.cell (p := ⟨w2.heap.size, 1, none⟩) (by dsimp only; omega)).trans p1
                      replace p2 := (hb.cell (p := ⟨w2.heap.size, 2, none⟩) (by dsimp only; omega)).trans p2
                      replace p3 := (hb.cell (p := ⟨w2.heap.size, 3, none⟩) (by dsimp only; omega)).trans p3
                      replace p4 := (hb.cell (p := ⟨w2.heap.size, 4, none⟩) (by dsimp only; omega)).trans p4
                      replace p5 := (hb.cell (p := ⟨w2.heap.size, 5, none⟩) (by dsimp only; omega)).trans p5
                      replace pF := frz_below hb (by omega) pF
                      have hO5 := owns_below hO3 hb
                      have hbr5 := hbr3.trans (hb.mono hbr3.size)
                      have hze := hb.size
                      have hqA5 := SeqP.belowS hqA3 hb (fun b hb => by have := hb.2; omega)
                      have hqY5 := SeqP.belowS hqY3 hb (fun b hb => by have := hb.2; omega)
                      clear CS hb
                      repeat' ((fail_if_success at_builtin); (first | go_skip | go_guarded | go_step))
                      go_roundw
                      case rel => exact ⟨i + 1, 0, yes, ys, AG2, cg2, AY2, cy2, by omega, by go_num, rfl, hC, by omega, hO5, hbr5, by omega, ⟨p0, p1, p2, p3, p4, p5⟩, pF, hqA5.imp (fun b hb => ⟨by have := hb.1; omega, by have := hb.2; omega⟩), hqY5.imp (fun b hb => ⟨by have := hb.1; omega, by have := hb.2; omega⟩)⟩
                      case measure => simp [intOf]; omega
                    | false =>
                      have hyy : hasL yes who = false := by rw [hCh]; exact hy
                      clear hCh
                      have hlt2 := hC.lt rfl
                      by_cases hfu : s.app ≤ (yes.length : Int) + 1
                      · have hfq : ((ys.length : Int) + 1 == s.app) = true := by have := hlen.out; simp; omega
                        have hleb2 : (((putL yes who).length : Int) != (ys.length : Int) + 1) = false := by have := hlen.out; rw [putL_len]; simp; omega
                        repeat' ((fail_if_success at_builtin); (first | go_skip | go_guarded | go_step))
                        have C := approveF_any ⟨s, now, yes, 0⟩ AG cg AY cy who t wa (hqA1.imp (fun b hb => by have := hb.2; omega)) (hqY1.imp (fun b hb => by have := hb.2; omega)) (by dsimp only; omega) (by have := hlen.out; dsimp only; omega) (fun x hx => hm2 x (hC.sub x hx)) (fun h => hm2 who (hasL_mem.1 (hcz.1 h).2.2)) ⟨by dsimp only; omega, by dsimp only; omega⟩ ⟨by dsimp only; omega, by dsimp only; omega⟩
                        obtain ⟨hg, hge⟩ := app_yes hr hyy
                        rw [hg, hge] at C
                        dsimp only at C
                        rw [if_pos hfu] at C
                        have hC2 := hC.put hyy hh
                        rw [if_pos hfu] at hC2
                        clear hg hge hcz
                        replace C := Lib.hid C
                        refine C.out.mono ?_
                        rintro e wb ⟨AG2, cg2, AY2, cy2, rfl, hb, hqA2, hqY2⟩
                        dsimp only at hqA2 hqY2 ⊢
                        replace p0 := (hb.cell (p := ⟨w2.heap.size, 0, none⟩) (by dsimp only; omega)).trans p0
                        replace p1 := (hb.cell (p := ⟨w2.heap.size, 1, none⟩) (by dsimp only; omega)).trans p1
                        replace p2 := (hb.cell (p := ⟨w2.heap.size, 2, none⟩) (by dsimp only; omega)).trans p2
                        replace p3 := (hb.cell (p := ⟨w2.heap.size, 3, none⟩) (by dsimp only; omega)).trans p3
                        replace p4 := (hb.cell (p := ⟨w2.heap.size, 4, none⟩) (by dsimp only; omega)).trans p4
                        replace p5 := (hb.cell (p := ⟨w2.heap.size, 5, none⟩) (by dsimp only; omega)).trans p5
                        replace pF := frz_below hb (by omega) pF
                        replace d0 := (hb.cell (p := ⟨w.heap.size, 0, none⟩) (by dsimp only; omega)).trans d0
                        replace d1 := (hb.cell (p := ⟨w.heap.size, 1, none⟩) (by dsimp only; omega)).trans d1
                        replace d2 := (hb.cell (p := ⟨w.heap.size, 2, none⟩) (by dsimp only; omega)).trans d2
                        replace u0 := (hb.cell (p := ⟨wx.heap.size, 0, none⟩) (by dsimp only; omega)).trans u0
                        replace u1 := (hb.cell (p := ⟨wx.heap.size, 1, none⟩) (by dsimp only; omega)).trans u1
                        replace u2 := (hb.cell (p := ⟨wx.heap.size, 2, none⟩) (by dsimp only; omega)).trans u2
                        have hO2 := owns_below hO1 hb
                        have hbr2 := hbr1.trans (hb.mono hbr1.size)
                        have hzb := hb.size
                        clear hb C hO1 hbr1 hqA1 hqY1
                        have hpl : (putL yes who).length = yes.length + 1 := putL_len
                        replace hpl := Lib.hid hpl
                        repeat' ((fail_if_success at_builtin); (first | go_skip | go_guarded | go_step))
                        generalize hw_wc : ((((((wb.setCell ⟨w2.heap.size, 0, none⟩ (.int .i64 s.app)).setCell ⟨w2.heap.size, 1, none⟩ (.slice AG2 s.who.length cg2)).setCell ⟨w2.heap.size, 2, none⟩ (.int .i64 s.exp)).setCell ⟨w2.heap.size, 3, none⟩ (.int .i64 now)).setCell ⟨w2.heap.size, 4, none⟩ (.slice AY2 (putL yes who).length cy2)).setCell ⟨w2.heap.size, 5, none⟩ (.int .i64 1)) = wc at *
                        have hO3 := owns_six hO2 (fun e => by have := (hO2.lt _ e.symm).1; omega) hw_wc
                        obtain ⟨⟨np0, np1, np2, np3, np4, np5⟩, far_wc, frz_wc, hsz_wc, bel_wc, own_wc⟩ := six_ok (.int .i64 s.app) (.slice AG2 s.who.length cg2) (.int .i64 s.exp) (.int .i64 now) (.slice AY2 (putL yes who).length cy2) (.int .i64 1) p0 p1 p2 p3 p4 p5 wc hw_wc
                        clear p0 p1 p2 p3 p4 p5 hw_wc
                        have p0 := np0
                        have p1 := np1
                        have p2 := np2
                        have p3 := np3
                        have p4 := np4
                        have p5 := np5
                        clear np0 np1 np2 np3 np4 np5
                        replace pF := fun j => (frz_wc ⟨w2.heap.size, j, none⟩).trans (pF j)
                        replace d0 := (far_wc ⟨w.heap.size, 0, none⟩ (by dsimp only; omega)).trans d0
                        replace d1 := (far_wc ⟨w.heap.size, 1, none⟩ (by dsimp only; omega)).trans d1
                        replace d2 := (far_wc ⟨w.heap.size, 2, none⟩ (by dsimp only; omega)).trans d2
                        have hbr3 := bel_wc _ _ (Nat.le_refl _) hbr2
                        have hqA3 := SeqP.map hqA2 (fun q hq => far_wc q (by have := hq.1; omega)) fun _ h => h
                        have hqY3 := SeqP.map hqY2 (fun q hq => far_wc q (by have := hq.1; omega)) fun _ h => h
                        have hzc := hsz_wc
                        clear far_wc frz_wc hsz_wc bel_wc own_wc hO2 hbr2 hqA2 hqY2 u0 u1 u2
                        refine wp_app1 (W0 := w2) (hgs := hzc.symm) ⟨ownsRow_mono hO3 (by omega), hbr3⟩ Tryd.underlying22 str_info (by omega) ?_
                        intro v9 wd hown9 hgr
                        have hal := (Below.refl wc.heap.size wc).alloc (Nat.le_refl _) (.cells #[.string who] 9)
                        have hzr : (wc.alloc (.cells #[.string who] 9)).heap.size = wc.heap.size + 1 := by simp
                        have hne : ∀ b, b ≤ w2.heap.size ∨ wx.heap.size ≤ b → some b ≠ (Value.slice AO ys.length cO).ownBlock := fun b hb e => by have := hOk b e.symm; omega
                        replace p0 := ((hgr.cell (p := ⟨w2.heap.size, 0, none⟩) (by dsimp only; omega) (hne _ (.inl (Nat.le_refl _)))).trans (hal.cell (p := ⟨w2.heap.size, 0, none⟩) (by dsimp only; omega))).trans p0
                        replace p1 := ((hgr.cell (p := ⟨w2.heap.size, 1, none⟩) (by dsimp only; omega) (hne _ (.inl (Nat.le_refl _)))).trans (hal.cell (p := ⟨w2.heap.size, 1, none⟩) (by dsimp only; omega))).trans p1
                        replace p2 := ((hgr.cell (p := ⟨w2.heap.size, 2, none⟩) (by dsimp only; omega) (hne _ (.inl (Nat.le_refl _)))).trans (hal.cell (p := ⟨w2.heap.size, 2, none⟩) (by dsimp only; omega))).trans p2
                        replace p3 := ((hgr.cell (p := ⟨w2.heap.size, 3, none⟩) (by dsimp only; omega) (hne _ (.inl (Nat.le_refl _)))).trans (hal.cell (p := ⟨w2.heap.size, 3, none⟩) (by dsimp only; omega))).trans p3
                        replace p4 := ((hgr.cell (p := ⟨w2.heap.size, 4, none⟩) (by dsimp only; omega) (hne _ (.inl (Nat.le_refl _)))).trans (hal.cell (p := ⟨w2.heap.size, 4, none⟩) (by dsimp only; omega))).trans p4
                        replace p5 := ((hgr.cell (p := ⟨w2.heap.size, 5, none⟩) (by dsimp only; omega) (hne _ (.inl (Nat.le_refl _)))).trans (hal.cell (p := ⟨w2.heap.size, 5, none⟩) (by dsimp only; omega))).trans p5
                        replace d0 := ((hgr.cell (p := ⟨w.heap.size, 0, none⟩) (by dsimp only; omega) (hne _ (.inl (by dsimp only; omega)))).trans (hal.cell (p := ⟨w.heap.size, 0, none⟩) (by dsimp only; omega))).trans d0
                        replace d1 := ((hgr.cell (p := ⟨w.heap.size, 1, none⟩) (by dsimp only; omega) (hne _ (.inl (by dsimp only; omega)))).trans (hal.cell (p := ⟨w.heap.size, 1, none⟩) (by dsimp only; omega))).trans d1
                        replace d2 := ((hgr.cell (p := ⟨w.heap.size, 2, none⟩) (by dsimp only; omega) (hne _ (.inl (by dsimp only; omega)))).trans (hal.cell (p := ⟨w.heap.size, 2, none⟩) (by dsimp only; omega))).trans d2
                        replace pF : ∀ j, wd.frozen? ⟨w2.heap.size, j, none⟩ = false := fun j => ((hgr.frozen (p := ⟨w2.heap.size, j, none⟩) (by dsimp only; omega) (hne _ (.inl (Nat.le_refl _)))).trans (hal.frozen (p := ⟨w2.heap.size, j, none⟩) (by dsimp only; omega))).trans (pF j)
                        have hqA4 := SeqP.map hqA3 (fun q hq => (hgr.cell (p := q) (by have := hq.2; omega) (hne _ (.inr (by have := hq.1; omega)))).trans (hal.cell (p := q) (by have := hq.2; omega))) fun _ h => h
                        have hqY4 := SeqP.map hqY3 (fun q hq => (hgr.cell (p := q) (by have := hq.2; omega) (hne _ (.inr (by have := hq.1; omega)))).trans (hal.cell (p := q) (by have := hq.2; omega))) fun _ h => h
                        have hzd : wc.heap.size + 1 ≤ wd.heap.size := by have := hgr.by_.size; omega
                        have hO4 : wd.ownsRow (w2.heap.size + 1) 9 1 v9 (ys ++ [who]).length (cellsS (ys ++ [who])) := by
                          have h1 := owns_raise (B' := w2.heap.size + 1) hown9.1 (fun g hg => by
                            rcases hgr.at_ with e | e
                            · rw [e] at hg; exact (hOk g hg).1
                            · rw [e] at hg; injection hg; omega)
                          have h2 : (ys ++ [who]).length = ys.length + 1 := by simp
                          have h3 : cellsS (ys ++ [who]) = cellsS ys ++ (#[Value.string who] : Array Value).toList := by simp
                          rw [h2, h3]
                          exact h1
                        have hbr4 := hown9.2
                        obtain ⟨A9, c9, rfl⟩ := hown9.slice_form
                        clear hown9 hgr hal hO3 hbr3 hqA3 hqY3
                        repeat' ((fail_if_success at_builtin); (first | go_skip | go_guarded | go_step))
                        have CS := refAsc_any (putL yes who) AY2 cy2 wd (SeqP.imp hqY4 (fun b hb => by have := hb.2; omega)) (by have := hlen.out; have := hpl.out; omega) (fun x hx => by have := hm2 x (hC2.sub x hx); omega)
                        rw [hC2.asc] at CS
                        replace CS := Lib.hid CS
                        refine CS.out.mono ?_
                        rintro e we ⟨rfl, hb⟩
                        dsimp only
                        replace p0 := (hb.cell (p := ⟨w2.heap.size, 0, none⟩) (by dsimp only; omega)).trans p0
                        replace p1 := (hb.cell (p := ⟨w2.heap.size, 1, none⟩) (by dsimp only; omega)).trans p1
                        replace p2 := (hb.cell (p := ⟨w2.heap.size, 2, none⟩) (by dsimp only; omega)).trans p2
                        replace p3 := (hb.cell (p := ⟨w2.heap.size, 3, none⟩) (by dsimp only; omega)).trans p3
                        replace p4 := (hb.cell (p := ⟨w2.heap.size, 4, none⟩) (by dsimp only; omega)).trans p4
                        replace p5 := (hb.cell (p := ⟨w2.heap.size, 5, none⟩) (by dsimp only; omega)).trans p5
                        replace pF := frz_below hb (by omega) pF
                        have hO5 := owns_below hO4 hb
                        have hbr5 := hbr4.trans (hb.mono hbr4.size)
                        have hze := hb.size
                        have hqA5 := SeqP.belowS hqA4 hb (fun b hb => by have := hb.2; omega)
                        have hqY5 := SeqP.belowS hqY4 hb (fun b hb => by have := hb.2; omega)
                        clear CS hb
                        repeat' ((fail_if_success at_builtin); (first | go_skip | go_guarded | go_step))
                        go_roundw
                        case rel => exact ⟨i + 1, 1, putL yes who, ys ++ [who], AG2, cg2, AY2, cy2, by omega, by go_num, rfl, hC2, by simp; omega, hO5, hbr5, by omega, ⟨p0, p1, p2, p3, p4, p5⟩, pF, hqA5.imp (fun b hb => ⟨by have := hb.1; omega, by have := hb.2; omega⟩), hqY5.imp (fun b hb => ⟨by have := hb.1; omega, by have := hb.2; omega⟩)⟩
                        case measure => simp [intOf]; omega
                      · have hfq : ((ys.length : Int) + 1 == s.app) = false := by have := hlen.out; simp; omega
                        have hleb2 : (((putL yes who).length : Int) != (ys.length : Int) + 1) = false := by have := hlen.out; rw [putL_len]; simp; omega
                        repeat' ((fail_if_success at_builtin); (first | go_skip | go_guarded | go_step))
                        have C := approveF_any ⟨s, now, yes, 0⟩ AG cg AY cy who t wa (hqA1.imp (fun b hb => by have := hb.2; omega)) (hqY1.imp (fun b hb => by have := hb.2; omega)) (by dsimp only; omega) (by have := hlen.out; dsimp only; omega) (fun x hx => hm2 x (hC.sub x hx)) (fun h => hm2 who (hasL_mem.1 (hcz.1 h).2.2)) ⟨by dsimp only; omega, by dsimp only; omega⟩ ⟨by dsimp only; omega, by dsimp only; omega⟩
                        obtain ⟨hg, hge⟩ := app_yes hr hyy
                        rw [hg, hge] at C
                        dsimp only at C
                        rw [if_neg hfu] at C
                        have hC2 := hC.put hyy hh
                        rw [if_neg hfu] at hC2
                        clear hg hge hcz
                        replace C := Lib.hid C
                        refine C.out.mono ?_
                        rintro e wb ⟨AG2, cg2, AY2, cy2, rfl, hb, hqA2, hqY2⟩
                        dsimp only at hqA2 hqY2 ⊢
                        replace p0 := (hb.cell (p := ⟨w2.heap.size, 0, none⟩) (by dsimp only; omega)).trans p0
                        replace p1 := (hb.cell (p := ⟨w2.heap.size, 1, none⟩) (by dsimp only; omega)).trans p1
                        replace p2 := (hb.cell (p := ⟨w2.heap.size, 2, none⟩) (by dsimp only; omega)).trans p2
                        replace p3 := (hb.cell (p := ⟨w2.heap.size, 3, none⟩) (by dsimp only; omega)).trans p3
                        replace p4 := (hb.cell (p := ⟨w2.heap.size, 4, none⟩) (by dsimp only; omega)).trans p4
                        replace p5 := (hb.cell (p := ⟨w2.heap.size, 5, none⟩) (by dsimp only; omega)).trans p5
                        replace pF := frz_below hb (by omega) pF
                        replace d0 := (hb.cell (p := ⟨w.heap.size, 0, none⟩) (by dsimp only; omega)).trans d0
                        replace d1 := (hb.cell (p := ⟨w.heap.size, 1, none⟩) (by dsimp only; omega)).trans d1
                        replace d2 := (hb.cell (p := ⟨w.heap.size, 2, none⟩) (by dsimp only; omega)).trans d2
                        replace u0 := (hb.cell (p := ⟨wx.heap.size, 0, none⟩) (by dsimp only; omega)).trans u0
                        replace u1 := (hb.cell (p := ⟨wx.heap.size, 1, none⟩) (by dsimp only; omega)).trans u1
                        replace u2 := (hb.cell (p := ⟨wx.heap.size, 2, none⟩) (by dsimp only; omega)).trans u2
                        have hO2 := owns_below hO1 hb
                        have hbr2 := hbr1.trans (hb.mono hbr1.size)
                        have hzb := hb.size
                        clear hb C hO1 hbr1 hqA1 hqY1
                        have hpl : (putL yes who).length = yes.length + 1 := putL_len
                        replace hpl := Lib.hid hpl
                        repeat' ((fail_if_success at_builtin); (first | go_skip | go_guarded | go_step))
                        generalize hw_wc : ((((((wb.setCell ⟨w2.heap.size, 0, none⟩ (.int .i64 s.app)).setCell ⟨w2.heap.size, 1, none⟩ (.slice AG2 s.who.length cg2)).setCell ⟨w2.heap.size, 2, none⟩ (.int .i64 s.exp)).setCell ⟨w2.heap.size, 3, none⟩ (.int .i64 now)).setCell ⟨w2.heap.size, 4, none⟩ (.slice AY2 (putL yes who).length cy2)).setCell ⟨w2.heap.size, 5, none⟩ (.int .i64 0)) = wc at *
                        have hO3 := owns_six hO2 (fun e => by have := (hO2.lt _ e.symm).1; omega) hw_wc
                        obtain ⟨⟨np0, np1, np2, np3, np4, np5⟩, far_wc, frz_wc, hsz_wc, bel_wc, own_wc⟩ := six_ok (.int .i64 s.app) (.slice AG2 s.who.length cg2) (.int .i64 s.exp) (.int .i64 now) (.slice AY2 (putL yes who).length cy2) (.int .i64 0) p0 p1 p2 p3 p4 p5 wc hw_wc
                        clear p0 p1 p2 p3 p4 p5 hw_wc
                        have p0 := np0
                        have p1 := np1
                        have p2 := np2
                        have p3 := np3
                        have p4 := np4
                        have p5 := np5
                        clear np0 np1 np2 np3 np4 np5
                        replace pF := fun j => (frz_wc ⟨w2.heap.size, j, none⟩).trans (pF j)
                        replace d0 := (far_wc ⟨w.heap.size, 0, none⟩ (by dsimp only; omega)).trans d0
                        replace d1 := (far_wc ⟨w.heap.size, 1, none⟩ (by dsimp only; omega)).trans d1
                        replace d2 := (far_wc ⟨w.heap.size, 2, none⟩ (by dsimp only; omega)).trans d2
                        have hbr3 := bel_wc _ _ (Nat.le_refl _) hbr2
                        have hqA3 := SeqP.map hqA2 (fun q hq => far_wc q (by have := hq.1; omega)) fun _ h => h
                        have hqY3 := SeqP.map hqY2 (fun q hq => far_wc q (by have := hq.1; omega)) fun _ h => h
                        have hzc := hsz_wc
                        clear far_wc frz_wc hsz_wc bel_wc own_wc hO2 hbr2 hqA2 hqY2 u0 u1 u2
                        refine wp_app1 (W0 := w2) (hgs := hzc.symm) ⟨ownsRow_mono hO3 (by omega), hbr3⟩ Tryd.underlying22 str_info (by omega) ?_
                        intro v9 wd hown9 hgr
                        have hal := (Below.refl wc.heap.size wc).alloc (Nat.le_refl _) (.cells #[.string who] 9)
                        have hzr : (wc.alloc (.cells #[.string who] 9)).heap.size = wc.heap.size + 1 := by simp
                        have hne : ∀ b, b ≤ w2.heap.size ∨ wx.heap.size ≤ b → some b ≠ (Value.slice AO ys.length cO).ownBlock := fun b hb e => by have := hOk b e.symm; omega
                        replace p0 := ((hgr.cell (p := ⟨w2.heap.size, 0, none⟩) (by dsimp only; omega) (hne _ (.inl (Nat.le_refl _)))).trans (hal.cell (p := ⟨w2.heap.size, 0, none⟩) (by dsimp only; omega))).trans p0
                        replace p1 := ((hgr.cell (p := ⟨w2.heap.size, 1, none⟩) (by dsimp only; omega) (hne _ (.inl (Nat.le_refl _)))).trans (hal.cell (p := ⟨w2.heap.size, 1, none⟩) (by dsimp only; omega))).trans p1
                        replace p2 := ((hgr.cell (p := ⟨w2.heap.size, 2, none⟩) (by dsimp only; omega) (hne _ (.inl (Nat.le_refl _)))).trans (hal.cell (p := ⟨w2.heap.size, 2, none⟩) (by dsimp only; omega))).trans p2
                        replace p3 := ((hgr.cell (p := ⟨w2.heap.size, 3, none⟩) (by dsimp only; omega) (hne _ (.inl (Nat.le_refl _)))).trans (hal.cell (p := ⟨w2.heap.size, 3, none⟩) (by dsimp only; omega))).trans p3
                        replace p4 := ((hgr.cell (p := ⟨w2.heap.size, 4, none⟩) (by dsimp only; omega) (hne _ (.inl (Nat.le_refl _)))).trans (hal.cell (p := ⟨w2.heap.size, 4, none⟩) (by dsimp only; omega))).trans p4
                        replace p5 := ((hgr.cell (p := ⟨w2.heap.size, 5, none⟩) (by dsimp only; omega) (hne _ (.inl (Nat.le_refl _)))).trans (hal.cell (p := ⟨w2.heap.size, 5, none⟩) (by dsimp only; omega))).trans p5
                        replace d0 := ((hgr.cell (p := ⟨w.heap.size, 0, none⟩) (by dsimp only; omega) (hne _ (.inl (by dsimp only; omega)))).trans (hal.cell (p := ⟨w.heap.size, 0, none⟩) (by dsimp only; omega))).trans d0
                        replace d1 := ((hgr.cell (p := ⟨w.heap.size, 1, none⟩) (by dsimp only; omega) (hne _ (.inl (by dsimp only; omega)))).trans (hal.cell (p := ⟨w.heap.size, 1, none⟩) (by dsimp only; omega))).trans d1
                        replace d2 := ((hgr.cell (p := ⟨w.heap.size, 2, none⟩) (by dsimp only; omega) (hne _ (.inl (by dsimp only; omega)))).trans (hal.cell (p := ⟨w.heap.size, 2, none⟩) (by dsimp only; omega))).trans d2
                        replace pF : ∀ j, wd.frozen? ⟨w2.heap.size, j, none⟩ = false := fun j => ((hgr.frozen (p := ⟨w2.heap.size, j, none⟩) (by dsimp only; omega) (hne _ (.inl (Nat.le_refl _)))).trans (hal.frozen (p := ⟨w2.heap.size, j, none⟩) (by dsimp only; omega))).trans (pF j)
                        have hqA4 := SeqP.map hqA3 (fun q hq => (hgr.cell (p := q) (by have := hq.2; omega) (hne _ (.inr (by have := hq.1; omega)))).trans (hal.cell (p := q) (by have := hq.2; omega))) fun _ h => h
                        have hqY4 := SeqP.map hqY3 (fun q hq => (hgr.cell (p := q) (by have := hq.2; omega) (hne _ (.inr (by have := hq.1; omega)))).trans (hal.cell (p := q) (by have := hq.2; omega))) fun _ h => h
                        have hzd : wc.heap.size + 1 ≤ wd.heap.size := by have := hgr.by_.size; omega
                        have hO4 : wd.ownsRow (w2.heap.size + 1) 9 1 v9 (ys ++ [who]).length (cellsS (ys ++ [who])) := by
                          have h1 := owns_raise (B' := w2.heap.size + 1) hown9.1 (fun g hg => by
                            rcases hgr.at_ with e | e
                            · rw [e] at hg; exact (hOk g hg).1
                            · rw [e] at hg; injection hg; omega)
                          have h2 : (ys ++ [who]).length = ys.length + 1 := by simp
                          have h3 : cellsS (ys ++ [who]) = cellsS ys ++ (#[Value.string who] : Array Value).toList := by simp
                          rw [h2, h3]
                          exact h1
                        have hbr4 := hown9.2
                        obtain ⟨A9, c9, rfl⟩ := hown9.slice_form
                        clear hown9 hgr hal hO3 hbr3 hqA3 hqY3
                        repeat' ((fail_if_success at_builtin); (first | go_skip | go_guarded | go_step))
                        have CS := refAsc_any (putL yes who) AY2 cy2 wd (SeqP.imp hqY4 (fun b hb => by have := hb.2; omega)) (by have := hlen.out; have := hpl.out; omega) (fun x hx => by have := hm2 x (hC2.sub x hx); omega)
                        rw [hC2.asc] at CS
                        replace CS := Lib.hid CS
                        refine CS.out.mono ?_
                        rintro e we ⟨rfl, hb⟩
                        dsimp only
                        replace p0 := (hb.cell (p := ⟨w2.heap.size, 0, none⟩) (by dsimp only; omega)).trans p0
                        replace p1 := (hb.cell (p := ⟨w2.heap.size, 1, none⟩) (by dsimp only; omega)).trans p1
                        replace p2 := (hb.cell (p := ⟨w2.heap.size, 2, none⟩) (by dsimp only; omega)).trans p2
                        replace p3 := (hb.cell (p := ⟨w2.heap.size, 3, none⟩) (by dsimp only; omega)).trans p3
                        replace p4 := (hb.cell (p := ⟨w2.heap.size, 4, none⟩) (by dsimp only; omega)).trans p4
                        replace p5 := (hb.cell (p := ⟨w2.heap.size, 5, none⟩) (by dsimp only; omega)).trans p5
                        replace pF := frz_below hb (by omega) pF
                        have hO5 := owns_below hO4 hb
                        have hbr5 := hbr4.trans (hb.mono hbr4.size)
                        have hze := hb.size
                        have hqA5 := SeqP.belowS hqA4 hb (fun b hb => by have := hb.2; omega)
                        have hqY5 := SeqP.belowS hqY4 hb (fun b hb => by have := hb.2; omega)
                        clear CS hb
                        repeat' ((fail_if_success at_builtin); (first | go_skip | go_guarded | go_step))
                        go_roundw
                        case rel => exact ⟨i + 1, 0, putL yes who, ys ++ [who], AG2, cg2, AY2, cy2, by omega, by go_num, rfl, hC2, by simp; omega, hO5, hbr5, by omega, ⟨p0, p1, p2, p3, p4, p5⟩, pF, hqA5.imp (fun b hb => ⟨by have := hb.1; omega, by have := hb.2; omega⟩), hqY5.imp (fun b hb => ⟨by have := hb.1; omega, by have := hb.2; omega⟩)⟩
                        case measure => simp [intOf]; omega
              · have hr : checkG ⟨s, now, yes, 0⟩ who t ≠ 0 := fun h => ht (hcz.1 h).2.1
                have htd : decide (t < now + s.exp) = false := decide_eq_false ht
                cases no with
                | true =>
                  repeat' ((fail_if_success at_builtin); (first | go_skip | go_guarded | go_step))
                  have hal := (Below.refl wx.heap.size wx).alloc (Nat.le_refl _) (.cells #[.string who, .bool true, .int .i64 t] 47)
                  replace p0 := (hal.cell (p := ⟨w2.heap.size, 0, none⟩) (by dsimp only; omega)).trans p0
                  replace p1 := (hal.cell (p := ⟨w2.heap.size, 1, none⟩) (by dsimp only; omega)).trans p1
                  replace p2 := (hal.cell (p := ⟨w2.heap.size, 2, none⟩) (by dsimp only; omega)).trans p2
                  replace p3 := (hal.cell (p := ⟨w2.heap.size, 3, none⟩) (by dsimp only; omega)).trans p3
                  replace p4 := (hal.cell (p := ⟨w2.heap.size, 4, none⟩) (by dsimp only; omega)).trans p4
                  replace p5 := (hal.cell (p := ⟨w2.heap.size, 5, none⟩) (by dsimp only; omega)).trans p5
                  replace pF := frz_below hal (by omega) pF
                  replace d0 := (hal.cell (p := ⟨w.heap.size, 0, none⟩) (by dsimp only; omega)).trans d0
                  replace d1 := (hal.cell (p := ⟨w.heap.size, 1, none⟩) (by dsimp only; omega)).trans d1
                  replace d2 := (hal.cell (p := ⟨w.heap.size, 2, none⟩) (by dsimp only; omega)).trans d2
                  have u0 : (wx.alloc (.cells #[.string who, .bool true, .int .i64 t] 47)).cell? ⟨wx.heap.size, 0, none⟩ = some (.string who) := by simp [go_sem]
                  have u1 : (wx.alloc (.cells #[.string who, .bool true, .int .i64 t] 47)).cell? ⟨wx.heap.size, 1, none⟩ = some (.bool true) := by simp [go_sem]
                  have u2 : (wx.alloc (.cells #[.string who, .bool true, .int .i64 t] 47)).cell? ⟨wx.heap.size, 2, none⟩ = some (.int .i64 t) := by simp [go_sem]
                  have hza : (wx.alloc (.cells #[.string who, .bool true, .int .i64 t] 47)).heap.size = wx.heap.size + 1 := by simp
                  have hqA1 := hqA.belowS hal (fun b hb => hb.2)
                  have hqY1 := hqY.belowS hal (fun b hb => hb.2)
                  have hO1 := owns_below hO hal
                  have hbr1 := hbr.trans (hal.mono hbr.size)
                  have hsa := (hsx.below hal).more hal.size
                  have hOk : ∀ g, (Value.slice AO ys.length cO).ownBlock = some g → w2.heap.size + 1 ≤ g ∧ g < wx.heap.size := fun g hg => hO.lt g hg
                  generalize wx.alloc (.cells #[.string who, .bool true, .int .i64 t] 47) = wa at *
                  clear hal hO hqA hqY hsx
                  have C := rejectF_any ⟨s, now, yes, 0⟩ AG cg AY cy who t wa (hqA1.imp (fun b hb => by have := hb.2; omega)) (hqY1.imp (fun b hb => by have := hb.2; omega)) (by dsimp only; omega) (by have := hlen.out; dsimp only; omega) ⟨by dsimp only; omega, by dsimp only; omega⟩ ⟨by dsimp only; omega, by dsimp only; omega⟩
                  have hg : rejG ⟨s, now, yes, 0⟩ who t = ⟨s, now, yes, 0⟩ := by unfold rejG; rw [if_pos hr]
                  rw [hg] at C
                  generalize checkG ⟨s, now, yes, 0⟩ who t = r at *
                  have hr0 : (r == 0) = false := by simp [hr]
                  clear hg hcz
                  replace C := Lib.hid C
                  refine C.out.mono ?_
                  rintro e wb ⟨AG2, cg2, AY2, cy2, rfl, hb, hqA2, hqY2⟩
                  dsimp only at hqA2 hqY2 ⊢
                  replace p0 := (hb.cell (p := ⟨w2.heap.size, 0, none⟩) (by dsimp only; omega)).trans p0
                  replace p1 := (hb.cell (p := ⟨w2.heap.size, 1, none⟩) (by dsimp only; omega)).trans p1
                  replace p2 := (hb.cell (p := ⟨w2.heap.size, 2, none⟩) (by dsimp only; omega)).trans p2
                  replace p3 := (hb.cell (p := ⟨w2.heap.size, 3, none⟩) (by dsimp only; omega)).trans p3
                  replace p4 := (hb.cell (p := ⟨w2.heap.size, 4, none⟩) (by dsimp only; omega)).trans p4
                  replace p5 := (hb.cell (p := ⟨w2.heap.size, 5, none⟩) (by dsimp only; omega)).trans p5
                  replace pF := frz_below hb (by omega) pF
                  replace d0 := (hb.cell (p := ⟨w.heap.size, 0, none⟩) (by dsimp only; omega)).trans d0
                  replace d1 := (hb.cell (p := ⟨w.heap.size, 1, none⟩) (by dsimp only; omega)).trans d1
                  replace d2 := (hb.cell (p := ⟨w.heap.size, 2, none⟩) (by dsimp only; omega)).trans d2
                  replace u0 := (hb.cell (p := ⟨wx.heap.size, 0, none⟩) (by dsimp only; omega)).trans u0
                  replace u1 := (hb.cell (p := ⟨wx.heap.size, 1, none⟩) (by dsimp only; omega)).trans u1
                  replace u2 := (hb.cell (p := ⟨wx.heap.size, 2, none⟩) (by dsimp only; omega)).trans u2
                  have hO2 := owns_below hO1 hb
                  have hbr2 := hbr1.trans (hb.mono hbr1.size)
                  have hzb := hb.size
                  clear hb C hO1 hbr1 hqA1 hqY1
                  repeat' ((fail_if_success at_builtin); (first | go_skip | go_guarded | go_step))
                  generalize hw_wc : ((((((wb.setCell ⟨w2.heap.size, 0, none⟩ (.int .i64 s.app)).setCell ⟨w2.heap.size, 1, none⟩ (.slice AG2 s.who.length cg2)).setCell ⟨w2.heap.size, 2, none⟩ (.int .i64 s.exp)).setCell ⟨w2.heap.size, 3, none⟩ (.int .i64 now)).setCell ⟨w2.heap.size, 4, none⟩ (.slice AY2 yes.length cy2)).setCell ⟨w2.heap.size, 5, none⟩ (.int .i64 0)) = wc at *
                  have hO3 := owns_six hO2 (fun e => by have := (hO2.lt _ e.symm).1; omega) hw_wc
                  obtain ⟨⟨np0, np1, np2, np3, np4, np5⟩, far_wc, frz_wc, hsz_wc, bel_wc, own_wc⟩ := six_ok (.int .i64 s.app) (.slice AG2 s.who.length cg2) (.int .i64 s.exp) (.int .i64 now) (.slice AY2 yes.length cy2) (.int .i64 0) p0 p1 p2 p3 p4 p5 wc hw_wc
                  clear p0 p1 p2 p3 p4 p5 hw_wc
                  have p0 := np0
                  have p1 := np1
                  have p2 := np2
                  have p3 := np3
                  have p4 := np4
                  have p5 := np5
                  clear np0 np1 np2 np3 np4 np5
                  replace pF := fun j => (frz_wc ⟨w2.heap.size, j, none⟩).trans (pF j)
                  replace d0 := (far_wc ⟨w.heap.size, 0, none⟩ (by dsimp only; omega)).trans d0
                  replace d1 := (far_wc ⟨w.heap.size, 1, none⟩ (by dsimp only; omega)).trans d1
                  replace d2 := (far_wc ⟨w.heap.size, 2, none⟩ (by dsimp only; omega)).trans d2
                  have hbr3 := bel_wc _ _ (Nat.le_refl _) hbr2
                  have hqA3 := SeqP.map hqA2 (fun q hq => far_wc q (by have := hq.1; omega)) fun _ h => h
                  have hqY3 := SeqP.map hqY2 (fun q hq => far_wc q (by have := hq.1; omega)) fun _ h => h
                  have hzc := hsz_wc
                  clear far_wc frz_wc hsz_wc bel_wc own_wc hO2 hbr2 hqA2 hqY2 u0 u1 u2
                  have CS := refAsc_any (yes) AY2 cy2 wc (SeqP.imp hqY3 (fun b hb => by have := hb.2; omega)) (by have := hlen.out; omega) (fun x hx => by have := hm2 x (hC.sub x hx); omega)
                  rw [hC.asc] at CS
                  replace CS := Lib.hid CS
                  refine CS.out.mono ?_
                  rintro e we ⟨rfl, hb⟩
                  dsimp only
                  replace p0 := (hb.cell (p := ⟨w2.heap.size, 0, none⟩) (by dsimp only; omega)).trans p0
                  replace p1 := (hb.cell (p := ⟨w2.heap.size, 1, none⟩) (by dsimp only; omega)).trans p1
                  replace p2 := (hb.cell (p := ⟨w2.heap.size, 2, none⟩) (by dsimp only; omega)).trans p2
                  replace p3 := (hb.cell (p := ⟨w2.heap.size, 3, none⟩) (by dsimp only; omega)).trans p3
                  replace p4 := (hb.cell (p := ⟨w2.heap.size, 4, none⟩) (by dsimp only; omega)).trans p4
                  replace p5 := (hb.cell (p := ⟨w2.heap.size, 5, none⟩) (by dsimp only; omega)).trans p5
                  replace pF := frz_below hb (by omega) pF
                  have hO5 := owns_below hO3 hb
                  have hbr5 := hbr3.trans (hb.mono hbr3.size)
                  have hze := hb.size
                  have hqA5 := SeqP.belowS hqA3 hb (fun b hb => by have := hb.2; omega)
                  have hqY5 := SeqP.belowS hqY3 hb (fun b hb => by have := hb.2; omega)
                  clear CS hb
                  repeat' ((fail_if_success at_builtin); (first | go_skip | go_guarded | go_step))
                  go_roundw
                  case rel => exact ⟨i + 1, 0, yes, ys, AG2, cg2, AY2, cy2, by omega, by go_num, rfl, hC, by omega, hO5, hbr5, by omega, ⟨p0, p1, p2, p3, p4, p5⟩, pF, hqA5.imp (fun b hb => ⟨by have := hb.1; omega, by have := hb.2; omega⟩), hqY5.imp (fun b hb => ⟨by have := hb.1; omega, by have := hb.2; omega⟩)⟩
                  case measure => simp [intOf]; omega
                | false =>
                  repeat' ((fail_if_success at_builtin); (first | go_skip | go_guarded | go_step))
                  have hal := (Below.refl wx.heap.size wx).alloc (Nat.le_refl _) (.cells #[.string who, .bool false, .int .i64 t] 47)
                  replace p0 := (hal.cell (p := ⟨w2.heap.size, 0, none⟩) (by dsimp only; omega)).trans p0
                  replace p1 := (hal.cell (p := ⟨w2.heap.size, 1, none⟩) (by dsimp only; omega)).trans p1
                  replace p2 := (hal.cell (p := ⟨w2.heap.size, 2, none⟩) (by dsimp only; omega)).trans p2
                  replace p3 := (hal.cell (p := ⟨w2.heap.size, 3, none⟩) (by dsimp only; omega)).trans p3
                  replace p4 := (hal.cell (p := ⟨w2.heap.size, 4, none⟩) (by dsimp only; omega)).trans p4
                  replace p5 := (hal.cell (p := ⟨w2.heap.size, 5, none⟩) (by dsimp only; omega)).trans p5
                  replace pF := frz_below hal (by omega) pF
                  replace d0 := (hal.cell (p := ⟨w.heap.size, 0, none⟩) (by dsimp only; omega)).trans d0
                  replace d1 := (hal.cell (p := ⟨w.heap.size, 1, none⟩) (by dsimp only; omega)).trans d1
                  replace d2 := (hal.cell (p := ⟨w.heap.size, 2, none⟩) (by dsimp only; omega)).trans d2
                  have u0 : (wx.alloc (.cells #[.string who, .bool false, .int .i64 t] 47)).cell? ⟨wx.heap.size, 0, none⟩ = some (.string who) := by simp [go_sem]
                  have u1 : (wx.alloc (.cells #[.string who, .bool false, .int .i64 t] 47)).cell? ⟨wx.heap.size, 1, none⟩ = some (.bool false) := by simp [go_sem]
                  have u2 : (wx.alloc (.cells #[.string who, .bool false, .int .i64 t] 47)).cell? ⟨wx.heap.size, 2, none⟩ = some (.int .i64 t) := by simp [go_sem]
                  have hza : (wx.alloc (.cells #[.string who, .bool false, .int .i64 t] 47)).heap.size = wx.heap.size + 1 := by simp
                  have hqA1 := hqA.belowS hal (fun b hb => hb.2)
                  have hqY1 := hqY.belowS hal (fun b hb => hb.2)
                  have hO1 := owns_below hO hal
                  have hbr1 := hbr.trans (hal.mono hbr.size)
                  have hsa := (hsx.below hal).more hal.size
                  have hOk : ∀ g, (Value.slice AO ys.length cO).ownBlock = some g → w2.heap.size + 1 ≤ g ∧ g < wx.heap.size := fun g hg => hO.lt g hg
                  generalize wx.alloc (.cells #[.string who, .bool false, .int .i64 t] 47) = wa at *
                  clear hal hO hqA hqY hsx
                  have C := approveF_any ⟨s, now, yes, 0⟩ AG cg AY cy who t wa (hqA1.imp (fun b hb => by have := hb.2; omega)) (hqY1.imp (fun b hb => by have := hb.2; omega)) (by dsimp only; omega) (by have := hlen.out; dsimp only; omega) (fun x hx => hm2 x (hC.sub x hx)) (fun h => hm2 who (hasL_mem.1 (hcz.1 h).2.2)) ⟨by dsimp only; omega, by dsimp only; omega⟩ ⟨by dsimp only; omega, by dsimp only; omega⟩
                  obtain ⟨hg, hge⟩ := app_no hr
                  rw [hg, hge] at C
                  generalize checkG ⟨s, now, yes, 0⟩ who t = r at *
                  have hr0 : (r == 0) = false := by simp [hr]
                  clear hg hge hcz
                  replace C := Lib.hid C
                  refine C.out.mono ?_
                  rintro e wb ⟨AG2, cg2, AY2, cy2, rfl, hb, hqA2, hqY2⟩
                  dsimp only at hqA2 hqY2 ⊢
                  replace p0 := (hb.cell (p := ⟨w2.heap.size, 0, none⟩) (by dsimp only; omega)).trans p0
                  replace p1 := (hb.cell (p := ⟨w2.heap.size, 1, none⟩) (by dsimp only; omega)).trans p1
                  replace p2 := (hb.cell (p := ⟨w2.heap.size, 2, none⟩) (by dsimp only; omega)).trans p2
                  replace p3 := (hb.cell (p := ⟨w2.heap.size, 3, none⟩) (by dsimp only; omega)).trans p3
                  replace p4 := (hb.cell (p := ⟨w2.heap.size, 4, none⟩) (by dsimp only; omega)).trans p4
                  replace p5 := (hb.cell (p := ⟨w2.heap.size, 5, none⟩) (by dsimp only; omega)).trans p5
                  replace pF := frz_below hb (by omega) pF
                  replace d0 := (hb.cell (p := ⟨w.heap.size, 0, none⟩) (by dsimp only; omega)).trans d0
                  replace d1 := (hb.cell (p := ⟨w.heap.size, 1, none⟩) (by dsimp only; omega)).trans d1
                  replace d2 := (hb.cell (p := ⟨w.heap.size, 2, none⟩) (by dsimp only; omega)).trans d2
                  replace u0 := (hb.cell (p := ⟨wx.heap.size, 0, none⟩) (by dsimp only; omega)).trans u0
                  replace u1 := (hb.cell (p := ⟨wx.heap.size, 1, none⟩) (by dsimp only; omega)).trans u1
                  replace u2 := (hb.cell (p := ⟨wx.heap.size, 2, none⟩) (by dsimp only; omega)).trans u2
                  have hO2 := owns_below hO1 hb
                  have hbr2 := hbr1.trans (hb.mono hbr1.size)
                  have hzb := hb.size
                  clear hb C hO1 hbr1 hqA1 hqY1
                  repeat' ((fail_if_success at_builtin); (first | go_skip | go_guarded | go_step))
                  generalize hw_wc : ((((((wb.setCell ⟨w2.heap.size, 0, none⟩ (.int .i64 s.app)).setCell ⟨w2.heap.size, 1, none⟩ (.slice AG2 s.who.length cg2)).setCell ⟨w2.heap.size, 2, none⟩ (.int .i64 s.exp)).setCell ⟨w2.heap.size, 3, none⟩ (.int .i64 now)).setCell ⟨w2.heap.size, 4, none⟩ (.slice AY2 yes.length cy2)).setCell ⟨w2.heap.size, 5, none⟩ (.int .i64 0)) = wc at *
                  have hO3 := owns_six hO2 (fun e => by have := (hO2.lt _ e.symm).1; omega) hw_wc
                  obtain ⟨⟨np0, np1, np2, np3, np4, np5⟩, far_wc, frz_wc, hsz_wc, bel_wc, own_wc⟩ := six_ok (.int .i64 s.app) (.slice AG2 s.who.length cg2) (.int .i64 s.exp) (.int .i64 now) (.slice AY2 yes.length cy2) (.int .i64 0) p0 p1 p2 p3 p4 p5 wc hw_wc
                  clear p0 p1 p2 p3 p4 p5 hw_wc
                  have p0 := np0
                  have p1 := np1
                  have p2 := np2
                  have p3 := np3
                  have p4 := np4
                  have p5 := np5
                  clear np0 np1 np2 np3 np4 np5
                  replace pF := fun j => (frz_wc ⟨w2.heap.size, j, none⟩).trans (pF j)
                  replace d0 := (far_wc ⟨w.heap.size, 0, none⟩ (by dsimp only; omega)).trans d0
                  replace d1 := (far_wc ⟨w.heap.size, 1, none⟩ (by dsimp only; omega)).trans d1
                  replace d2 := (far_wc ⟨w.heap.size, 2, none⟩ (by dsimp only; omega)).trans d2
                  have hbr3 := bel_wc _ _ (Nat.le_refl _) hbr2
                  have hqA3 := SeqP.map hqA2 (fun q hq => far_wc q (by have := hq.1; omega)) fun _ h => h
                  have hqY3 := SeqP.map hqY2 (fun q hq => far_wc q (by have := hq.1; omega)) fun _ h => h
                  have hzc := hsz_wc
                  clear far_wc frz_wc hsz_wc bel_wc own_wc hO2 hbr2 hqA2 hqY2 u0 u1 u2
                  have CS := refAsc_any (yes) AY2 cy2 wc (SeqP.imp hqY3 (fun b hb => by have := hb.2; omega)) (by have := hlen.out; omega) (fun x hx => by have := hm2 x (hC.sub x hx); omega)
                  rw [hC.asc] at CS
                  replace CS := Lib.hid CS
                  refine CS.out.mono ?_
                  rintro e we ⟨rfl, hb⟩
                  dsimp only
                  replace p0 := (hb.cell (p := ⟨w2.heap.size, 0, none⟩) (by dsimp only; omega)).trans p0
                  replace p1 := (hb.cell (p := ⟨w2.heap.size, 1, none⟩) (by dsimp only; omega)).trans p1
                  replace p2 := (hb.cell (p := ⟨w2.heap.size, 2, none⟩) (by dsimp only; omega)).trans p2
                  replace p3 := (hb.cell (p := ⟨w2.heap.size, 3, none⟩) (by dsimp only; omega)).trans p3
                  replace p4 := (hb.cell (p := ⟨w2.heap.size, 4, none⟩) (by dsimp only; omega)).trans p4
                  replace p5 := (hb.cell (p := ⟨w2.heap.size, 5, none⟩) (by dsimp only; omega)).trans p5
                  replace pF := frz_below hb (by omega) pF
                  have hO5 := owns_below hO3 hb
                  have hbr5 := hbr3.trans (hb.mono hbr3.size)
                  have hze := hb.size
                  have hqA5 := SeqP.belowS hqA3 hb (fun b hb => by have := hb.2; omega)
                  have hqY5 := SeqP.belowS hqY3 hb (fun b hb => by have := hb.2; omega)
                  clear CS hb
                  repeat' ((fail_if_success at_builtin); (first | go_skip | go_guarded | go_step))
                  go_roundw
                  case rel => exact ⟨i + 1, 0, yes, ys, AG2, cg2, AY2, cy2, by omega, by go_num, rfl, hC, by omega, hO5, hbr5, by omega, ⟨p0, p1, p2, p3, p4, p5⟩, pF, hqA5.imp (fun b hb => ⟨by have := hb.1; omega, by have := hb.2; omega⟩), hqY5.imp (fun b hb => ⟨by have := hb.1; omega, by have := hb.2; omega⟩)⟩
                  case measure => simp [intOf]; omega
            · have hst0 : (st == 0) = false := by simp [hst]
              have hr : checkG ⟨s, now, yes, st⟩ who t ≠ 0 := fun h => hst (hcz.1 h).1
              cases no with
              | true =>
                repeat' ((fail_if_success at_builtin); (first | go_skip | go_guarded | go_step))
                have hal := (Below.refl wx.heap.size wx).alloc (Nat.le_refl _) (.cells #[.string who, .bool true, .int .i64 t] 47)
                replace p0 := (hal.cell (p := ⟨w2.heap.size, 0, none⟩) (by dsimp only; omega)).trans p0
                replace p1 := (hal.cell (p := ⟨w2.heap.size, 1, none⟩) (by dsimp only; omega)).trans p1
                replace p2 := (hal.cell (p := ⟨w2.heap.size, 2, none⟩) (by dsimp only; omega)).trans p2
                replace p3 := (hal.cell (p := ⟨w2.heap.size, 3, none⟩) (by dsimp only; omega)).trans p3
                replace p4 := (hal.cell (p := ⟨w2.heap.size, 4, none⟩) (by dsimp only; omega)).trans p4
                replace p5 := (hal.cell (p := ⟨w2.heap.size, 5, none⟩) (by dsimp only; omega)).trans p5
                replace pF := frz_below hal (by omega) pF
                replace d0 := (hal.cell (p := ⟨w.heap.size, 0, none⟩) (by dsimp only; omega)).trans d0
                replace d1 := (hal.cell (p := ⟨w.heap.size, 1, none⟩) (by dsimp only; omega)).trans d1
                replace d2 := (hal.cell (p := ⟨w.heap.size, 2, none⟩) (by dsimp only; omega)).trans d2
                have u0 : (wx.alloc (.cells #[.string who, .bool true, .int .i64 t] 47)).cell? ⟨wx.heap.size, 0, none⟩ = some (.string who) := by simp [go_sem]
                have u1 : (wx.alloc (.cells #[.string who, .bool true, .int .i64 t] 47)).cell? ⟨wx.heap.size, 1, none⟩ = some (.bool true) := by simp [go_sem]
                have u2 : (wx.alloc (.cells #[.string who, .bool true, .int .i64 t] 47)).cell? ⟨wx.heap.size, 2, none⟩ = some (.int .i64 t) := by simp [go_sem]
                have hza : (wx.alloc (.cells #[.string who, .bool true, .int .i64 t] 47)).heap.size = wx.heap.size + 1 := by simp
                have hqA1 := hqA.belowS hal (fun b hb => hb.2)
                have hqY1 := hqY.belowS hal (fun b hb => hb.2)
                have hO1 := owns_below hO hal
                have hbr1 := hbr.trans (hal.mono hbr.size)
                have hsa := (hsx.below hal).more hal.size
                have hOk : ∀ g, (Value.slice AO ys.length cO).ownBlock = some g → w2.heap.size + 1 ≤ g ∧ g < wx.heap.size := fun g hg => hO.lt g hg
                generalize wx.alloc (.cells #[.string who, .bool true, .int .i64 t] 47) = wa at *
                clear hal hO hqA hqY hsx
                have C := rejectF_any ⟨s, now, yes, st⟩ AG cg AY cy who t wa (hqA1.imp (fun b hb => by have := hb.2; omega)) (hqY1.imp (fun b hb => by have := hb.2; omega)) (by dsimp only; omega) (by have := hlen.out; dsimp only; omega) ⟨by dsimp only; omega, by dsimp only; omega⟩ ⟨by dsimp only; omega, by dsimp only; omega⟩
                have hg : rejG ⟨s, now, yes, st⟩ who t = ⟨s, now, yes, st⟩ := by unfold rejG; rw [if_pos hr]
                rw [hg] at C
                generalize checkG ⟨s, now, yes, st⟩ who t = r at *
                have hr0 : (r == 0) = false := by simp [hr]
                clear hg hcz
                replace C := Lib.hid C
                refine C.out.mono ?_
                rintro e wb ⟨AG2, cg2, AY2, cy2, rfl, hb, hqA2, hqY2⟩
                dsimp only at hqA2 hqY2 ⊢
                replace p0 := (hb.cell (p := ⟨w2.heap.size, 0, none⟩) (by dsimp only; omega)).trans p0
                replace p1 := (hb.cell (p := ⟨w2.heap.size, 1, none⟩) (by dsimp only; omega)).trans p1
                replace p2 := (hb.cell (p := ⟨w2.heap.size, 2, none⟩) (by dsimp only; omega)).trans p2
                replace p3 := (hb.cell (p := ⟨w2.heap.size, 3, none⟩) (by dsimp only; omega)).trans p3
                replace p4 := (hb.cell (p := ⟨w2.heap.size, 4, none⟩) (by dsimp only; omega)).trans p4
                replace p5 := (hb.cell (p := ⟨w2.heap.size, 5, none⟩) (by dsimp only; omega)).trans p5
                replace pF := frz_below hb (by omega) pF
                replace d0 := (hb.cell (p := ⟨w.heap.size, 0, none⟩) (by dsimp only; omega)).trans d0
                replace d1 := (hb.cell (p := ⟨w.heap.size, 1, none⟩) (by dsimp only; omega)).trans d1
                replace d2 := (hb.cell (p := ⟨w.heap.size, 2, none⟩) (by dsimp only; omega)).trans d2
                replace u0 := (hb.cell (p := ⟨wx.heap.size, 0, none⟩) (by dsimp only; omega)).trans u0
                replace u1 := (hb.cell (p := ⟨wx.heap.size, 1, none⟩) (by dsimp only; omega)).trans u1
                replace u2 := (hb.cell (p := ⟨wx.heap.size, 2, none⟩) (by dsimp only; omega)).trans u2
                have hO2 := owns_below hO1 hb
                have hbr2 := hbr1.trans (hb.mono hbr1.size)
                have hzb := hb.size
                clear hb C hO1 hbr1 hqA1 hqY1
                repeat' ((fail_if_success at_builtin); (first | go_skip | go_guarded | go_step))
                generalize hw_wc : ((((((wb.setCell ⟨w2.heap.size, 0, none⟩ (.int .i64 s.app)).setCell ⟨w2.heap.size, 1, none⟩ (.slice AG2 s.who.length cg2)).setCell ⟨w2.heap.size, 2, none⟩ (.int .i64 s.exp)).setCell ⟨w2.heap.size, 3, none⟩ (.int .i64 now)).setCell ⟨w2.heap.size, 4, none⟩ (.slice AY2 yes.length cy2)).setCell ⟨w2.heap.size, 5, none⟩ (.int .i64 st)) = wc at *
                have hO3 := owns_six hO2 (fun e => by have := (hO2.lt _ e.symm).1; omega) hw_wc
                obtain ⟨⟨np0, np1, np2, np3, np4, np5⟩, far_wc, frz_wc, hsz_wc, bel_wc, own_wc⟩ := six_ok (.int .i64 s.app) (.slice AG2 s.who.length cg2) (.int .i64 s.exp) (.int .i64 now) (.slice AY2 yes.length cy2) (.int .i64 st) p0 p1 p2 p3 p4 p5 wc hw_wc
                clear p0 p1 p2 p3 p4 p5 hw_wc
                have p0 := np0
                have p1 := np1
                have p2 := np2
                have p3 := np3
                have p4 := np4
                have p5 := np5
                clear np0 np1 np2 np3 np4 np5
                replace pF := fun j => (frz_wc ⟨w2.heap.size, j, none⟩).trans (pF j)
                replace d0 := (far_wc ⟨w.heap.size, 0, none⟩ (by dsimp only; omega)).trans d0
                replace d1 := (far_wc ⟨w.heap.size, 1, none⟩ (by dsimp only; omega)).trans d1
                replace d2 := (far_wc ⟨w.heap.size, 2, none⟩ (by dsimp only; omega)).trans d2
                have hbr3 := bel_wc _ _ (Nat.le_refl _) hbr2
                have hqA3 := SeqP.map hqA2 (fun q hq => far_wc q (by have := hq.1; omega)) fun _ h => h
                have hqY3 := SeqP.map hqY2 (fun q hq => far_wc q (by have := hq.1; omega)) fun _ h => h
                have hzc := hsz_wc
                clear far_wc frz_wc hsz_wc bel_wc own_wc hO2 hbr2 hqA2 hqY2 u0 u1 u2
                have CS := refAsc_any (yes) AY2 cy2 wc (SeqP.imp hqY3 (fun b hb => by have := hb.2; omega)) (by have := hlen.out; omega) (fun x hx => by have := hm2 x (hC.sub x hx); omega)
                rw [hC.asc] at CS
                replace CS := Lib.hid CS
                refine CS.out.mono ?_
                rintro e we ⟨rfl, hb⟩
                dsimp only
                replace p0 := (hb.cell (p := ⟨w2.heap.size, 0, none⟩) (by dsimp only; omega)).trans p0
                replace p1 := (hb.cell (p := ⟨w2.heap.size, 1, none⟩) (by dsimp only; omega)).trans p1
                replace p2 := (hb.cell (p := ⟨w2.heap.size, 2, none⟩) (by dsimp only; omega)).trans p2
                replace p3 := (hb.cell (p := ⟨w2.heap.size, 3, none⟩) (by dsimp only; omega)).trans p3
                replace p4 := (hb.cell (p := ⟨w2.heap.size, 4, none⟩) (by dsimp only; omega)).trans p4
                replace p5 := (hb.cell (p := ⟨w2.heap.size, 5, none⟩) (by dsimp only; omega)).trans p5
                replace pF := frz_below hb (by omega) pF
                have hO5 := owns_below hO3 hb
                have hbr5 := hbr3.trans (hb.mono hbr3.size)
                have hze := hb.size
                have hqA5 := SeqP.belowS hqA3 hb (fun b hb => by have := hb.2; omega)
                have hqY5 := SeqP.belowS hqY3 hb (fun b hb => by have := hb.2; omega)
                clear CS hb
                repeat' ((fail_if_success at_builtin); (first | go_skip | go_guarded | go_step))
                go_roundw
                case rel => exact ⟨i + 1, st, yes, ys, AG2, cg2, AY2, cy2, by omega, by go_num, rfl, hC, by omega, hO5, hbr5, by omega, ⟨p0, p1, p2, p3, p4, p5⟩, pF, hqA5.imp (fun b hb => ⟨by have := hb.1; omega, by have := hb.2; omega⟩), hqY5.imp (fun b hb => ⟨by have := hb.1; omega, by have := hb.2; omega⟩)⟩
                case measure => simp [intOf]; omega
              | false =>
                repeat' ((fail_if_success at_builtin); (first | go_skip | go_guarded | go_step))
                have hal := (Below.refl wx.heap.size wx).alloc (Nat.le_refl _) (.cells #[.string who, .bool false, .int .i64 t] 47)
                replace p0 := (hal.cell (p := ⟨w2.heap.size, 0, none⟩) (by dsimp only; omega)).trans p0
                replace p1 := (hal.cell (p := ⟨w2.heap.size, 1, none⟩) (by dsimp only; omega)).trans p1
                replace p2 := (hal.cell (p := ⟨w2.heap.size, 2, none⟩) (by dsimp only; omega)).trans p2
                replace p3 := (hal.cell (p := ⟨w2.heap.size, 3, none⟩) (by dsimp only; omega)).trans p3
                replace p4 := (hal.cell (p := ⟨w2.heap.size, 4, none⟩) (by dsimp only; omega)).trans p4
                replace p5 := (hal.cell (p := ⟨w2.heap.size, 5, none⟩) (by dsimp only; omega)).trans p5
                replace pF := frz_below hal (by omega) pF
                replace d0 := (hal.cell (p := ⟨w.heap.size, 0, none⟩) (by dsimp only; omega)).trans d0
                replace d1 := (hal.cell (p := ⟨w.heap.size, 1, none⟩) (by dsimp only; omega)).trans d1
                replace d2 := (hal.cell (p := ⟨w.heap.size, 2, none⟩) (by dsimp only; omega)).trans d2
                have u0 : (wx.alloc (.cells #[.string who, .bool false, .int .i64 t] 47)).cell? ⟨wx.heap.size, 0, none⟩ = some (.string who) := by simp [go_sem]
                have u1 : (wx.alloc (.cells #[.string who, .bool false, .int .i64 t] 47)).cell? ⟨wx.heap.size, 1, none⟩ = some (.bool false) := by simp [go_sem]
                have u2 : (wx.alloc (.cells #[.string who, .bool false, .int .i64 t] 47)).cell? ⟨wx.heap.size, 2, none⟩ = some (.int .i64 t) := by simp [go_sem]
                have hza : (wx.alloc (.cells #[.string who, .bool false, .int .i64 t] 47)).heap.size = wx.heap.size + 1 := by simp
                have hqA1 := hqA.belowS hal (fun b hb => hb.2)
                have hqY1 := hqY.belowS hal (fun b hb => hb.2)
                have hO1 := owns_below hO hal
                have hbr1 := hbr.trans (hal.mono hbr.size)
                have hsa := (hsx.below hal).more hal.size
                have hOk : ∀ g, (Value.slice AO ys.length cO).ownBlock = some g → w2.heap.size + 1 ≤ g ∧ g < wx.heap.size := fun g hg => hO.lt g hg
                generalize wx.alloc (.cells #[.string who, .bool false, .int .i64 t] 47) = wa at *
                clear hal hO hqA hqY hsx
                have C := approveF_any ⟨s, now, yes, st⟩ AG cg AY cy who t wa (hqA1.imp (fun b hb => by have := hb.2; omega)) (hqY1.imp (fun b hb => by have := hb.2; omega)) (by dsimp only; omega) (by have := hlen.out; dsimp only; omega) (fun x hx => hm2 x (hC.sub x hx)) (fun h => hm2 who (hasL_mem.1 (hcz.1 h).2.2)) ⟨by dsimp only; omega, by dsimp only; omega⟩ ⟨by dsimp only; omega, by dsimp only; omega⟩
                obtain ⟨hg, hge⟩ := app_no hr
                rw [hg, hge] at C
                generalize checkG ⟨s, now, yes, st⟩ who t = r at *
                have hr0 : (r == 0) = false := by simp [hr]
                clear hg hge hcz
                replace C := Lib.hid C
                refine C.out.mono ?_
                rintro e wb ⟨AG2, cg2, AY2, cy2, rfl, hb, hqA2, hqY2⟩
                dsimp only at hqA2 hqY2 ⊢
                replace p0 := (hb.cell (p := ⟨w2.heap.size, 0, none⟩) (by dsimp only; omega)).trans p0
                replace p1 := (hb.cell (p := ⟨w2.heap.size, 1, none⟩) (by dsimp only; omega)).trans p1
                replace p2 := (hb.cell (p := ⟨w2.heap.size, 2, none⟩) (by dsimp only; omega)).trans p2
                replace p3 := (hb.cell (p := ⟨w2.heap.size, 3, none⟩) (by dsimp only; omega)).trans p3
                replace p4 := (hb.cell (p := ⟨w2.heap.size, 4, none⟩) (by dsimp only; omega)).trans p4
                replace p5 := (hb.cell (p := ⟨w2.heap.size, 5, none⟩) (by dsimp only; omega)).trans p5
                replace pF := frz_below hb (by omega) pF
                replace d0 := (hb.cell (p := ⟨w.heap.size, 0, none⟩) (by dsimp only; omega)).trans d0
                replace d1 := (hb.cell (p := ⟨w.heap.size, 1, none⟩) (by dsimp only; omega)).trans d1
                replace d2 := (hb.cell (p := ⟨w.heap.size, 2, none⟩) (by dsimp only; omega)).trans d2
                replace u0 := (hb.cell (p := ⟨wx.heap.size, 0, none⟩) (by dsimp only; omega)).trans u0
                replace u1 := (hb.cell (p := ⟨wx.heap.size, 1, none⟩) (by dsimp only; omega)).trans u1
                replace u2 := (hb.cell (p := ⟨wx.heap.size, 2, none⟩) (by dsimp only; omega)).trans u2
                have hO2 := owns_below hO1 hb
                have hbr2 := hbr1.trans (hb.mono hbr1.size)
                have hzb := hb.size
                clear hb C hO1 hbr1 hqA1 hqY1
                repeat' ((fail_if_success at_builtin); (first | go_skip | go_guarded | go_step))
                generalize hw_wc : ((((((wb.setCell ⟨w2.heap.size, 0, none⟩ (.int .i64 s.app)).setCell ⟨w2.heap.size, 1, none⟩ (.slice AG2 s.who.length cg2)).setCell ⟨w2.heap.size, 2, none⟩ (.int .i64 s.exp)).setCell ⟨w2.heap.size, 3, none⟩ (.int .i64 now)).setCell ⟨w2.heap.size, 4, none⟩ (.slice AY2 yes.length cy2)).setCell ⟨w2.heap.size, 5, none⟩ (.int .i64 st)) = wc at *
                have hO3 := owns_six hO2 (fun e => by have := (hO2.lt _ e.symm).1; omega) hw_wc
                obtain ⟨⟨np0, np1, np2, np3, np4, np5⟩, far_wc, frz_wc, hsz_wc, bel_wc, own_wc⟩ := six_ok (.int .i64 s.app) (.slice AG2 s.who.length cg2) (.int .i64 s.exp) (.int .i64 now) (.slice AY2 yes.length cy2) (.int .i64 st) p0 p1 p2 p3 p4 p5 wc hw_wc
                clear p0 p1 p2 p3 p4 p5 hw_wc
                have p0 := np0
                have p1 := np1
                have p2 := np2
                have p3 := np3
                have p4 := np4
                have p5 := np5
                clear np0 np1 np2 np3 np4 np5
                replace pF := fun j => (frz_wc ⟨w2.heap.size, j, none⟩).trans (pF j)
                replace d0 := (far_wc ⟨w.heap.size, 0, none⟩ (by dsimp only; omega)).trans d0
                replace d1 := (far_wc ⟨w.heap.size, 1, none⟩ (by dsimp only; omega)).trans d1
                replace d2 := (far_wc ⟨w.heap.size, 2, none⟩ (by dsimp only; omega)).trans d2
                have hbr3 := bel_wc _ _ (Nat.le_refl _) hbr2
                have hqA3 := SeqP.map hqA2 (fun q hq => far_wc q (by have := hq.1; omega)) fun _ h => h
                have hqY3 := SeqP.map hqY2 (fun q hq => far_wc q (by have := hq.1; omega)) fun _ h => h
                have hzc := hsz_wc
                clear far_wc frz_wc hsz_wc bel_wc own_wc hO2 hbr2 hqA2 hqY2 u0 u1 u2
                have CS := refAsc_any (yes) AY2 cy2 wc (SeqP.imp hqY3 (fun b hb => by have := hb.2; omega)) (by have := hlen.out; omega) (fun x hx => by have := hm2 x (hC.sub x hx); omega)
                rw [hC.asc] at CS
                replace CS := Lib.hid CS
                refine CS.out.mono ?_
                rintro e we ⟨rfl, hb⟩
                dsimp only
                replace p0 := (hb.cell (p := ⟨w2.heap.size, 0, none⟩) (by dsimp only; omega)).trans p0
                replace p1 := (hb.cell (p := ⟨w2.heap.size, 1, none⟩) (by dsimp only; omega)).trans p1
                replace p2 := (hb.cell (p := ⟨w2.heap.size, 2, none⟩) (by dsimp only; omega)).trans p2
                replace p3 := (hb.cell (p := ⟨w2.heap.size, 3, none⟩) (by dsimp only; omega)).trans p3
                replace p4 := (hb.cell (p := ⟨w2.heap.size, 4, none⟩) (by dsimp only; omega)).trans p4
                replace p5 := (hb.cell (p := ⟨w2.heap.size, 5, none⟩) (by dsimp only; omega)).trans p5
                replace pF := frz_below hb (by omega) pF
                have hO5 := owns_below hO3 hb
                have hbr5 := hbr3.trans (hb.mono hbr3.size)
                have hze := hb.size
                have hqA5 := SeqP.belowS hqA3 hb (fun b hb => by have := hb.2; omega)
                have hqY5 := SeqP.belowS hqY3 hb (fun b hb => by have := hb.2; omega)
                clear CS hb
                repeat' ((fail_if_success at_builtin); (first | go_skip | go_guarded | go_step))
                go_roundw
                case rel => exact ⟨i + 1, st, yes, ys, AG2, cg2, AY2, cy2, by omega, by go_num, rfl, hC, by omega, hO5, hbr5, by omega, ⟨p0, p1, p2, p3, p4, p5⟩, pF, hqA5.imp (fun b hb => ⟨by have := hb.1; omega, by have := hb.2; omega⟩), hqY5.imp (fun b hb => ⟨by have := hb.1; omega, by have := hb.2; omega⟩)⟩
                case measure => simp [intOf]; omega
          · have i1 : ¬ ((i : Int) < (vs.length : Int)) := by omega
            clear hO hqA hqY hC
            repeat' ((fail_if_success at_builtin); (first | go_skip | go_guarded | go_step))
            refine (lives_any _).mono ?_
            rintro e wl ⟨rfl, hbl⟩
            dsimp only
            repeat' ((fail_if_success at_builtin); (first | go_skip | go_guarded | go_step))
            go_ret
            have hch : Below w.heap.size w wx := hbw2.trans (hbr.mono hbw2.size)
            exact ⟨rfl, hch.trans (hbl.mono hch.size)⟩
      · have q1 : (openE s now != 0) = true := by simp [hoe]
        generalize openE s now = oe at *
        generalize openG s now = og at *
        clear hoe
        replace C := Lib.hid C
        repeat' ((fail_if_success at_builtin); (first | go_skip | go_guarded | go_step))
        refine C.out.mono ?_
        rintro e w2 ⟨A1, c1, B1, k1, rfl, hb2, hq1, hq2⟩
        dsimp only
        repeat' ((fail_if_success at_builtin); (first | go_skip | go_guarded | go_step))
        refine (lives_any _).mono ?_
        rintro e wl ⟨rfl, hbl⟩
        dsimp only
        repeat' ((fail_if_success at_builtin); (first | go_skip | go_guarded | go_step))
        go_ret
        have hch := Below.alloc (hb1.trans (hb2.mono hb1.size)) (Nat.le_trans hb1.size hb2.size) (.cells #[.int .i64 og.s.app, .slice A1 og.s.who.length c1, .int .i64 og.s.exp, .int .i64 og.opened, .slice B1 og.yes.length k1, .int .i64 og.state] 28)
        exact ⟨rfl, hch.trans (hbl.mono hch.size)⟩
end Go.Proofs.YtionchkblgpklaaDoor
