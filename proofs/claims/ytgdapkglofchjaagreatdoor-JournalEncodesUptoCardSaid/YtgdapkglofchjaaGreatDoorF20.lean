/- Joined: JnL9 JnL5. -/
import Derived.Test.YtgdapkglofchjaaGreatDoorF19
set_option maxRecDepth 100000
set_option maxHeartbeats 1000000
set_option linter.unusedVariables false
namespace Go.Proofs.YtgdapkglofchjaaGreatDoor
open Go.RowKit
theorem vari_rc : ReadC 81 Cod.vari (fitR [fitS, FitV]) [.string ⟨#[]⟩, .int .i64 0, .bool false, .int .i64 0, .string ⟨#[]⟩, .slice none 0 0, .slice none 0 0] := by
 intro W0 w g b o l bad h hb hne hT hc hl
 replace hT : Tgt w b o ([.string ⟨#[]⟩] ++ ([.int .i64 0, .bool false, .int .i64 0, .string ⟨#[]⟩, .slice none 0 0, .slice none 0 0] ++ ([]))) := hT
 go_enter Tryz.func81, Tryz.ntmps81
 repeat' (first | go_skip | go_guarded | go_step)
 refine (inner_rS h hb hne hT hc hl).mono ?_
 rintro e w1 ⟨gi, m, r0, b0, rfl, hI, hS⟩
 have hb1 : b < w1.heap.size := Nat.lt_of_lt_of_le hI.bl hI.ch.size
 have hbg : b ≠ gi := by have := hI.lo; have := hI.bl; omega
 have hO0 := okn
 dsimp only
 repeat' (first | go_skip | go_guarded | go_step)
 refine (RSt.call (k := o) str_rc hO0 Cod.str_ok hI.lt hI.bW hb1 hbg rfl hI.cm hI.lm hS rfl).mono ?_
 have hO1 := ok_snoc hO0 Cod.str_ok
 rintro e w2 ⟨rfl, hS⟩
 dsimp only
 repeat' (first | go_skip | go_guarded | go_step)
 refine (RSt.call (k := o + 1) value_rc hO1 Cod.value_ok hI.lt hI.bW hb1 hbg rfl hI.cm hI.lm hS rfl).mono ?_
 have hO2 := ok_snoc hO1 Cod.value_ok
 rintro e w3 ⟨rfl, hS⟩
 dsimp only
 repeat' ((fail_if_success at_builtin); first | go_skip | go_guarded | go_step)
 obtain ⟨li, bi, hout, hin, hfin⟩ := hI.fin hO2 rfl hS
 refine (done_r W0 _ g gi r0 li b0 bi hout hin).mono ?_
 rintro e wf ⟨rfl, hg, hC⟩
 dsimp only
 repeat' ((fail_if_success at_builtin); first | go_skip | go_guarded | go_step)
 go_end0
 exact ⟨rfl, hfin _ hg hC⟩
theorem event1_rc : ReadC 80 Cod.vari (fitR [fitS, FitV]) [.string ⟨#[]⟩, .int .i64 0, .bool false, .int .i64 0, .string ⟨#[]⟩, .slice none 0 0, .slice none 0 0] := by
 intro W0 w g b o l bad h hb hne hT hc hl
 go_enter Tryz.func80, Tryz.ntmps80
 repeat' (first | go_skip | go_guarded | go_step)
 refine (vari_rc W0 w g b o l bad h hb hne hT hc hl).mono ?_
 rintro e w1 ⟨rfl, hF⟩
 dsimp only
 repeat' ((fail_if_success at_builtin); first | go_skip | go_guarded | go_step)
 go_end0
 exact ⟨rfl, hF⟩
theorem lvar_r_info : Info Tryz.prog 77 (.agg #[.string ⟨#[]⟩, .int .i64 0, .bool false, .int .i64 0, .string ⟨#[]⟩, .slice none 0 0, .slice none 0 0]) 7 104 := by unfold Info; kernel_rfl
theorem lvar_r (C : Cod) (hC : C.Ok) (hk : C.sz = 7) (P : FV → Prop) (hcode : ReadC 80 C P [.string ⟨#[]⟩, .int .i64 0, .bool false, .int .i64 0, .string ⟨#[]⟩, .slice none 0 0, .slice none 0 0]) : ReadL 79 (.func (.func 80) #[] #[]) (Cod.list C) (fitL P) [.slice none 0 0] := by
 intro W0 w g b o l bad h hb hne hT hc hl
 go_enter Tryz.func79, Tryz.ntmps79
 repeat' (first | go_skip | go_guarded | go_step)
 refine (inner_rS h hb hne hT hc hl).mono ?_
 rintro e w1 ⟨gi, m, r0, b0, rfl, hI, hS⟩
 obtain ⟨hCI, hTI⟩ := hS.zero
 clear hS
 have hb1 : b < w1.heap.size := Nat.lt_of_lt_of_le hI.bl hI.ch.size
 have hbg : b ≠ gi := by have := hI.lo; have := hI.bl; omega
 have hgW := hCI.lo
 have hbW := hI.bW
 have hgi := hI.lt
 have hml := lsz_length m
 have hlm := hI.lm
 have hcm := hI.cm
 dsimp only
 have c1 := hI.out.c1
 obtain ⟨Am, cm, m0⟩ := hCI.c0
 obtain ⟨i0, hi0, hz0, hzs, hzb⟩ := info_parts lvar_r_info
 obtain ⟨w2, hmk, hown, hgr⟩ := run_make_own (P := Tryz.prog) w1 w1.heap.size 24 77 i0 _ 7 Tryz.underlying24 hi0 hz0 hzs .i64 .i64 m.length (by rw [hzb]; omega) (by unfold maxLen; omega) (Nat.le_refl _)
 have hb12 : Below w1.heap.size w1 w2 := (Below.refl _ _).grown hgr (Nat.le_refl _) (fun k hk => by cases hk)
 have t0 := (hTI.below hb12).c0
 have tf := (hTI.below hb12).fr
 rw [← hk] at hown
 have hL0 := LSt.start (P := P) hgi hbg hTI hCI hgW hbW hown hgr
 clear hi0 hz0 hzs hzb i0 hown
 repeat' ((fail_if_success at_builtin); first | go_skip | go_guarded | go_step)
 clear hmk t0 tf m0 hgr hb12 c1
 generalize w2.setCell ⟨b, o, none⟩ (.slice (some ⟨w1.heap.size, 0, none⟩) 0 m.length) = w3 at *
 replace hcode := Lib.hid hcode
 go_loopw [] (fun wr => ∃ A' n' c', LSt W0 w1 wr gi b o 77 C P m A' n' c') (fun wr => mesW wr gi)
 case atStart => exact ⟨_, _, _, hL0⟩
 case round =>
  clear hL0 hCI hTI
  obtain ⟨A', n', c', hch, hTb, hnm, xs, hO, hlo, hh⟩ := hrel
  have hout := list_out hI hch
  rcases hh with ⟨a, r, hm, hal, hP, hCR, hRL⟩ | ⟨hno, l', hcl', hz', hCR⟩
  ·skip
   replace hm := Lib.hid hm
   replace hal := Lib.hid hal
   have hCRk := hCR
   obtain ⟨Ar, cr, q0⟩ := hCR.c0
   have q2 := hCR.c2
   cases r with
   | nil =>
    have q0 : wr.cell? ⟨gi, 0, none⟩ = some (.slice Ar 0 cr) := q0
    repeat' (first | go_skip | go_guarded | go_step)
    refine (done_r W0 wr g gi r0 [] b0 false hout hCR).mono ?_
    rintro e wf ⟨rfl, hg, hC2⟩
    dsimp only
    repeat' ((fail_if_success at_builtin); first | go_skip | go_guarded | go_step)
    go_end0
    exact ⟨rfl, list_good hI hC hch hTb hO hlo (by rw [hm.out, List.append_nil]; exact hal.out) (by rw [hm.out, List.append_nil]; exact hP) (by rw [hm.out, List.append_nil]; exact hRL) hg hC2⟩
   | cons x r =>
    have q0 : wr.cell? ⟨gi, 0, none⟩ = some (.slice Ar (r.length + 1) cr) := q0
    have i1 : (0 : Int) < (r.length : Int) + 1 := by omega
    have hmes := mes_of hCRk
    have hln : lsz (x :: r) ≤ 1000000000 := by have h := hlm; rw [hm.out] at h; exact Nat.le_trans (lsz_app _ _) h
    have hcx0 : Cln (x :: r) := by have h := hcm; rw [hm.out] at h; exact cln_app h
    have hWr := hO.2.size
    have hgir := hCRk.lt
    go_upto_region 5 with (fail)
    generalize hx_ : World.alloc wr _ = wa
    have hba : Below wr.heap.size wr wa := by rw [← hx_]; exact (Below.refl _ _).alloc (Nat.le_refl _) _
    have hX : Tgt wa wr.heap.size 0 [.string ⟨#[]⟩, .int .i64 0, .bool false, .int .i64 0, .string ⟨#[]⟩, .slice none 0 0, .slice none 0 0] := by rw [← hx_]; exact Tgt.new wr #[.string ⟨#[]⟩, .int .i64 0, .bool false, .int .i64 0, .string ⟨#[]⟩, .slice none 0 0, .slice none 0 0] _
    clear hx_ q0 q2
    repeat' (first | go_skip | go_guarded | go_step)
    refine (hcode.out W0 wa gi wr.heap.size 0 (x :: r) false (hCRk.below hba) hWr (by omega) hX hcx0 hln).mono ?_
    rintro e w' ⟨rfl, hcx, cs', hT', hcl, h12, hh⟩
    dsimp only
    rw [hk] at hcl
    obtain ⟨u1, u2, u3, u4, u5, u6, u7, rfl⟩ : ∃ u1 u2 u3 u4 u5 u6 u7, cs' = [u1, u2, u3, u4, u5, u6, u7] := by
     match cs', hcl with
     | [u1, u2, u3, u4, u5, u6, u7], _ => exact ⟨u1, u2, u3, u4, u5, u6, u7, rfl⟩
    have hsa := hba.size
    have hsx := hcx.size
    have hbxl := hX.lt
    have hOx := (hO.below hba).chg hcx hgW hWr (fun r hr => by have := hlo r hr; exact ⟨by omega, by omega, by omega⟩)
    have hTx := (hTb.below hba).chg hcx hbg (by have := hTb.lt; omega)
    have hbo : some b ≠ Value.ownBlock (.slice A' n' c') := fun e => by have := (hlo b e.symm).1; omega
    have x0 : w'.cell? ⟨wr.heap.size, 0, none⟩ = some (u1) := by have := hT'.at_ 0 _ rfl; rwa [Nat.zero_add] at this
    have x1 : w'.cell? ⟨wr.heap.size, 1, none⟩ = some (u2) := by have := hT'.at_ 1 _ rfl; rwa [Nat.zero_add] at this
    have x2 : w'.cell? ⟨wr.heap.size, 2, none⟩ = some (u3) := by have := hT'.at_ 2 _ rfl; rwa [Nat.zero_add] at this
    have x3 : w'.cell? ⟨wr.heap.size, 3, none⟩ = some (u4) := by have := hT'.at_ 3 _ rfl; rwa [Nat.zero_add] at this
    have x4 : w'.cell? ⟨wr.heap.size, 4, none⟩ = some (u5) := by have := hT'.at_ 4 _ rfl; rwa [Nat.zero_add] at this
    have x5 : w'.cell? ⟨wr.heap.size, 5, none⟩ = some (u6) := by have := hT'.at_ 5 _ rfl; rwa [Nat.zero_add] at this
    have x6 : w'.cell? ⟨wr.heap.size, 6, none⟩ = some (u7) := by have := hT'.at_ 6 _ rfl; rwa [Nat.zero_add] at this
    obtain ⟨bx, hbx⟩ : ∃ bx, bx = wr.heap.size := ⟨_, rfl⟩
    rw [← hbx] at hcx x0 x1 x2 x3 x4 x5 x6
    rw [← hbx]
    have hxlt : bx < w'.heap.size := by omega
    have hxb : bx ≠ b := by have := hTb.lt; omega
    have hxo : some bx ≠ Value.ownBlock (.slice A' n' c') := fun e => by have := (hlo bx e.symm).2; omega
    replace hbx := Lib.hid hbx
    go_upto_region 6 with (fail)
    have hM : MidL w' w'.drew b o (.slice A' n' c') := MidL.of_below (Below.refl _ _).drew hTx.lt
    replace hOx := hOx.below (Below.refl _ _).drew
    replace hTx := hTx.below (Below.refl _ _).drew
    have y0 : w'.drew.cell? ⟨bx, 0, none⟩ = some (u1) := x0
    have y1 : w'.drew.cell? ⟨bx, 1, none⟩ = some (u2) := x1
    have y2 : w'.drew.cell? ⟨bx, 2, none⟩ = some (u3) := x2
    have y3 : w'.drew.cell? ⟨bx, 3, none⟩ = some (u4) := x3
    have y4 : w'.drew.cell? ⟨bx, 4, none⟩ = some (u5) := x4
    have y5 : w'.drew.cell? ⟨bx, 5, none⟩ = some (u6) := x5
    have y6 : w'.drew.cell? ⟨bx, 6, none⟩ = some (u7) := x6
    clear x0 x1 x2 x3 x4 x5 x6
    have hxs : bx < w'.drew.heap.size := hxlt
    refine wp_region_held_drew (S := (fun w' => w'.cell? ⟨bx, 0, none⟩ = some (u1) ∧ w'.cell? ⟨bx, 1, none⟩ = some (u2) ∧ w'.cell? ⟨bx, 2, none⟩ = some (u3) ∧ w'.cell? ⟨bx, 3, none⟩ = some (u4) ∧ w'.cell? ⟨bx, 4, none⟩ = some (u5) ∧ w'.cell? ⟨bx, 5, none⟩ = some (u6) ∧ w'.cell? ⟨bx, 6, none⟩ = some (u7))) (by kernel_rfl) ?_ (fun hHeld => ?_)
    ·(try dsimp only)
     exact ⟨y0, y1, y2, y3, y4, y5, y6⟩
    generalize World.drew w' = vd at *
    refine tkQ 0 ?_
    refine tkQ 1 ?_
    refine tkQ 2 ?_
    refine tkQ 4 ?_
    refine rdN [3, 5] ?_
    refine rdC (fun K hK => ?_) ?_
    ·have t0 := hTx.c0
     go_simp
     clear t0
     refine hkO hK ⟨y0, y1, y2, y3, y4, y5, y6⟩ fun hHeld => ?_
     clear hK K
     refine rdN [5] ?_
     refine rdC (fun K hK => ?_) ?_
     ·go_simp
      generalize hx_ : World.alloc vd _ = v2
      have hbq : Below vd.heap.size vd v2 := by rw [← hx_]; exact (Below.refl _ _).alloc (Nat.le_refl _) _
      have hz : CellsAt v2 vd.heap.size [u1, u2, u3, u4, u5, u6, u7] := by rw [← hx_]; exact CellsAt.new vd #[u1, u2, u3, u4, u5, u6, u7] _
      clear hx_
      obtain ⟨zb, hzb⟩ : ∃ zb, zb = vd.heap.size := ⟨_, rfl⟩
      rw [← hzb] at hz ⊢
      clear hzb
      replace hM := hM.below hbq hTx.lt
      replace hOx := hOx.below hbq
      replace hTx := hTx.below hbq
      replace y0 := (hbq.cell (p := ⟨bx, 0, none⟩) hxs).trans y0
      replace y1 := (hbq.cell (p := ⟨bx, 1, none⟩) hxs).trans y1
      replace y2 := (hbq.cell (p := ⟨bx, 2, none⟩) hxs).trans y2
      replace y3 := (hbq.cell (p := ⟨bx, 3, none⟩) hxs).trans y3
      replace y4 := (hbq.cell (p := ⟨bx, 4, none⟩) hxs).trans y4
      replace y5 := (hbq.cell (p := ⟨bx, 5, none⟩) hxs).trans y5
      replace y6 := (hbq.cell (p := ⟨bx, 6, none⟩) hxs).trans y6
      replace hxs := Nat.lt_of_lt_of_le hxs hbq.size
      clear hbq
      refine hkO hK ⟨y0, y1, y2, y3, y4, y5, y6⟩ fun hHeld => ?_
      clear hK K
      refine rdN [6] ?_
      refine rdC (fun K hK => ?_) ?_
      ·have hzq : Seq v2 v2.heap.size C.sz (some ⟨zb, 0, none⟩) 1 [u1, u2, u3, u4, u5, u6, u7] := ⟨by rw [hk]; rfl, fun _ => ⟨zb, 0, rfl, hz.lt, fun j u hu => by rw [Nat.zero_add]; exact hz.cell j u hu⟩⟩
       rw [hk] at hOx hzq
       refine step_appS hOx Tryz.underlying24 lvar_r_info hzq h12 (by omega) ?_
       intro v9 v3 hO9 hg9
       obtain ⟨A9, c9, rfl⟩ := hO9.slice_form
       have hat9 := hg9.at_
       have hb9 := hTx.lt
       have hTy : Tgt v3 b o [.slice A' n' c'] := ⟨Nat.lt_of_lt_of_le hb9 hg9.by_.size, fun j u hu => (hg9.cell (p := ⟨b, o + j, none⟩) hb9 hbo).trans (hTx.at_ j u hu), fun j => (hg9.frozen (p := ⟨b, j, none⟩) hb9 hbo).trans (hTx.fr j)⟩
       have hle9 := hM.hs
       replace hM := hM.grew hg9 hb9 hbo
       replace y0 := (hg9.cell (p := ⟨bx, 0, none⟩) hxs hxo).trans y0
       replace y1 := (hg9.cell (p := ⟨bx, 1, none⟩) hxs hxo).trans y1
       replace y2 := (hg9.cell (p := ⟨bx, 2, none⟩) hxs hxo).trans y2
       replace y3 := (hg9.cell (p := ⟨bx, 3, none⟩) hxs hxo).trans y3
       replace y4 := (hg9.cell (p := ⟨bx, 4, none⟩) hxs hxo).trans y4
       replace y5 := (hg9.cell (p := ⟨bx, 5, none⟩) hxs hxo).trans y5
       replace y6 := (hg9.cell (p := ⟨bx, 6, none⟩) hxs hxo).trans y6
       clear hTx hOx hzq hz hg9 hxs
       refine hkO hK ⟨y0, y1, y2, y3, y4, y5, y6⟩ fun hHeld => ?_
       clear hK K
       refine tkQ 7 ?_
       refine rdN [8] ?_
       refine rdC (fun K hK => ?_) ?_
       ·have t0 := hTy.c0
        have tf := hTy.fr
        go_simp
        clear t0 tf
        replace hTy := hTy.set1 (.slice A9 (n' + 1) c9)
        replace hM := hM.set (.slice A9 (n' + 1) c9)
        have hb9x : some b ≠ Value.ownBlock (.slice A9 (n' + 1) c9) := fun e => by
         rcases hat9 with e2 | e2
         ·exact hbo (e.trans e2)
         ·rw [e2] at e; injection e with e; omega
        replace hO9 := hO9.setAt hbW hb9x (.slice A9 (n' + 1) c9) (o := o)
        replace y0 := (World.cell?_setCell_far v3 ⟨b, o, none⟩ ⟨bx, 0, none⟩ (.slice A9 (n' + 1) c9) (fun e => hxb e.symm)).trans y0
        replace y1 := (World.cell?_setCell_far v3 ⟨b, o, none⟩ ⟨bx, 1, none⟩ (.slice A9 (n' + 1) c9) (fun e => hxb e.symm)).trans y1
        replace y2 := (World.cell?_setCell_far v3 ⟨b, o, none⟩ ⟨bx, 2, none⟩ (.slice A9 (n' + 1) c9) (fun e => hxb e.symm)).trans y2
        replace y3 := (World.cell?_setCell_far v3 ⟨b, o, none⟩ ⟨bx, 3, none⟩ (.slice A9 (n' + 1) c9) (fun e => hxb e.symm)).trans y3
        replace y4 := (World.cell?_setCell_far v3 ⟨b, o, none⟩ ⟨bx, 4, none⟩ (.slice A9 (n' + 1) c9) (fun e => hxb e.symm)).trans y4
        replace y5 := (World.cell?_setCell_far v3 ⟨b, o, none⟩ ⟨bx, 5, none⟩ (.slice A9 (n' + 1) c9) (fun e => hxb e.symm)).trans y5
        replace y6 := (World.cell?_setCell_far v3 ⟨b, o, none⟩ ⟨bx, 6, none⟩ (.slice A9 (n' + 1) c9) (fun e => hxb e.symm)).trans y6
        generalize (v3.setCell ⟨b, o, none⟩ (.slice A9 (n' + 1) c9)) = v4 at *
        refine hkO hK ⟨y0, y1, y2, y3, y4, y5, y6⟩ fun hHeld => ?_
        clear hK K
        refine wpAnyH_done (by kernel_rfl) ?_ _
        clear hHeld
        have hOz : Own W0 v4 77 C.sz (.slice A9 (n' + 1) c9) (n' + 1) (xs ++ [u1, u2, u3, u4, u5, u6, u7]) := by rw [hk]; exact hO9
        have hN := LSt.next (T := 77) (cs' := [u1, u2, u3, u4, u5, u6, u7]) hC hgi hb1 hbg hgW hbW hm.out hal.out hP hRL hch hlo hba hbx.out (by rw [hbx.out]; exact hbxl) (by rw [hk]; exact (show Chg wa w' gi bx 0 (0 + 7) from by rw [← hk]; exact hcx)) (by rw [hk]; rfl) hcx0 hh hM.hk hM.hs hM.os hM.tp hM.ou hM.out hM.fr hOz (hat9.imp id (fun e => ⟨_, e, hle9⟩)) hTy
        repeat' (first | go_skip | go_guarded | go_step)
        go_roundw
        case rel => exact ⟨_, _, _, hN⟩
        case measure =>
         rw [hmes]
         obtain ⟨_, _, _, _, _, _, hh2⟩ := hN
         rcases hh2 with ⟨a2, r2, hm2, hal2, _, hC2, _⟩ | ⟨_, _, _, _, hC2⟩
         ·rw [mes_of hC2]
          rw [hm.out] at hm2
          have hal := hal.out
          have := congrArg List.length hm2
          simp only [List.length_append, List.length_cons] at this ⊢
          omega
         ·rw [mes_bad hC2]; simp
       exact AllReadyH.nil
      exact AllReadyH.nil
     exact AllReadyH.nil
    refine rdC (fun K hK => ?_) ?_
    ·go_simp
     generalize hx_ : World.alloc vd _ = v1
     have hbq : Below vd.heap.size vd v1 := by rw [← hx_]; exact (Below.refl _ _).alloc (Nat.le_refl _) _
     have hz : CellsAt v1 vd.heap.size [u1, u2, u3, u4, u5, u6, u7] := by rw [← hx_]; exact CellsAt.new vd #[u1, u2, u3, u4, u5, u6, u7] _
     clear hx_
     obtain ⟨zb, hzb⟩ : ∃ zb, zb = vd.heap.size := ⟨_, rfl⟩
     rw [← hzb] at hz ⊢
     clear hzb
     replace hM := hM.below hbq hTx.lt
     replace hOx := hOx.below hbq
     replace hTx := hTx.below hbq
     replace y0 := (hbq.cell (p := ⟨bx, 0, none⟩) hxs).trans y0
     replace y1 := (hbq.cell (p := ⟨bx, 1, none⟩) hxs).trans y1
     replace y2 := (hbq.cell (p := ⟨bx, 2, none⟩) hxs).trans y2
     replace y3 := (hbq.cell (p := ⟨bx, 3, none⟩) hxs).trans y3
     replace y4 := (hbq.cell (p := ⟨bx, 4, none⟩) hxs).trans y4
     replace y5 := (hbq.cell (p := ⟨bx, 5, none⟩) hxs).trans y5
     replace y6 := (hbq.cell (p := ⟨bx, 6, none⟩) hxs).trans y6
     replace hxs := Nat.lt_of_lt_of_le hxs hbq.size
     clear hbq
     refine hkO hK ⟨y0, y1, y2, y3, y4, y5, y6⟩ fun hHeld => ?_
     clear hK K
     refine rdN [3] ?_
     refine rdC (fun K hK => ?_) ?_
     ·have t0 := hTx.c0
      go_simp
      clear t0
      refine hkO hK ⟨y0, y1, y2, y3, y4, y5, y6⟩ fun hHeld => ?_
      clear hK K
      refine rdN [6] ?_
      refine rdC (fun K hK => ?_) ?_
      ·have hzq : Seq v1 v1.heap.size C.sz (some ⟨zb, 0, none⟩) 1 [u1, u2, u3, u4, u5, u6, u7] := ⟨by rw [hk]; rfl, fun _ => ⟨zb, 0, rfl, hz.lt, fun j u hu => by rw [Nat.zero_add]; exact hz.cell j u hu⟩⟩
       rw [hk] at hOx hzq
       refine step_appS hOx Tryz.underlying24 lvar_r_info hzq h12 (by omega) ?_
       intro v9 v3 hO9 hg9
       obtain ⟨A9, c9, rfl⟩ := hO9.slice_form
       have hat9 := hg9.at_
       have hb9 := hTx.lt
       have hTy : Tgt v3 b o [.slice A' n' c'] := ⟨Nat.lt_of_lt_of_le hb9 hg9.by_.size, fun j u hu => (hg9.cell (p := ⟨b, o + j, none⟩) hb9 hbo).trans (hTx.at_ j u hu), fun j => (hg9.frozen (p := ⟨b, j, none⟩) hb9 hbo).trans (hTx.fr j)⟩
       have hle9 := hM.hs
       replace hM := hM.grew hg9 hb9 hbo
       replace y0 := (hg9.cell (p := ⟨bx, 0, none⟩) hxs hxo).trans y0
       replace y1 := (hg9.cell (p := ⟨bx, 1, none⟩) hxs hxo).trans y1
       replace y2 := (hg9.cell (p := ⟨bx, 2, none⟩) hxs hxo).trans y2
       replace y3 := (hg9.cell (p := ⟨bx, 3, none⟩) hxs hxo).trans y3
       replace y4 := (hg9.cell (p := ⟨bx, 4, none⟩) hxs hxo).trans y4
       replace y5 := (hg9.cell (p := ⟨bx, 5, none⟩) hxs hxo).trans y5
       replace y6 := (hg9.cell (p := ⟨bx, 6, none⟩) hxs hxo).trans y6
       clear hTx hOx hzq hz hg9 hxs
       refine hkO hK ⟨y0, y1, y2, y3, y4, y5, y6⟩ fun hHeld => ?_
       clear hK K
       refine tkQ 7 ?_
       refine rdN [8] ?_
       refine rdC (fun K hK => ?_) ?_
       ·have t0 := hTy.c0
        have tf := hTy.fr
        go_simp
        clear t0 tf
        replace hTy := hTy.set1 (.slice A9 (n' + 1) c9)
        replace hM := hM.set (.slice A9 (n' + 1) c9)
        have hb9x : some b ≠ Value.ownBlock (.slice A9 (n' + 1) c9) := fun e => by
         rcases hat9 with e2 | e2
         ·exact hbo (e.trans e2)
         ·rw [e2] at e; injection e with e; omega
        replace hO9 := hO9.setAt hbW hb9x (.slice A9 (n' + 1) c9) (o := o)
        replace y0 := (World.cell?_setCell_far v3 ⟨b, o, none⟩ ⟨bx, 0, none⟩ (.slice A9 (n' + 1) c9) (fun e => hxb e.symm)).trans y0
        replace y1 := (World.cell?_setCell_far v3 ⟨b, o, none⟩ ⟨bx, 1, none⟩ (.slice A9 (n' + 1) c9) (fun e => hxb e.symm)).trans y1
        replace y2 := (World.cell?_setCell_far v3 ⟨b, o, none⟩ ⟨bx, 2, none⟩ (.slice A9 (n' + 1) c9) (fun e => hxb e.symm)).trans y2
        replace y3 := (World.cell?_setCell_far v3 ⟨b, o, none⟩ ⟨bx, 3, none⟩ (.slice A9 (n' + 1) c9) (fun e => hxb e.symm)).trans y3
        replace y4 := (World.cell?_setCell_far v3 ⟨b, o, none⟩ ⟨bx, 4, none⟩ (.slice A9 (n' + 1) c9) (fun e => hxb e.symm)).trans y4
        replace y5 := (World.cell?_setCell_far v3 ⟨b, o, none⟩ ⟨bx, 5, none⟩ (.slice A9 (n' + 1) c9) (fun e => hxb e.symm)).trans y5
        replace y6 := (World.cell?_setCell_far v3 ⟨b, o, none⟩ ⟨bx, 6, none⟩ (.slice A9 (n' + 1) c9) (fun e => hxb e.symm)).trans y6
        generalize (v3.setCell ⟨b, o, none⟩ (.slice A9 (n' + 1) c9)) = v4 at *
        refine hkO hK ⟨y0, y1, y2, y3, y4, y5, y6⟩ fun hHeld => ?_
        clear hK K
        refine wpAnyH_done (by kernel_rfl) ?_ _
        clear hHeld
        have hOz : Own W0 v4 77 C.sz (.slice A9 (n' + 1) c9) (n' + 1) (xs ++ [u1, u2, u3, u4, u5, u6, u7]) := by rw [hk]; exact hO9
        have hN := LSt.next (T := 77) (cs' := [u1, u2, u3, u4, u5, u6, u7]) hC hgi hb1 hbg hgW hbW hm.out hal.out hP hRL hch hlo hba hbx.out (by rw [hbx.out]; exact hbxl) (by rw [hk]; exact (show Chg wa w' gi bx 0 (0 + 7) from by rw [← hk]; exact hcx)) (by rw [hk]; rfl) hcx0 hh hM.hk hM.hs hM.os hM.tp hM.ou hM.out hM.fr hOz (hat9.imp id (fun e => ⟨_, e, hle9⟩)) hTy
        repeat' (first | go_skip | go_guarded | go_step)
        go_roundw
        case rel => exact ⟨_, _, _, hN⟩
        case measure =>
         rw [hmes]
         obtain ⟨_, _, _, _, _, _, hh2⟩ := hN
         rcases hh2 with ⟨a2, r2, hm2, hal2, _, hC2, _⟩ | ⟨_, _, _, _, hC2⟩
         ·rw [mes_of hC2]
          rw [hm.out] at hm2
          have hal := hal.out
          have := congrArg List.length hm2
          simp only [List.length_append, List.length_cons] at this ⊢
          omega
         ·rw [mes_bad hC2]; simp
       exact AllReadyH.nil
      exact AllReadyH.nil
     exact AllReadyH.nil
    exact AllReadyH.nil
  ·skip
   obtain ⟨Ar, cr, q0⟩ := hCR.c0
   have q2 := hCR.c2
   cases l' with
   | nil =>
    have q0 : wr.cell? ⟨gi, 0, none⟩ = some (.slice Ar 0 cr) := q0
    repeat' (first | go_skip | go_guarded | go_step)
    refine (done_r W0 wr g gi r0 [] b0 true hout hCR).mono ?_
    rintro e wf ⟨rfl, hg, hC2⟩
    dsimp only
    repeat' ((fail_if_success at_builtin); first | go_skip | go_guarded | go_step)
    go_end0
    exact ⟨rfl, list_bad (li := []) hI hch hTb hno rfl hg hC2⟩
   | cons y l2 =>
    have q0 : wr.cell? ⟨gi, 0, none⟩ = some (.slice Ar (l2.length + 1) cr) := q0
    have i1 : (0 : Int) < (l2.length : Int) + 1 := by omega
    repeat' (first | go_skip | go_guarded | go_step)
    refine (done_r W0 wr g gi r0 (y :: l2) b0 true hout hCR).mono ?_
    rintro e wf ⟨rfl, hg, hC2⟩
    dsimp only
    repeat' ((fail_if_success at_builtin); first | go_skip | go_guarded | go_step)
    go_end0
    exact ⟨rfl, list_bad (li := y :: l2) hI hch hTb hno rfl hg hC2⟩
theorem lout_r_info : Info Tryz.prog 214 (.agg #[.string ⟨#[]⟩, .int .u64 0, .int .i64 0]) 3 32 := by unfold Info; kernel_rfl
theorem lout_r (C : Cod) (hC : C.Ok) (hk : C.sz = 3) (P : FV → Prop) (hcode : ReadC 140 C P [.string ⟨#[]⟩, .int .u64 0, .int .i64 0]) : ReadL 139 (.func (.func 140) #[] #[]) (Cod.list C) (fitL P) [.slice none 0 0] := by
 intro W0 w g b o l bad h hb hne hT hc hl
 go_enter Tryz.func139, Tryz.ntmps139
 repeat' (first | go_skip | go_guarded | go_step)
 refine (inner_rS h hb hne hT hc hl).mono ?_
 rintro e w1 ⟨gi, m, r0, b0, rfl, hI, hS⟩
 obtain ⟨hCI, hTI⟩ := hS.zero
 clear hS
 have hb1 : b < w1.heap.size := Nat.lt_of_lt_of_le hI.bl hI.ch.size
 have hbg : b ≠ gi := by have := hI.lo; have := hI.bl; omega
 have hgW := hCI.lo
 have hbW := hI.bW
 have hgi := hI.lt
 have hml := lsz_length m
 have hlm := hI.lm
 have hcm := hI.cm
 dsimp only
 have c1 := hI.out.c1
 obtain ⟨Am, cm, m0⟩ := hCI.c0
 obtain ⟨i0, hi0, hz0, hzs, hzb⟩ := info_parts lout_r_info
 obtain ⟨w2, hmk, hown, hgr⟩ := run_make_own (P := Tryz.prog) w1 w1.heap.size 26 214 i0 _ 3 Tryz.underlying26 hi0 hz0 hzs .i64 .i64 m.length (by rw [hzb]; omega) (by unfold maxLen; omega) (Nat.le_refl _)
 have hb12 : Below w1.heap.size w1 w2 := (Below.refl _ _).grown hgr (Nat.le_refl _) (fun k hk => by cases hk)
 have t0 := (hTI.below hb12).c0
 have tf := (hTI.below hb12).fr
 rw [← hk] at hown
 have hL0 := LSt.start (P := P) hgi hbg hTI hCI hgW hbW hown hgr
 clear hi0 hz0 hzs hzb i0 hown
 repeat' ((fail_if_success at_builtin); first | go_skip | go_guarded | go_step)
 clear hmk t0 tf m0 hgr hb12 c1
 generalize w2.setCell ⟨b, o, none⟩ (.slice (some ⟨w1.heap.size, 0, none⟩) 0 m.length) = w3 at *
 replace hcode := Lib.hid hcode
 go_loopw [] (fun wr => ∃ A' n' c', LSt W0 w1 wr gi b o 214 C P m A' n' c') (fun wr => mesW wr gi)
 case atStart => exact ⟨_, _, _, hL0⟩
 case round =>
  clear hL0 hCI hTI
  obtain ⟨A', n', c', hch, hTb, hnm, xs, hO, hlo, hh⟩ := hrel
  have hout := list_out hI hch
  rcases hh with ⟨a, r, hm, hal, hP, hCR, hRL⟩ | ⟨hno, l', hcl', hz', hCR⟩
  ·skip
   replace hm := Lib.hid hm
   replace hal := Lib.hid hal
   have hCRk := hCR
   obtain ⟨Ar, cr, q0⟩ := hCR.c0
   have q2 := hCR.c2
   cases r with
   | nil =>
    have q0 : wr.cell? ⟨gi, 0, none⟩ = some (.slice Ar 0 cr) := q0
    repeat' (first | go_skip | go_guarded | go_step)
    refine (done_r W0 wr g gi r0 [] b0 false hout hCR).mono ?_
    rintro e wf ⟨rfl, hg, hC2⟩
    dsimp only
    repeat' ((fail_if_success at_builtin); first | go_skip | go_guarded | go_step)
    go_end0
    exact ⟨rfl, list_good hI hC hch hTb hO hlo (by rw [hm.out, List.append_nil]; exact hal.out) (by rw [hm.out, List.append_nil]; exact hP) (by rw [hm.out, List.append_nil]; exact hRL) hg hC2⟩
   | cons x r =>
    have q0 : wr.cell? ⟨gi, 0, none⟩ = some (.slice Ar (r.length + 1) cr) := q0
    have i1 : (0 : Int) < (r.length : Int) + 1 := by omega
    have hmes := mes_of hCRk
    have hln : lsz (x :: r) ≤ 1000000000 := by have h := hlm; rw [hm.out] at h; exact Nat.le_trans (lsz_app _ _) h
    have hcx0 : Cln (x :: r) := by have h := hcm; rw [hm.out] at h; exact cln_app h
    have hWr := hO.2.size
    have hgir := hCRk.lt
    go_upto_region 5 with (fail)
    generalize hx_ : World.alloc wr _ = wa
    have hba : Below wr.heap.size wr wa := by rw [← hx_]; exact (Below.refl _ _).alloc (Nat.le_refl _) _
    have hX : Tgt wa wr.heap.size 0 [.string ⟨#[]⟩, .int .u64 0, .int .i64 0] := by rw [← hx_]; exact Tgt.new wr #[.string ⟨#[]⟩, .int .u64 0, .int .i64 0] _
    clear hx_ q0 q2
    repeat' (first | go_skip | go_guarded | go_step)
    refine (hcode.out W0 wa gi wr.heap.size 0 (x :: r) false (hCRk.below hba) hWr (by omega) hX hcx0 hln).mono ?_
    rintro e w' ⟨rfl, hcx, cs', hT', hcl, h12, hh⟩
    dsimp only
    rw [hk] at hcl
    obtain ⟨u1, u2, u3, rfl⟩ : ∃ u1 u2 u3, cs' = [u1, u2, u3] := by
     match cs', hcl with
     | [u1, u2, u3], _ => exact ⟨u1, u2, u3, rfl⟩
    have hsa := hba.size
    have hsx := hcx.size
    have hbxl := hX.lt
    have hOx := (hO.below hba).chg hcx hgW hWr (fun r hr => by have := hlo r hr; exact ⟨by omega, by omega, by omega⟩)
    have hTx := (hTb.below hba).chg hcx hbg (by have := hTb.lt; omega)
    have hbo : some b ≠ Value.ownBlock (.slice A' n' c') := fun e => by have := (hlo b e.symm).1; omega
    have x0 : w'.cell? ⟨wr.heap.size, 0, none⟩ = some (u1) := by have := hT'.at_ 0 _ rfl; rwa [Nat.zero_add] at this
    have x1 : w'.cell? ⟨wr.heap.size, 1, none⟩ = some (u2) := by have := hT'.at_ 1 _ rfl; rwa [Nat.zero_add] at this
    have x2 : w'.cell? ⟨wr.heap.size, 2, none⟩ = some (u3) := by have := hT'.at_ 2 _ rfl; rwa [Nat.zero_add] at this
    obtain ⟨bx, hbx⟩ : ∃ bx, bx = wr.heap.size := ⟨_, rfl⟩
    rw [← hbx] at hcx x0 x1 x2
    rw [← hbx]
    have hxlt : bx < w'.heap.size := by omega
    have hxb : bx ≠ b := by have := hTb.lt; omega
    have hxo : some bx ≠ Value.ownBlock (.slice A' n' c') := fun e => by have := (hlo bx e.symm).2; omega
    replace hbx := Lib.hid hbx
    go_upto_region 6 with (fail)
    have hM : MidL w' w'.drew b o (.slice A' n' c') := MidL.of_below (Below.refl _ _).drew hTx.lt
    replace hOx := hOx.below (Below.refl _ _).drew
    replace hTx := hTx.below (Below.refl _ _).drew
    have y0 : w'.drew.cell? ⟨bx, 0, none⟩ = some (u1) := x0
    have y1 : w'.drew.cell? ⟨bx, 1, none⟩ = some (u2) := x1
    have y2 : w'.drew.cell? ⟨bx, 2, none⟩ = some (u3) := x2
    clear x0 x1 x2
    have hxs : bx < w'.drew.heap.size := hxlt
    refine wp_region_held_drew (S := (fun w' => w'.cell? ⟨bx, 0, none⟩ = some (u1) ∧ w'.cell? ⟨bx, 1, none⟩ = some (u2) ∧ w'.cell? ⟨bx, 2, none⟩ = some (u3))) (by kernel_rfl) ?_ (fun hHeld => ?_)
    ·(try dsimp only)
     exact ⟨y0, y1, y2⟩
    generalize World.drew w' = vd at *
    refine tkQ 0 ?_
    refine tkQ 1 ?_
    refine tkQ 2 ?_
    refine tkQ 4 ?_
    refine rdN [3, 5] ?_
    refine rdC (fun K hK => ?_) ?_
    ·have t0 := hTx.c0
     go_simp
     clear t0
     refine hkO hK ⟨y0, y1, y2⟩ fun hHeld => ?_
     clear hK K
     refine rdN [5] ?_
     refine rdC (fun K hK => ?_) ?_
     ·go_simp
      generalize hx_ : World.alloc vd _ = v2
      have hbq : Below vd.heap.size vd v2 := by rw [← hx_]; exact (Below.refl _ _).alloc (Nat.le_refl _) _
      have hz : CellsAt v2 vd.heap.size [u1, u2, u3] := by rw [← hx_]; exact CellsAt.new vd #[u1, u2, u3] _
      clear hx_
      obtain ⟨zb, hzb⟩ : ∃ zb, zb = vd.heap.size := ⟨_, rfl⟩
      rw [← hzb] at hz ⊢
      clear hzb
      replace hM := hM.below hbq hTx.lt
      replace hOx := hOx.below hbq
      replace hTx := hTx.below hbq
      replace y0 := (hbq.cell (p := ⟨bx, 0, none⟩) hxs).trans y0
      replace y1 := (hbq.cell (p := ⟨bx, 1, none⟩) hxs).trans y1
      replace y2 := (hbq.cell (p := ⟨bx, 2, none⟩) hxs).trans y2
      replace hxs := Nat.lt_of_lt_of_le hxs hbq.size
      clear hbq
      refine hkO hK ⟨y0, y1, y2⟩ fun hHeld => ?_
      clear hK K
      refine rdN [6] ?_
      refine rdC (fun K hK => ?_) ?_
      ·have hzq : Seq v2 v2.heap.size C.sz (some ⟨zb, 0, none⟩) 1 [u1, u2, u3] := ⟨by rw [hk]; rfl, fun _ => ⟨zb, 0, rfl, hz.lt, fun j u hu => by rw [Nat.zero_add]; exact hz.cell j u hu⟩⟩
       rw [hk] at hOx hzq
       refine step_appS hOx Tryz.underlying26 lout_r_info hzq h12 (by omega) ?_
       intro v9 v3 hO9 hg9
       obtain ⟨A9, c9, rfl⟩ := hO9.slice_form
       have hat9 := hg9.at_
       have hb9 := hTx.lt
       have hTy : Tgt v3 b o [.slice A' n' c'] := ⟨Nat.lt_of_lt_of_le hb9 hg9.by_.size, fun j u hu => (hg9.cell (p := ⟨b, o + j, none⟩) hb9 hbo).trans (hTx.at_ j u hu), fun j => (hg9.frozen (p := ⟨b, j, none⟩) hb9 hbo).trans (hTx.fr j)⟩
       have hle9 := hM.hs
       replace hM := hM.grew hg9 hb9 hbo
       replace y0 := (hg9.cell (p := ⟨bx, 0, none⟩) hxs hxo).trans y0
       replace y1 := (hg9.cell (p := ⟨bx, 1, none⟩) hxs hxo).trans y1
       replace y2 := (hg9.cell (p := ⟨bx, 2, none⟩) hxs hxo).trans y2
       clear hTx hOx hzq hz hg9 hxs
       refine hkO hK ⟨y0, y1, y2⟩ fun hHeld => ?_
       clear hK K
       refine tkQ 7 ?_
       refine rdN [8] ?_
       refine rdC (fun K hK => ?_) ?_
       ·have t0 := hTy.c0
        have tf := hTy.fr
        go_simp
        clear t0 tf
        replace hTy := hTy.set1 (.slice A9 (n' + 1) c9)
        replace hM := hM.set (.slice A9 (n' + 1) c9)
        have hb9x : some b ≠ Value.ownBlock (.slice A9 (n' + 1) c9) := fun e => by
         rcases hat9 with e2 | e2
         ·exact hbo (e.trans e2)
         ·rw [e2] at e; injection e with e; omega
        replace hO9 := hO9.setAt hbW hb9x (.slice A9 (n' + 1) c9) (o := o)
        replace y0 := (World.cell?_setCell_far v3 ⟨b, o, none⟩ ⟨bx, 0, none⟩ (.slice A9 (n' + 1) c9) (fun e => hxb e.symm)).trans y0
        replace y1 := (World.cell?_setCell_far v3 ⟨b, o, none⟩ ⟨bx, 1, none⟩ (.slice A9 (n' + 1) c9) (fun e => hxb e.symm)).trans y1
        replace y2 := (World.cell?_setCell_far v3 ⟨b, o, none⟩ ⟨bx, 2, none⟩ (.slice A9 (n' + 1) c9) (fun e => hxb e.symm)).trans y2
        generalize (v3.setCell ⟨b, o, none⟩ (.slice A9 (n' + 1) c9)) = v4 at *
        refine hkO hK ⟨y0, y1, y2⟩ fun hHeld => ?_
        clear hK K
        refine wpAnyH_done (by kernel_rfl) ?_ _
        clear hHeld
        have hOz : Own W0 v4 214 C.sz (.slice A9 (n' + 1) c9) (n' + 1) (xs ++ [u1, u2, u3]) := by rw [hk]; exact hO9
        have hN := LSt.next (T := 214) (cs' := [u1, u2, u3]) hC hgi hb1 hbg hgW hbW hm.out hal.out hP hRL hch hlo hba hbx.out (by rw [hbx.out]; exact hbxl) (by rw [hk]; exact (show Chg wa w' gi bx 0 (0 + 3) from by rw [← hk]; exact hcx)) (by rw [hk]; rfl) hcx0 hh hM.hk hM.hs hM.os hM.tp hM.ou hM.out hM.fr hOz (hat9.imp id (fun e => ⟨_, e, hle9⟩)) hTy
        repeat' (first | go_skip | go_guarded | go_step)
        go_roundw
        case rel => exact ⟨_, _, _, hN⟩
        case measure =>
         rw [hmes]
         obtain ⟨_, _, _, _, _, _, hh2⟩ := hN
         rcases hh2 with ⟨a2, r2, hm2, hal2, _, hC2, _⟩ | ⟨_, _, _, _, hC2⟩
         ·rw [mes_of hC2]
          rw [hm.out] at hm2
          have hal := hal.out
          have := congrArg List.length hm2
          simp only [List.length_append, List.length_cons] at this ⊢
          omega
         ·rw [mes_bad hC2]; simp
       exact AllReadyH.nil
      exact AllReadyH.nil
     exact AllReadyH.nil
    refine rdC (fun K hK => ?_) ?_
    ·go_simp
     generalize hx_ : World.alloc vd _ = v1
     have hbq : Below vd.heap.size vd v1 := by rw [← hx_]; exact (Below.refl _ _).alloc (Nat.le_refl _) _
     have hz : CellsAt v1 vd.heap.size [u1, u2, u3] := by rw [← hx_]; exact CellsAt.new vd #[u1, u2, u3] _
     clear hx_
     obtain ⟨zb, hzb⟩ : ∃ zb, zb = vd.heap.size := ⟨_, rfl⟩
     rw [← hzb] at hz ⊢
     clear hzb
     replace hM := hM.below hbq hTx.lt
     replace hOx := hOx.below hbq
     replace hTx := hTx.below hbq
     replace y0 := (hbq.cell (p := ⟨bx, 0, none⟩) hxs).trans y0
     replace y1 := (hbq.cell (p := ⟨bx, 1, none⟩) hxs).trans y1
     replace y2 := (hbq.cell (p := ⟨bx, 2, none⟩) hxs).trans y2
     replace hxs := Nat.lt_of_lt_of_le hxs hbq.size
     clear hbq
     refine hkO hK ⟨y0, y1, y2⟩ fun hHeld => ?_
     clear hK K
     refine rdN [3] ?_
     refine rdC (fun K hK => ?_) ?_
     ·have t0 := hTx.c0
      go_simp
      clear t0
      refine hkO hK ⟨y0, y1, y2⟩ fun hHeld => ?_
      clear hK K
      refine rdN [6] ?_
      refine rdC (fun K hK => ?_) ?_
      ·have hzq : Seq v1 v1.heap.size C.sz (some ⟨zb, 0, none⟩) 1 [u1, u2, u3] := ⟨by rw [hk]; rfl, fun _ => ⟨zb, 0, rfl, hz.lt, fun j u hu => by rw [Nat.zero_add]; exact hz.cell j u hu⟩⟩
       rw [hk] at hOx hzq
       refine step_appS hOx Tryz.underlying26 lout_r_info hzq h12 (by omega) ?_
       intro v9 v3 hO9 hg9
       obtain ⟨A9, c9, rfl⟩ := hO9.slice_form
       have hat9 := hg9.at_
       have hb9 := hTx.lt
       have hTy : Tgt v3 b o [.slice A' n' c'] := ⟨Nat.lt_of_lt_of_le hb9 hg9.by_.size, fun j u hu => (hg9.cell (p := ⟨b, o + j, none⟩) hb9 hbo).trans (hTx.at_ j u hu), fun j => (hg9.frozen (p := ⟨b, j, none⟩) hb9 hbo).trans (hTx.fr j)⟩
       have hle9 := hM.hs
       replace hM := hM.grew hg9 hb9 hbo
       replace y0 := (hg9.cell (p := ⟨bx, 0, none⟩) hxs hxo).trans y0
       replace y1 := (hg9.cell (p := ⟨bx, 1, none⟩) hxs hxo).trans y1
       replace y2 := (hg9.cell (p := ⟨bx, 2, none⟩) hxs hxo).trans y2
       clear hTx hOx hzq hz hg9 hxs
       refine hkO hK ⟨y0, y1, y2⟩ fun hHeld => ?_
       clear hK K
       refine tkQ 7 ?_
       refine rdN [8] ?_
       refine rdC (fun K hK => ?_) ?_
       ·have t0 := hTy.c0
        have tf := hTy.fr
        go_simp
        clear t0 tf
        replace hTy := hTy.set1 (.slice A9 (n' + 1) c9)
        replace hM := hM.set (.slice A9 (n' + 1) c9)
        have hb9x : some b ≠ Value.ownBlock (.slice A9 (n' + 1) c9) := fun e => by
         rcases hat9 with e2 | e2
         ·exact hbo (e.trans e2)
         ·rw [e2] at e; injection e with e; omega
        replace hO9 := hO9.setAt hbW hb9x (.slice A9 (n' + 1) c9) (o := o)
        replace y0 := (World.cell?_setCell_far v3 ⟨b, o, none⟩ ⟨bx, 0, none⟩ (.slice A9 (n' + 1) c9) (fun e => hxb e.symm)).trans y0
        replace y1 := (World.cell?_setCell_far v3 ⟨b, o, none⟩ ⟨bx, 1, none⟩ (.slice A9 (n' + 1) c9) (fun e => hxb e.symm)).trans y1
        replace y2 := (World.cell?_setCell_far v3 ⟨b, o, none⟩ ⟨bx, 2, none⟩ (.slice A9 (n' + 1) c9) (fun e => hxb e.symm)).trans y2
        generalize (v3.setCell ⟨b, o, none⟩ (.slice A9 (n' + 1) c9)) = v4 at *
        refine hkO hK ⟨y0, y1, y2⟩ fun hHeld => ?_
        clear hK K
        refine wpAnyH_done (by kernel_rfl) ?_ _
        clear hHeld
        have hOz : Own W0 v4 214 C.sz (.slice A9 (n' + 1) c9) (n' + 1) (xs ++ [u1, u2, u3]) := by rw [hk]; exact hO9
        have hN := LSt.next (T := 214) (cs' := [u1, u2, u3]) hC hgi hb1 hbg hgW hbW hm.out hal.out hP hRL hch hlo hba hbx.out (by rw [hbx.out]; exact hbxl) (by rw [hk]; exact (show Chg wa w' gi bx 0 (0 + 3) from by rw [← hk]; exact hcx)) (by rw [hk]; rfl) hcx0 hh hM.hk hM.hs hM.os hM.tp hM.ou hM.out hM.fr hOz (hat9.imp id (fun e => ⟨_, e, hle9⟩)) hTy
        repeat' (first | go_skip | go_guarded | go_step)
        go_roundw
        case rel => exact ⟨_, _, _, hN⟩
        case measure =>
         rw [hmes]
         obtain ⟨_, _, _, _, _, _, hh2⟩ := hN
         rcases hh2 with ⟨a2, r2, hm2, hal2, _, hC2, _⟩ | ⟨_, _, _, _, hC2⟩
         ·rw [mes_of hC2]
          rw [hm.out] at hm2
          have hal := hal.out
          have := congrArg List.length hm2
          simp only [List.length_append, List.length_cons] at this ⊢
          omega
         ·rw [mes_bad hC2]; simp
       exact AllReadyH.nil
      exact AllReadyH.nil
     exact AllReadyH.nil
    exact AllReadyH.nil
  ·skip
   obtain ⟨Ar, cr, q0⟩ := hCR.c0
   have q2 := hCR.c2
   cases l' with
   | nil =>
    have q0 : wr.cell? ⟨gi, 0, none⟩ = some (.slice Ar 0 cr) := q0
    repeat' (first | go_skip | go_guarded | go_step)
    refine (done_r W0 wr g gi r0 [] b0 true hout hCR).mono ?_
    rintro e wf ⟨rfl, hg, hC2⟩
    dsimp only
    repeat' ((fail_if_success at_builtin); first | go_skip | go_guarded | go_step)
    go_end0
    exact ⟨rfl, list_bad (li := []) hI hch hTb hno rfl hg hC2⟩
   | cons y l2 =>
    have q0 : wr.cell? ⟨gi, 0, none⟩ = some (.slice Ar (l2.length + 1) cr) := q0
    have i1 : (0 : Int) < (l2.length : Int) + 1 := by omega
    repeat' (first | go_skip | go_guarded | go_step)
    refine (done_r W0 wr g gi r0 (y :: l2) b0 true hout hCR).mono ?_
    rintro e wf ⟨rfl, hg, hC2⟩
    dsimp only
    repeat' ((fail_if_success at_builtin); first | go_skip | go_guarded | go_step)
    go_end0
    exact ⟨rfl, list_bad (li := y :: l2) hI hch hTb hno rfl hg hC2⟩
theorem outputs_rc : ReadC 123 (Cod.list Cod.output) (fitL (fitR [fitS, fitI, fitI])) [.slice none 0 0] := by
 intro W0 w g b o l bad h hb hne hT hc hl
 go_enter Tryz.func123, Tryz.ntmps123
 repeat' (first | go_skip | go_guarded | go_step)
 refine (lout_r Cod.output Cod.output_ok rfl (fitR [fitS, fitI, fitI]) outputs1_rc W0 w g b o l bad h hb hne hT hc hl).mono ?_
 rintro e w1 ⟨rfl, hF⟩
 dsimp only
 repeat' ((fail_if_success at_builtin); first | go_skip | go_guarded | go_step)
 go_end0
 exact ⟨rfl, hF⟩
theorem ltest_r_info : Info Tryz.prog 200 (.agg #[.string ⟨#[]⟩, .int .i64 0, .int .i64 0]) 3 32 := by unfold Info; kernel_rfl
theorem ltest_r (C : Cod) (hC : C.Ok) (hk : C.sz = 3) (P : FV → Prop) (hcode : ReadC 125 C P [.string ⟨#[]⟩, .int .i64 0, .int .i64 0]) : ReadL 124 (.func (.func 125) #[] #[]) (Cod.list C) (fitL P) [.slice none 0 0] := by
 intro W0 w g b o l bad h hb hne hT hc hl
 go_enter Tryz.func124, Tryz.ntmps124
 repeat' (first | go_skip | go_guarded | go_step)
 refine (inner_rS h hb hne hT hc hl).mono ?_
 rintro e w1 ⟨gi, m, r0, b0, rfl, hI, hS⟩
 obtain ⟨hCI, hTI⟩ := hS.zero
 clear hS
 have hb1 : b < w1.heap.size := Nat.lt_of_lt_of_le hI.bl hI.ch.size
 have hbg : b ≠ gi := by have := hI.lo; have := hI.bl; omega
 have hgW := hCI.lo
 have hbW := hI.bW
 have hgi := hI.lt
 have hml := lsz_length m
 have hlm := hI.lm
 have hcm := hI.cm
 dsimp only
 have c1 := hI.out.c1
 obtain ⟨Am, cm, m0⟩ := hCI.c0
 obtain ⟨i0, hi0, hz0, hzs, hzb⟩ := info_parts ltest_r_info
 obtain ⟨w2, hmk, hown, hgr⟩ := run_make_own (P := Tryz.prog) w1 w1.heap.size 27 200 i0 _ 3 Tryz.underlying27 hi0 hz0 hzs .i64 .i64 m.length (by rw [hzb]; omega) (by unfold maxLen; omega) (Nat.le_refl _)
 have hb12 : Below w1.heap.size w1 w2 := (Below.refl _ _).grown hgr (Nat.le_refl _) (fun k hk => by cases hk)
 have t0 := (hTI.below hb12).c0
 have tf := (hTI.below hb12).fr
 rw [← hk] at hown
 have hL0 := LSt.start (P := P) hgi hbg hTI hCI hgW hbW hown hgr
 clear hi0 hz0 hzs hzb i0 hown
 repeat' ((fail_if_success at_builtin); first | go_skip | go_guarded | go_step)
 clear hmk t0 tf m0 hgr hb12 c1
 generalize w2.setCell ⟨b, o, none⟩ (.slice (some ⟨w1.heap.size, 0, none⟩) 0 m.length) = w3 at *
 replace hcode := Lib.hid hcode
 go_loopw [] (fun wr => ∃ A' n' c', LSt W0 w1 wr gi b o 200 C P m A' n' c') (fun wr => mesW wr gi)
 case atStart => exact ⟨_, _, _, hL0⟩
 case round =>
  clear hL0 hCI hTI
  obtain ⟨A', n', c', hch, hTb, hnm, xs, hO, hlo, hh⟩ := hrel
  have hout := list_out hI hch
  rcases hh with ⟨a, r, hm, hal, hP, hCR, hRL⟩ | ⟨hno, l', hcl', hz', hCR⟩
  ·skip
   replace hm := Lib.hid hm
   replace hal := Lib.hid hal
   have hCRk := hCR
   obtain ⟨Ar, cr, q0⟩ := hCR.c0
   have q2 := hCR.c2
   cases r with
   | nil =>
    have q0 : wr.cell? ⟨gi, 0, none⟩ = some (.slice Ar 0 cr) := q0
    repeat' (first | go_skip | go_guarded | go_step)
    refine (done_r W0 wr g gi r0 [] b0 false hout hCR).mono ?_
    rintro e wf ⟨rfl, hg, hC2⟩
    dsimp only
    repeat' ((fail_if_success at_builtin); first | go_skip | go_guarded | go_step)
    go_end0
    exact ⟨rfl, list_good hI hC hch hTb hO hlo (by rw [hm.out, List.append_nil]; exact hal.out) (by rw [hm.out, List.append_nil]; exact hP) (by rw [hm.out, List.append_nil]; exact hRL) hg hC2⟩
   | cons x r =>
    have q0 : wr.cell? ⟨gi, 0, none⟩ = some (.slice Ar (r.length + 1) cr) := q0
    have i1 : (0 : Int) < (r.length : Int) + 1 := by omega
    have hmes := mes_of hCRk
    have hln : lsz (x :: r) ≤ 1000000000 := by have h := hlm; rw [hm.out] at h; exact Nat.le_trans (lsz_app _ _) h
    have hcx0 : Cln (x :: r) := by have h := hcm; rw [hm.out] at h; exact cln_app h
    have hWr := hO.2.size
    have hgir := hCRk.lt
    go_upto_region 5 with (fail)
    generalize hx_ : World.alloc wr _ = wa
    have hba : Below wr.heap.size wr wa := by rw [← hx_]; exact (Below.refl _ _).alloc (Nat.le_refl _) _
    have hX : Tgt wa wr.heap.size 0 [.string ⟨#[]⟩, .int .i64 0, .int .i64 0] := by rw [← hx_]; exact Tgt.new wr #[.string ⟨#[]⟩, .int .i64 0, .int .i64 0] _
    clear hx_ q0 q2
    repeat' (first | go_skip | go_guarded | go_step)
    refine (hcode.out W0 wa gi wr.heap.size 0 (x :: r) false (hCRk.below hba) hWr (by omega) hX hcx0 hln).mono ?_
    rintro e w' ⟨rfl, hcx, cs', hT', hcl, h12, hh⟩
    dsimp only
    rw [hk] at hcl
    obtain ⟨u1, u2, u3, rfl⟩ : ∃ u1 u2 u3, cs' = [u1, u2, u3] := by
     match cs', hcl with
     | [u1, u2, u3], _ => exact ⟨u1, u2, u3, rfl⟩
    have hsa := hba.size
    have hsx := hcx.size
    have hbxl := hX.lt
    have hOx := (hO.below hba).chg hcx hgW hWr (fun r hr => by have := hlo r hr; exact ⟨by omega, by omega, by omega⟩)
    have hTx := (hTb.below hba).chg hcx hbg (by have := hTb.lt; omega)
    have hbo : some b ≠ Value.ownBlock (.slice A' n' c') := fun e => by have := (hlo b e.symm).1; omega
    have x0 : w'.cell? ⟨wr.heap.size, 0, none⟩ = some (u1) := by have := hT'.at_ 0 _ rfl; rwa [Nat.zero_add] at this
    have x1 : w'.cell? ⟨wr.heap.size, 1, none⟩ = some (u2) := by have := hT'.at_ 1 _ rfl; rwa [Nat.zero_add] at this
    have x2 : w'.cell? ⟨wr.heap.size, 2, none⟩ = some (u3) := by have := hT'.at_ 2 _ rfl; rwa [Nat.zero_add] at this
    obtain ⟨bx, hbx⟩ : ∃ bx, bx = wr.heap.size := ⟨_, rfl⟩
    rw [← hbx] at hcx x0 x1 x2
    rw [← hbx]
    have hxlt : bx < w'.heap.size := by omega
    have hxb : bx ≠ b := by have := hTb.lt; omega
    have hxo : some bx ≠ Value.ownBlock (.slice A' n' c') := fun e => by have := (hlo bx e.symm).2; omega
    replace hbx := Lib.hid hbx
    go_upto_region 6 with (fail)
    have hM : MidL w' w'.drew b o (.slice A' n' c') := MidL.of_below (Below.refl _ _).drew hTx.lt
    replace hOx := hOx.below (Below.refl _ _).drew
    replace hTx := hTx.below (Below.refl _ _).drew
    have y0 : w'.drew.cell? ⟨bx, 0, none⟩ = some (u1) := x0
    have y1 : w'.drew.cell? ⟨bx, 1, none⟩ = some (u2) := x1
    have y2 : w'.drew.cell? ⟨bx, 2, none⟩ = some (u3) := x2
    clear x0 x1 x2
    have hxs : bx < w'.drew.heap.size := hxlt
    refine wp_region_held_drew (S := (fun w' => w'.cell? ⟨bx, 0, none⟩ = some (u1) ∧ w'.cell? ⟨bx, 1, none⟩ = some (u2) ∧ w'.cell? ⟨bx, 2, none⟩ = some (u3))) (by kernel_rfl) ?_ (fun hHeld => ?_)
    ·(try dsimp only)
     exact ⟨y0, y1, y2⟩
    generalize World.drew w' = vd at *
    refine tkQ 0 ?_
    refine tkQ 1 ?_
    refine tkQ 2 ?_
    refine tkQ 4 ?_
    refine rdN [3, 5] ?_
    refine rdC (fun K hK => ?_) ?_
    ·have t0 := hTx.c0
     go_simp
     clear t0
     refine hkO hK ⟨y0, y1, y2⟩ fun hHeld => ?_
     clear hK K
     refine rdN [5] ?_
     refine rdC (fun K hK => ?_) ?_
     ·go_simp
      generalize hx_ : World.alloc vd _ = v2
      have hbq : Below vd.heap.size vd v2 := by rw [← hx_]; exact (Below.refl _ _).alloc (Nat.le_refl _) _
      have hz : CellsAt v2 vd.heap.size [u1, u2, u3] := by rw [← hx_]; exact CellsAt.new vd #[u1, u2, u3] _
      clear hx_
      obtain ⟨zb, hzb⟩ : ∃ zb, zb = vd.heap.size := ⟨_, rfl⟩
      rw [← hzb] at hz ⊢
      clear hzb
      replace hM := hM.below hbq hTx.lt
      replace hOx := hOx.below hbq
      replace hTx := hTx.below hbq
      replace y0 := (hbq.cell (p := ⟨bx, 0, none⟩) hxs).trans y0
      replace y1 := (hbq.cell (p := ⟨bx, 1, none⟩) hxs).trans y1
      replace y2 := (hbq.cell (p := ⟨bx, 2, none⟩) hxs).trans y2
      replace hxs := Nat.lt_of_lt_of_le hxs hbq.size
      clear hbq
      refine hkO hK ⟨y0, y1, y2⟩ fun hHeld => ?_
      clear hK K
      refine rdN [6] ?_
      refine rdC (fun K hK => ?_) ?_
      ·have hzq : Seq v2 v2.heap.size C.sz (some ⟨zb, 0, none⟩) 1 [u1, u2, u3] := ⟨by rw [hk]; rfl, fun _ => ⟨zb, 0, rfl, hz.lt, fun j u hu => by rw [Nat.zero_add]; exact hz.cell j u hu⟩⟩
       rw [hk] at hOx hzq
       refine step_appS hOx Tryz.underlying27 ltest_r_info hzq h12 (by omega) ?_
       intro v9 v3 hO9 hg9
       obtain ⟨A9, c9, rfl⟩ := hO9.slice_form
       have hat9 := hg9.at_
       have hb9 := hTx.lt
       have hTy : Tgt v3 b o [.slice A' n' c'] := ⟨Nat.lt_of_lt_of_le hb9 hg9.by_.size, fun j u hu => (hg9.cell (p := ⟨b, o + j, none⟩) hb9 hbo).trans (hTx.at_ j u hu), fun j => (hg9.frozen (p := ⟨b, j, none⟩) hb9 hbo).trans (hTx.fr j)⟩
       have hle9 := hM.hs
       replace hM := hM.grew hg9 hb9 hbo
       replace y0 := (hg9.cell (p := ⟨bx, 0, none⟩) hxs hxo).trans y0
       replace y1 := (hg9.cell (p := ⟨bx, 1, none⟩) hxs hxo).trans y1
       replace y2 := (hg9.cell (p := ⟨bx, 2, none⟩) hxs hxo).trans y2
       clear hTx hOx hzq hz hg9 hxs
       refine hkO hK ⟨y0, y1, y2⟩ fun hHeld => ?_
       clear hK K
       refine tkQ 7 ?_
       refine rdN [8] ?_
       refine rdC (fun K hK => ?_) ?_
       ·have t0 := hTy.c0
        have tf := hTy.fr
        go_simp
        clear t0 tf
        replace hTy := hTy.set1 (.slice A9 (n' + 1) c9)
        replace hM := hM.set (.slice A9 (n' + 1) c9)
        have hb9x : some b ≠ Value.ownBlock (.slice A9 (n' + 1) c9) := fun e => by
         rcases hat9 with e2 | e2
         ·exact hbo (e.trans e2)
         ·rw [e2] at e; injection e with e; omega
        replace hO9 := hO9.setAt hbW hb9x (.slice A9 (n' + 1) c9) (o := o)
        replace y0 := (World.cell?_setCell_far v3 ⟨b, o, none⟩ ⟨bx, 0, none⟩ (.slice A9 (n' + 1) c9) (fun e => hxb e.symm)).trans y0
        replace y1 := (World.cell?_setCell_far v3 ⟨b, o, none⟩ ⟨bx, 1, none⟩ (.slice A9 (n' + 1) c9) (fun e => hxb e.symm)).trans y1
        replace y2 := (World.cell?_setCell_far v3 ⟨b, o, none⟩ ⟨bx, 2, none⟩ (.slice A9 (n' + 1) c9) (fun e => hxb e.symm)).trans y2
        generalize (v3.setCell ⟨b, o, none⟩ (.slice A9 (n' + 1) c9)) = v4 at *
        refine hkO hK ⟨y0, y1, y2⟩ fun hHeld => ?_
        clear hK K
        refine wpAnyH_done (by kernel_rfl) ?_ _
        clear hHeld
        have hOz : Own W0 v4 200 C.sz (.slice A9 (n' + 1) c9) (n' + 1) (xs ++ [u1, u2, u3]) := by rw [hk]; exact hO9
        have hN := LSt.next (T := 200) (cs' := [u1, u2, u3]) hC hgi hb1 hbg hgW hbW hm.out hal.out hP hRL hch hlo hba hbx.out (by rw [hbx.out]; exact hbxl) (by rw [hk]; exact (show Chg wa w' gi bx 0 (0 + 3) from by rw [← hk]; exact hcx)) (by rw [hk]; rfl) hcx0 hh hM.hk hM.hs hM.os hM.tp hM.ou hM.out hM.fr hOz (hat9.imp id (fun e => ⟨_, e, hle9⟩)) hTy
        repeat' (first | go_skip | go_guarded | go_step)
        go_roundw
        case rel => exact ⟨_, _, _, hN⟩
        case measure =>
         rw [hmes]
         obtain ⟨_, _, _, _, _, _, hh2⟩ := hN
         rcases hh2 with ⟨a2, r2, hm2, hal2, _, hC2, _⟩ | ⟨_, _, _, _, hC2⟩
         ·rw [mes_of hC2]
          rw [hm.out] at hm2
          have hal := hal.out
          have := congrArg List.length hm2
          simp only [List.length_append, List.length_cons] at this ⊢
          omega
         ·rw [mes_bad hC2]; simp
       exact AllReadyH.nil
      exact AllReadyH.nil
     exact AllReadyH.nil
    refine rdC (fun K hK => ?_) ?_
    ·go_simp
     generalize hx_ : World.alloc vd _ = v1
     have hbq : Below vd.heap.size vd v1 := by rw [← hx_]; exact (Below.refl _ _).alloc (Nat.le_refl _) _
     have hz : CellsAt v1 vd.heap.size [u1, u2, u3] := by rw [← hx_]; exact CellsAt.new vd #[u1, u2, u3] _
     clear hx_
     obtain ⟨zb, hzb⟩ : ∃ zb, zb = vd.heap.size := ⟨_, rfl⟩
     rw [← hzb] at hz ⊢
     clear hzb
     replace hM := hM.below hbq hTx.lt
     replace hOx := hOx.below hbq
     replace hTx := hTx.below hbq
     replace y0 := (hbq.cell (p := ⟨bx, 0, none⟩) hxs).trans y0
     replace y1 := (hbq.cell (p := ⟨bx, 1, none⟩) hxs).trans y1
     replace y2 := (hbq.cell (p := ⟨bx, 2, none⟩) hxs).trans y2
     replace hxs := Nat.lt_of_lt_of_le hxs hbq.size
     clear hbq
     refine hkO hK ⟨y0, y1, y2⟩ fun hHeld => ?_
     clear hK K
     refine rdN [3] ?_
     refine rdC (fun K hK => ?_) ?_
     ·have t0 := hTx.c0
      go_simp
      clear t0
      refine hkO hK ⟨y0, y1, y2⟩ fun hHeld => ?_
      clear hK K
      refine rdN [6] ?_
      refine rdC (fun K hK => ?_) ?_
      ·have hzq : Seq v1 v1.heap.size C.sz (some ⟨zb, 0, none⟩) 1 [u1, u2, u3] := ⟨by rw [hk]; rfl, fun _ => ⟨zb, 0, rfl, hz.lt, fun j u hu => by rw [Nat.zero_add]; exact hz.cell j u hu⟩⟩
       rw [hk] at hOx hzq
       refine step_appS hOx Tryz.underlying27 ltest_r_info hzq h12 (by omega) ?_
       intro v9 v3 hO9 hg9
       obtain ⟨A9, c9, rfl⟩ := hO9.slice_form
       have hat9 := hg9.at_
       have hb9 := hTx.lt
       have hTy : Tgt v3 b o [.slice A' n' c'] := ⟨Nat.lt_of_lt_of_le hb9 hg9.by_.size, fun j u hu => (hg9.cell (p := ⟨b, o + j, none⟩) hb9 hbo).trans (hTx.at_ j u hu), fun j => (hg9.frozen (p := ⟨b, j, none⟩) hb9 hbo).trans (hTx.fr j)⟩
       have hle9 := hM.hs
       replace hM := hM.grew hg9 hb9 hbo
       replace y0 := (hg9.cell (p := ⟨bx, 0, none⟩) hxs hxo).trans y0
       replace y1 := (hg9.cell (p := ⟨bx, 1, none⟩) hxs hxo).trans y1
       replace y2 := (hg9.cell (p := ⟨bx, 2, none⟩) hxs hxo).trans y2
       clear hTx hOx hzq hz hg9 hxs
       refine hkO hK ⟨y0, y1, y2⟩ fun hHeld => ?_
       clear hK K
       refine tkQ 7 ?_
       refine rdN [8] ?_
       refine rdC (fun K hK => ?_) ?_
       ·have t0 := hTy.c0
        have tf := hTy.fr
        go_simp
        clear t0 tf
        replace hTy := hTy.set1 (.slice A9 (n' + 1) c9)
        replace hM := hM.set (.slice A9 (n' + 1) c9)
        have hb9x : some b ≠ Value.ownBlock (.slice A9 (n' + 1) c9) := fun e => by
         rcases hat9 with e2 | e2
         ·exact hbo (e.trans e2)
         ·rw [e2] at e; injection e with e; omega
        replace hO9 := hO9.setAt hbW hb9x (.slice A9 (n' + 1) c9) (o := o)
        replace y0 := (World.cell?_setCell_far v3 ⟨b, o, none⟩ ⟨bx, 0, none⟩ (.slice A9 (n' + 1) c9) (fun e => hxb e.symm)).trans y0
        replace y1 := (World.cell?_setCell_far v3 ⟨b, o, none⟩ ⟨bx, 1, none⟩ (.slice A9 (n' + 1) c9) (fun e => hxb e.symm)).trans y1
        replace y2 := (World.cell?_setCell_far v3 ⟨b, o, none⟩ ⟨bx, 2, none⟩ (.slice A9 (n' + 1) c9) (fun e => hxb e.symm)).trans y2
        generalize (v3.setCell ⟨b, o, none⟩ (.slice A9 (n' + 1) c9)) = v4 at *
        refine hkO hK ⟨y0, y1, y2⟩ fun hHeld => ?_
        clear hK K
        refine wpAnyH_done (by kernel_rfl) ?_ _
        clear hHeld
        have hOz : Own W0 v4 200 C.sz (.slice A9 (n' + 1) c9) (n' + 1) (xs ++ [u1, u2, u3]) := by rw [hk]; exact hO9
        have hN := LSt.next (T := 200) (cs' := [u1, u2, u3]) hC hgi hb1 hbg hgW hbW hm.out hal.out hP hRL hch hlo hba hbx.out (by rw [hbx.out]; exact hbxl) (by rw [hk]; exact (show Chg wa w' gi bx 0 (0 + 3) from by rw [← hk]; exact hcx)) (by rw [hk]; rfl) hcx0 hh hM.hk hM.hs hM.os hM.tp hM.ou hM.out hM.fr hOz (hat9.imp id (fun e => ⟨_, e, hle9⟩)) hTy
        repeat' (first | go_skip | go_guarded | go_step)
        go_roundw
        case rel => exact ⟨_, _, _, hN⟩
        case measure =>
         rw [hmes]
         obtain ⟨_, _, _, _, _, _, hh2⟩ := hN
         rcases hh2 with ⟨a2, r2, hm2, hal2, _, hC2, _⟩ | ⟨_, _, _, _, hC2⟩
         ·rw [mes_of hC2]
          rw [hm.out] at hm2
          have hal := hal.out
          have := congrArg List.length hm2
          simp only [List.length_append, List.length_cons] at this ⊢
          omega
         ·rw [mes_bad hC2]; simp
       exact AllReadyH.nil
      exact AllReadyH.nil
     exact AllReadyH.nil
    exact AllReadyH.nil
  ·skip
   obtain ⟨Ar, cr, q0⟩ := hCR.c0
   have q2 := hCR.c2
   cases l' with
   | nil =>
    have q0 : wr.cell? ⟨gi, 0, none⟩ = some (.slice Ar 0 cr) := q0
    repeat' (first | go_skip | go_guarded | go_step)
    refine (done_r W0 wr g gi r0 [] b0 true hout hCR).mono ?_
    rintro e wf ⟨rfl, hg, hC2⟩
    dsimp only
    repeat' ((fail_if_success at_builtin); first | go_skip | go_guarded | go_step)
    go_end0
    exact ⟨rfl, list_bad (li := []) hI hch hTb hno rfl hg hC2⟩
   | cons y l2 =>
    have q0 : wr.cell? ⟨gi, 0, none⟩ = some (.slice Ar (l2.length + 1) cr) := q0
    have i1 : (0 : Int) < (l2.length : Int) + 1 := by omega
    repeat' (first | go_skip | go_guarded | go_step)
    refine (done_r W0 wr g gi r0 (y :: l2) b0 true hout hCR).mono ?_
    rintro e wf ⟨rfl, hg, hC2⟩
    dsimp only
    repeat' ((fail_if_success at_builtin); first | go_skip | go_guarded | go_step)
    go_end0
    exact ⟨rfl, list_bad (li := y :: l2) hI hch hTb hno rfl hg hC2⟩
theorem result_rc : ReadC 85 Cod.result (fitR [fitI, fitI, (fitL (fitR [fitS, fitI, fitI])), (fitL (fitR [fitS, fitI, fitI])), (fitL (fitR [fitS, fitI, fitI])), fitS]) [.int .i64 0, .int .i64 0, .slice none 0 0, .slice none 0 0, .slice none 0 0, .string ⟨#[]⟩] := by
 intro W0 w g b o l bad h hb hne hT hc hl
 replace hT : Tgt w b o ([.int .i64 0] ++ ([.int .i64 0] ++ ([.slice none 0 0] ++ ([.slice none 0 0] ++ ([.slice none 0 0] ++ ([.string ⟨#[]⟩] ++ ([]))))))) := hT
 go_enter Tryz.func85, Tryz.ntmps85
 repeat' (first | go_skip | go_guarded | go_step)
 refine (inner_rS h hb hne hT hc hl).mono ?_
 rintro e w1 ⟨gi, m, r0, b0, rfl, hI, hS⟩
 have hb1 : b < w1.heap.size := Nat.lt_of_lt_of_le hI.bl hI.ch.size
 have hbg : b ≠ gi := by have := hI.lo; have := hI.bl; omega
 have hO0 := okn
 dsimp only
 repeat' (first | go_skip | go_guarded | go_step)
 refine (RSt.call (k := o) int_rc hO0 Cod.int_ok hI.lt hI.bW hb1 hbg rfl hI.cm hI.lm hS rfl).mono ?_
 have hO1 := ok_snoc hO0 Cod.int_ok
 rintro e w2 ⟨rfl, hS⟩
 dsimp only
 repeat' (first | go_skip | go_guarded | go_step)
 refine (RSt.call (k := o + 1) int_rc hO1 Cod.int_ok hI.lt hI.bW hb1 hbg rfl hI.cm hI.lm hS rfl).mono ?_
 have hO2 := ok_snoc hO1 Cod.int_ok
 rintro e w3 ⟨rfl, hS⟩
 dsimp only
 repeat' (first | go_skip | go_guarded | go_step)
 refine (RSt.call (k := o + 2) outputs_rc hO2 (Cod.list_ok Cod.output_ok) hI.lt hI.bW hb1 hbg rfl hI.cm hI.lm hS rfl).mono ?_
 have hO3 := ok_snoc hO2 (Cod.list_ok Cod.output_ok)
 rintro e w4 ⟨rfl, hS⟩
 dsimp only
 repeat' (first | go_skip | go_guarded | go_step)
 refine (RSt.call (k := o + 3) outputs_rc hO3 (Cod.list_ok Cod.output_ok) hI.lt hI.bW hb1 hbg rfl hI.cm hI.lm hS rfl).mono ?_
 have hO4 := ok_snoc hO3 (Cod.list_ok Cod.output_ok)
 rintro e w5 ⟨rfl, hS⟩
 dsimp only
 repeat' (first | go_skip | go_guarded | go_step)
 refine (RSt.callL (k := o + 4) (ltest_r Cod.test Cod.test_ok rfl (fitR [fitS, fitI, fitI]) result1_rc) hO4 (Cod.list_ok Cod.test_ok) hI.lt hI.bW hb1 hbg rfl hI.cm hI.lm hS rfl).mono ?_
 have hO5 := ok_snoc hO4 (Cod.list_ok Cod.test_ok)
 rintro e w6 ⟨rfl, hS⟩
 dsimp only
 repeat' (first | go_skip | go_guarded | go_step)
 refine (RSt.call (k := o + 5) str_rc hO5 Cod.str_ok hI.lt hI.bW hb1 hbg rfl hI.cm hI.lm hS rfl).mono ?_
 have hO6 := ok_snoc hO5 Cod.str_ok
 rintro e w7 ⟨rfl, hS⟩
 dsimp only
 repeat' ((fail_if_success at_builtin); first | go_skip | go_guarded | go_step)
 obtain ⟨li, bi, hout, hin, hfin⟩ := hI.fin hO6 rfl hS
 refine (done_r W0 _ g gi r0 li b0 bi hout hin).mono ?_
 rintro e wf ⟨rfl, hg, hC⟩
 dsimp only
 repeat' ((fail_if_success at_builtin); first | go_skip | go_guarded | go_step)
 go_end0
 exact ⟨rfl, hfin _ hg hC⟩
end Go.Proofs.YtgdapkglofchjaaGreatDoor
