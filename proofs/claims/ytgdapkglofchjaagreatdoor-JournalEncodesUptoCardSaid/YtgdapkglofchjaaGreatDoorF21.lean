/- Joined: JnL4 JnL6 JnLa Small JnD. -/
import Derived.Test.YtgdapkglofchjaaGreatDoorF20
set_option maxRecDepth 100000
set_option maxHeartbeats 1000000
set_option linter.unusedVariables false
namespace Go.Proofs.YtgdapkglofchjaaGreatDoor
open Go.RowKit
theorem ints1_rt : ReadT 145 Cod.int fitI [.int .i64 0] (fun u => ∃ s : Int, u = .int .i64 s) := by
 intro W0 w g b o l bad h hb hne hT hc hl
 go_enter Tryz.func145, Tryz.ntmps145
 repeat' (first | go_skip | go_guarded | go_step)
 refine (int_rt W0 w g b o l bad h hb hne hT hc hl).mono ?_
 rintro e w1 ⟨rfl, hF⟩
 dsimp only
 repeat' ((fail_if_success at_builtin); first | go_skip | go_guarded | go_step)
 go_end0
 exact ⟨rfl, hF⟩
theorem lint_r_info : Info Tryz.prog 3 (.int .i64 0) 1 8 := by unfold Info; kernel_rfl
theorem lint_r (C : Cod) (hC : C.Ok) (hk : C.sz = 1) (P : FV → Prop) (hcode : ReadT 145 C P [.int .i64 0] (fun u => ∃ s : Int, u = .int .i64 s)) : ReadL 144 (.func (.func 145) #[] #[]) (Cod.list C) (fitL P) [.slice none 0 0] := by
 intro W0 w g b o l bad h hb hne hT hc hl
 go_enter Tryz.func144, Tryz.ntmps144
 repeat' (first | go_skip | go_guarded | go_step)
 refine (inner_rS h hb hne hT hc hl).mono ?_
 rintro e w1 ⟨gi, m, r0, b0, rfl, hI, hS⟩
 obtain ⟨hCI, hTI⟩ := hS.zero
 clear hS
 have hb1 : b < w1.heap.size := Nat.lt_of_lt_of_le hI.bl hI.ch.size
 have hbg : b ≠ gi := by have := hI.lo; have := hI.bl; omega
 have hgW := hCI.lo
 have hbW := hI.bW
 have hgi := hI.lt
 have hml := lsz_length m
 have hlm := hI.lm
 have hcm := hI.cm
 dsimp only
 have c1 := hI.out.c1
 obtain ⟨Am, cm, m0⟩ := hCI.c0
 obtain ⟨i0, hi0, hz0, hzs, hzb⟩ := info_parts lint_r_info
 obtain ⟨w2, hmk, hown, hgr⟩ := run_make_own (P := Tryz.prog) w1 w1.heap.size 31 3 i0 _ 1 Tryz.underlying31 hi0 hz0 hzs .i64 .i64 m.length (by rw [hzb]; omega) (by unfold maxLen; omega) (Nat.le_refl _)
 have hb12 : Below w1.heap.size w1 w2 := (Below.refl _ _).grown hgr (Nat.le_refl _) (fun k hk => by cases hk)
 have t0 := (hTI.below hb12).c0
 have tf := (hTI.below hb12).fr
 rw [← hk] at hown
 have hL0 := LSt.start (P := P) hgi hbg hTI hCI hgW hbW hown hgr
 clear hi0 hz0 hzs hzb i0 hown
 repeat' ((fail_if_success at_builtin); first | go_skip | go_guarded | go_step)
 clear hmk t0 tf m0 hgr hb12 c1
 generalize w2.setCell ⟨b, o, none⟩ (.slice (some ⟨w1.heap.size, 0, none⟩) 0 m.length) = w3 at *
 replace hcode := Lib.hid hcode
 go_loopw [] (fun wr => ∃ A' n' c', LSt W0 w1 wr gi b o 3 C P m A' n' c') (fun wr => mesW wr gi)
 case atStart => exact ⟨_, _, _, hL0⟩
 case round =>
  clear hL0 hCI hTI
  obtain ⟨A', n', c', hch, hTb, hnm, xs, hO, hlo, hh⟩ := hrel
  have hout := list_out hI hch
  rcases hh with ⟨a, r, hm, hal, hP, hCR, hRL⟩ | ⟨hno, l', hcl', hz', hCR⟩
  ·skip
   replace hm := Lib.hid hm
   replace hal := Lib.hid hal
   have hCRk := hCR
   obtain ⟨Ar, cr, q0⟩ := hCR.c0
   have q2 := hCR.c2
   cases r with
   | nil =>
    have q0 : wr.cell? ⟨gi, 0, none⟩ = some (.slice Ar 0 cr) := q0
    repeat' (first | go_skip | go_guarded | go_step)
    refine (done_r W0 wr g gi r0 [] b0 false hout hCR).mono ?_
    rintro e wf ⟨rfl, hg, hC2⟩
    dsimp only
    repeat' ((fail_if_success at_builtin); first | go_skip | go_guarded | go_step)
    go_end0
    exact ⟨rfl, list_good hI hC hch hTb hO hlo (by rw [hm.out, List.append_nil]; exact hal.out) (by rw [hm.out, List.append_nil]; exact hP) (by rw [hm.out, List.append_nil]; exact hRL) hg hC2⟩
   | cons x r =>
    have q0 : wr.cell? ⟨gi, 0, none⟩ = some (.slice Ar (r.length + 1) cr) := q0
    have i1 : (0 : Int) < (r.length : Int) + 1 := by omega
    have hmes := mes_of hCRk
    have hln : lsz (x :: r) ≤ 1000000000 := by have h := hlm; rw [hm.out] at h; exact Nat.le_trans (lsz_app _ _) h
    have hcx0 : Cln (x :: r) := by have h := hcm; rw [hm.out] at h; exact cln_app h
    have hWr := hO.2.size
    have hgir := hCRk.lt
    go_upto_region 5 with (fail)
    generalize hx_ : World.alloc wr _ = wa
    have hba : Below wr.heap.size wr wa := by rw [← hx_]; exact (Below.refl _ _).alloc (Nat.le_refl _) _
    have hX : Tgt wa wr.heap.size 0 [.int .i64 0] := by rw [← hx_]; exact Tgt.new wr #[.int .i64 0] _
    clear hx_ q0 q2
    repeat' (first | go_skip | go_guarded | go_step)
    refine (hcode.out W0 wa gi wr.heap.size 0 (x :: r) false (hCRk.below hba) hWr (by omega) hX hcx0 hln).mono ?_
    rintro e w' ⟨rfl, ⟨hcx, cs', hT', hcl, h12, hh⟩, uu, ⟨s1, rfl⟩, hTu⟩
    dsimp only
    rw [hk] at hcl
    obtain ⟨u1, rfl⟩ := one_list hcl
    obtain rfl : u1 = .int .i64 s1 := by have := hT'.c0.symm.trans hTu.c0; injection this
    have hsa := hba.size
    have hsx := hcx.size
    have hbxl := hX.lt
    have hOx := (hO.below hba).chg hcx hgW hWr (fun r hr => by have := hlo r hr; exact ⟨by omega, by omega, by omega⟩)
    have hTx := (hTb.below hba).chg hcx hbg (by have := hTb.lt; omega)
    have hbo : some b ≠ Value.ownBlock (.slice A' n' c') := fun e => by have := (hlo b e.symm).1; omega
    have x0 : w'.cell? ⟨wr.heap.size, 0, none⟩ = some (.int .i64 s1) := by have := hT'.at_ 0 _ rfl; rwa [Nat.zero_add] at this
    obtain ⟨bx, hbx⟩ : ∃ bx, bx = wr.heap.size := ⟨_, rfl⟩
    rw [← hbx] at hcx x0
    rw [← hbx]
    have hxlt : bx < w'.heap.size := by omega
    have hxb : bx ≠ b := by have := hTb.lt; omega
    have hxo : some bx ≠ Value.ownBlock (.slice A' n' c') := fun e => by have := (hlo bx e.symm).2; omega
    replace hbx := Lib.hid hbx
    go_upto_region 6 with (fail)
    have hM : MidL w' w'.drew b o (.slice A' n' c') := MidL.of_below (Below.refl _ _).drew hTx.lt
    replace hOx := hOx.below (Below.refl _ _).drew
    replace hTx := hTx.below (Below.refl _ _).drew
    have y0 : w'.drew.cell? ⟨bx, 0, none⟩ = some (.int .i64 s1) := x0
    clear x0
    have hxs : bx < w'.drew.heap.size := hxlt
    refine wp_region_held_drew (S := (fun w' => w'.cell? ⟨bx, 0, none⟩ = some (.int .i64 s1))) (by kernel_rfl) ?_ (fun hHeld => ?_)
    ·(try dsimp only)
     exact y0
    generalize World.drew w' = vd at *
    refine tkQ 0 ?_
    refine tkQ 1 ?_
    refine tkQ 2 ?_
    refine tkQ 4 ?_
    refine rdN [3, 5] ?_
    refine rdC (fun K hK => ?_) ?_
    ·have t0 := hTx.c0
     go_simp
     clear t0
     refine hkO hK y0 fun hHeld => ?_
     clear hK K
     refine rdN [5] ?_
     refine rdC (fun K hK => ?_) ?_
     ·go_simp
      generalize hx_ : World.alloc vd _ = v2
      have hbq : Below vd.heap.size vd v2 := by rw [← hx_]; exact (Below.refl _ _).alloc (Nat.le_refl _) _
      have hz : CellsAt v2 vd.heap.size [.int .i64 s1] := by rw [← hx_]; exact CellsAt.new vd #[.int .i64 s1] _
      clear hx_
      obtain ⟨zb, hzb⟩ : ∃ zb, zb = vd.heap.size := ⟨_, rfl⟩
      rw [← hzb] at hz ⊢
      clear hzb
      replace hM := hM.below hbq hTx.lt
      replace hOx := hOx.below hbq
      replace hTx := hTx.below hbq
      replace y0 := (hbq.cell (p := ⟨bx, 0, none⟩) hxs).trans y0
      replace hxs := Nat.lt_of_lt_of_le hxs hbq.size
      clear hbq
      refine hkO hK y0 fun hHeld => ?_
      clear hK K
      refine rdN [6] ?_
      refine rdC (fun K hK => ?_) ?_
      ·have hzq : Seq v2 v2.heap.size C.sz (some ⟨zb, 0, none⟩) 1 [.int .i64 s1] := ⟨by rw [hk]; rfl, fun _ => ⟨zb, 0, rfl, hz.lt, fun j u hu => by rw [Nat.zero_add]; exact hz.cell j u hu⟩⟩
       rw [hk] at hOx hzq
       refine step_appS hOx Tryz.underlying31 lint_r_info hzq h12 (by omega) ?_
       intro v9 v3 hO9 hg9
       obtain ⟨A9, c9, rfl⟩ := hO9.slice_form
       have hat9 := hg9.at_
       have hb9 := hTx.lt
       have hTy : Tgt v3 b o [.slice A' n' c'] := ⟨Nat.lt_of_lt_of_le hb9 hg9.by_.size, fun j u hu => (hg9.cell (p := ⟨b, o + j, none⟩) hb9 hbo).trans (hTx.at_ j u hu), fun j => (hg9.frozen (p := ⟨b, j, none⟩) hb9 hbo).trans (hTx.fr j)⟩
       have hle9 := hM.hs
       replace hM := hM.grew hg9 hb9 hbo
       replace y0 := (hg9.cell (p := ⟨bx, 0, none⟩) hxs hxo).trans y0
       clear hTx hOx hzq hz hg9 hxs
       refine hkO hK y0 fun hHeld => ?_
       clear hK K
       refine tkQ 7 ?_
       refine rdN [8] ?_
       refine rdC (fun K hK => ?_) ?_
       ·have t0 := hTy.c0
        have tf := hTy.fr
        go_simp
        clear t0 tf
        replace hTy := hTy.set1 (.slice A9 (n' + 1) c9)
        replace hM := hM.set (.slice A9 (n' + 1) c9)
        have hb9x : some b ≠ Value.ownBlock (.slice A9 (n' + 1) c9) := fun e => by
         rcases hat9 with e2 | e2
         ·exact hbo (e.trans e2)
         ·rw [e2] at e; injection e with e; omega
        replace hO9 := hO9.setAt hbW hb9x (.slice A9 (n' + 1) c9) (o := o)
        replace y0 := (World.cell?_setCell_far v3 ⟨b, o, none⟩ ⟨bx, 0, none⟩ (.slice A9 (n' + 1) c9) (fun e => hxb e.symm)).trans y0
        generalize (v3.setCell ⟨b, o, none⟩ (.slice A9 (n' + 1) c9)) = v4 at *
        refine hkO hK y0 fun hHeld => ?_
        clear hK K
        refine wpAnyH_done (by kernel_rfl) ?_ _
        clear hHeld
        have hOz : Own W0 v4 3 C.sz (.slice A9 (n' + 1) c9) (n' + 1) (xs ++ [.int .i64 s1]) := by rw [hk]; exact hO9
        have hN := LSt.next (T := 3) (cs' := [.int .i64 s1]) hC hgi hb1 hbg hgW hbW hm.out hal.out hP hRL hch hlo hba hbx.out (by rw [hbx.out]; exact hbxl) (by rw [hk]; exact (show Chg wa w' gi bx 0 (0 + 1) from by rw [← hk]; exact hcx)) (by rw [hk]; rfl) hcx0 hh hM.hk hM.hs hM.os hM.tp hM.ou hM.out hM.fr hOz (hat9.imp id (fun e => ⟨_, e, hle9⟩)) hTy
        repeat' (first | go_skip | go_guarded | go_step)
        go_roundw
        case rel => exact ⟨_, _, _, hN⟩
        case measure =>
         rw [hmes]
         obtain ⟨_, _, _, _, _, _, hh2⟩ := hN
         rcases hh2 with ⟨a2, r2, hm2, hal2, _, hC2, _⟩ | ⟨_, _, _, _, hC2⟩
         ·rw [mes_of hC2]
          rw [hm.out] at hm2
          have hal := hal.out
          have := congrArg List.length hm2
          simp only [List.length_append, List.length_cons] at this ⊢
          omega
         ·rw [mes_bad hC2]; simp
       exact AllReadyH.nil
      exact AllReadyH.nil
     exact AllReadyH.nil
    refine rdC (fun K hK => ?_) ?_
    ·go_simp
     generalize hx_ : World.alloc vd _ = v1
     have hbq : Below vd.heap.size vd v1 := by rw [← hx_]; exact (Below.refl _ _).alloc (Nat.le_refl _) _
     have hz : CellsAt v1 vd.heap.size [.int .i64 s1] := by rw [← hx_]; exact CellsAt.new vd #[.int .i64 s1] _
     clear hx_
     obtain ⟨zb, hzb⟩ : ∃ zb, zb = vd.heap.size := ⟨_, rfl⟩
     rw [← hzb] at hz ⊢
     clear hzb
     replace hM := hM.below hbq hTx.lt
     replace hOx := hOx.below hbq
     replace hTx := hTx.below hbq
     replace y0 := (hbq.cell (p := ⟨bx, 0, none⟩) hxs).trans y0
     replace hxs := Nat.lt_of_lt_of_le hxs hbq.size
     clear hbq
     refine hkO hK y0 fun hHeld => ?_
     clear hK K
     refine rdN [3] ?_
     refine rdC (fun K hK => ?_) ?_
     ·have t0 := hTx.c0
      go_simp
      clear t0
      refine hkO hK y0 fun hHeld => ?_
      clear hK K
      refine rdN [6] ?_
      refine rdC (fun K hK => ?_) ?_
      ·have hzq : Seq v1 v1.heap.size C.sz (some ⟨zb, 0, none⟩) 1 [.int .i64 s1] := ⟨by rw [hk]; rfl, fun _ => ⟨zb, 0, rfl, hz.lt, fun j u hu => by rw [Nat.zero_add]; exact hz.cell j u hu⟩⟩
       rw [hk] at hOx hzq
       refine step_appS hOx Tryz.underlying31 lint_r_info hzq h12 (by omega) ?_
       intro v9 v3 hO9 hg9
       obtain ⟨A9, c9, rfl⟩ := hO9.slice_form
       have hat9 := hg9.at_
       have hb9 := hTx.lt
       have hTy : Tgt v3 b o [.slice A' n' c'] := ⟨Nat.lt_of_lt_of_le hb9 hg9.by_.size, fun j u hu => (hg9.cell (p := ⟨b, o + j, none⟩) hb9 hbo).trans (hTx.at_ j u hu), fun j => (hg9.frozen (p := ⟨b, j, none⟩) hb9 hbo).trans (hTx.fr j)⟩
       have hle9 := hM.hs
       replace hM := hM.grew hg9 hb9 hbo
       replace y0 := (hg9.cell (p := ⟨bx, 0, none⟩) hxs hxo).trans y0
       clear hTx hOx hzq hz hg9 hxs
       refine hkO hK y0 fun hHeld => ?_
       clear hK K
       refine tkQ 7 ?_
       refine rdN [8] ?_
       refine rdC (fun K hK => ?_) ?_
       ·have t0 := hTy.c0
        have tf := hTy.fr
        go_simp
        clear t0 tf
        replace hTy := hTy.set1 (.slice A9 (n' + 1) c9)
        replace hM := hM.set (.slice A9 (n' + 1) c9)
        have hb9x : some b ≠ Value.ownBlock (.slice A9 (n' + 1) c9) := fun e => by
         rcases hat9 with e2 | e2
         ·exact hbo (e.trans e2)
         ·rw [e2] at e; injection e with e; omega
        replace hO9 := hO9.setAt hbW hb9x (.slice A9 (n' + 1) c9) (o := o)
        replace y0 := (World.cell?_setCell_far v3 ⟨b, o, none⟩ ⟨bx, 0, none⟩ (.slice A9 (n' + 1) c9) (fun e => hxb e.symm)).trans y0
        generalize (v3.setCell ⟨b, o, none⟩ (.slice A9 (n' + 1) c9)) = v4 at *
        refine hkO hK y0 fun hHeld => ?_
        clear hK K
        refine wpAnyH_done (by kernel_rfl) ?_ _
        clear hHeld
        have hOz : Own W0 v4 3 C.sz (.slice A9 (n' + 1) c9) (n' + 1) (xs ++ [.int .i64 s1]) := by rw [hk]; exact hO9
        have hN := LSt.next (T := 3) (cs' := [.int .i64 s1]) hC hgi hb1 hbg hgW hbW hm.out hal.out hP hRL hch hlo hba hbx.out (by rw [hbx.out]; exact hbxl) (by rw [hk]; exact (show Chg wa w' gi bx 0 (0 + 1) from by rw [← hk]; exact hcx)) (by rw [hk]; rfl) hcx0 hh hM.hk hM.hs hM.os hM.tp hM.ou hM.out hM.fr hOz (hat9.imp id (fun e => ⟨_, e, hle9⟩)) hTy
        repeat' (first | go_skip | go_guarded | go_step)
        go_roundw
        case rel => exact ⟨_, _, _, hN⟩
        case measure =>
         rw [hmes]
         obtain ⟨_, _, _, _, _, _, hh2⟩ := hN
         rcases hh2 with ⟨a2, r2, hm2, hal2, _, hC2, _⟩ | ⟨_, _, _, _, hC2⟩
         ·rw [mes_of hC2]
          rw [hm.out] at hm2
          have hal := hal.out
          have := congrArg List.length hm2
          simp only [List.length_append, List.length_cons] at this ⊢
          omega
         ·rw [mes_bad hC2]; simp
       exact AllReadyH.nil
      exact AllReadyH.nil
     exact AllReadyH.nil
    exact AllReadyH.nil
  ·skip
   obtain ⟨Ar, cr, q0⟩ := hCR.c0
   have q2 := hCR.c2
   cases l' with
   | nil =>
    have q0 : wr.cell? ⟨gi, 0, none⟩ = some (.slice Ar 0 cr) := q0
    repeat' (first | go_skip | go_guarded | go_step)
    refine (done_r W0 wr g gi r0 [] b0 true hout hCR).mono ?_
    rintro e wf ⟨rfl, hg, hC2⟩
    dsimp only
    repeat' ((fail_if_success at_builtin); first | go_skip | go_guarded | go_step)
    go_end0
    exact ⟨rfl, list_bad (li := []) hI hch hTb hno rfl hg hC2⟩
   | cons y l2 =>
    have q0 : wr.cell? ⟨gi, 0, none⟩ = some (.slice Ar (l2.length + 1) cr) := q0
    have i1 : (0 : Int) < (l2.length : Int) + 1 := by omega
    repeat' (first | go_skip | go_guarded | go_step)
    refine (done_r W0 wr g gi r0 (y :: l2) b0 true hout hCR).mono ?_
    rintro e wf ⟨rfl, hg, hC2⟩
    dsimp only
    repeat' ((fail_if_success at_builtin); first | go_skip | go_guarded | go_step)
    go_end0
    exact ⟨rfl, list_bad (li := y :: l2) hI hch hTb hno rfl hg hC2⟩
theorem ints_rc : ReadC 128 Cod.ints (fitL fitI) [.slice none 0 0] := by
 intro W0 w g b o l bad h hb hne hT hc hl
 go_enter Tryz.func128, Tryz.ntmps128
 repeat' (first | go_skip | go_guarded | go_step)
 refine (lint_r Cod.int Cod.int_ok rfl fitI ints1_rt W0 w g b o l bad h hb hne hT hc hl).mono ?_
 rintro e w1 ⟨rfl, hF⟩
 dsimp only
 repeat' ((fail_if_success at_builtin); first | go_skip | go_guarded | go_step)
 go_end0
 exact ⟨rfl, hF⟩
theorem ltim_r_info : Info Tryz.prog 150 (.agg #[.string ⟨#[]⟩, .int .i64 0]) 2 24 := by unfold Info; kernel_rfl
theorem ltim_r (C : Cod) (hC : C.Ok) (hk : C.sz = 2) (P : FV → Prop) (hcode : ReadC 83 C P [.string ⟨#[]⟩, .int .i64 0]) : ReadL 82 (.func (.func 83) #[] #[]) (Cod.list C) (fitL P) [.slice none 0 0] := by
 intro W0 w g b o l bad h hb hne hT hc hl
 go_enter Tryz.func82, Tryz.ntmps82
 repeat' (first | go_skip | go_guarded | go_step)
 refine (inner_rS h hb hne hT hc hl).mono ?_
 rintro e w1 ⟨gi, m, r0, b0, rfl, hI, hS⟩
 obtain ⟨hCI, hTI⟩ := hS.zero
 clear hS
 have hb1 : b < w1.heap.size := Nat.lt_of_lt_of_le hI.bl hI.ch.size
 have hbg : b ≠ gi := by have := hI.lo; have := hI.bl; omega
 have hgW := hCI.lo
 have hbW := hI.bW
 have hgi := hI.lt
 have hml := lsz_length m
 have hlm := hI.lm
 have hcm := hI.cm
 dsimp only
 have c1 := hI.out.c1
 obtain ⟨Am, cm, m0⟩ := hCI.c0
 obtain ⟨i0, hi0, hz0, hzs, hzb⟩ := info_parts ltim_r_info
 obtain ⟨w2, hmk, hown, hgr⟩ := run_make_own (P := Tryz.prog) w1 w1.heap.size 25 150 i0 _ 2 Tryz.underlying25 hi0 hz0 hzs .i64 .i64 m.length (by rw [hzb]; omega) (by unfold maxLen; omega) (Nat.le_refl _)
 have hb12 : Below w1.heap.size w1 w2 := (Below.refl _ _).grown hgr (Nat.le_refl _) (fun k hk => by cases hk)
 have t0 := (hTI.below hb12).c0
 have tf := (hTI.below hb12).fr
 rw [← hk] at hown
 have hL0 := LSt.start (P := P) hgi hbg hTI hCI hgW hbW hown hgr
 clear hi0 hz0 hzs hzb i0 hown
 repeat' ((fail_if_success at_builtin); first | go_skip | go_guarded | go_step)
 clear hmk t0 tf m0 hgr hb12 c1
 generalize w2.setCell ⟨b, o, none⟩ (.slice (some ⟨w1.heap.size, 0, none⟩) 0 m.length) = w3 at *
 replace hcode := Lib.hid hcode
 go_loopw [] (fun wr => ∃ A' n' c', LSt W0 w1 wr gi b o 150 C P m A' n' c') (fun wr => mesW wr gi)
 case atStart => exact ⟨_, _, _, hL0⟩
 case round =>
  clear hL0 hCI hTI
  obtain ⟨A', n', c', hch, hTb, hnm, xs, hO, hlo, hh⟩ := hrel
  have hout := list_out hI hch
  rcases hh with ⟨a, r, hm, hal, hP, hCR, hRL⟩ | ⟨hno, l', hcl', hz', hCR⟩
  ·skip
   replace hm := Lib.hid hm
   replace hal := Lib.hid hal
   have hCRk := hCR
   obtain ⟨Ar, cr, q0⟩ := hCR.c0
   have q2 := hCR.c2
   cases r with
   | nil =>
    have q0 : wr.cell? ⟨gi, 0, none⟩ = some (.slice Ar 0 cr) := q0
    repeat' (first | go_skip | go_guarded | go_step)
    refine (done_r W0 wr g gi r0 [] b0 false hout hCR).mono ?_
    rintro e wf ⟨rfl, hg, hC2⟩
    dsimp only
    repeat' ((fail_if_success at_builtin); first | go_skip | go_guarded | go_step)
    go_end0
    exact ⟨rfl, list_good hI hC hch hTb hO hlo (by rw [hm.out, List.append_nil]; exact hal.out) (by rw [hm.out, List.append_nil]; exact hP) (by rw [hm.out, List.append_nil]; exact hRL) hg hC2⟩
   | cons x r =>
    have q0 : wr.cell? ⟨gi, 0, none⟩ = some (.slice Ar (r.length + 1) cr) := q0
    have i1 : (0 : Int) < (r.length : Int) + 1 := by omega
    have hmes := mes_of hCRk
    have hln : lsz (x :: r) ≤ 1000000000 := by have h := hlm; rw [hm.out] at h; exact Nat.le_trans (lsz_app _ _) h
    have hcx0 : Cln (x :: r) := by have h := hcm; rw [hm.out] at h; exact cln_app h
    have hWr := hO.2.size
    have hgir := hCRk.lt
    go_upto_region 5 with (fail)
    generalize hx_ : World.alloc wr _ = wa
    have hba : Below wr.heap.size wr wa := by rw [← hx_]; exact (Below.refl _ _).alloc (Nat.le_refl _) _
    have hX : Tgt wa wr.heap.size 0 [.string ⟨#[]⟩, .int .i64 0] := by rw [← hx_]; exact Tgt.new wr #[.string ⟨#[]⟩, .int .i64 0] _
    clear hx_ q0 q2
    repeat' (first | go_skip | go_guarded | go_step)
    refine (hcode.out W0 wa gi wr.heap.size 0 (x :: r) false (hCRk.below hba) hWr (by omega) hX hcx0 hln).mono ?_
    rintro e w' ⟨rfl, hcx, cs', hT', hcl, h12, hh⟩
    dsimp only
    rw [hk] at hcl
    obtain ⟨u1, u2, rfl⟩ : ∃ u1 u2, cs' = [u1, u2] := by
     match cs', hcl with
     | [u1, u2], _ => exact ⟨u1, u2, rfl⟩
    have hsa := hba.size
    have hsx := hcx.size
    have hbxl := hX.lt
    have hOx := (hO.below hba).chg hcx hgW hWr (fun r hr => by have := hlo r hr; exact ⟨by omega, by omega, by omega⟩)
    have hTx := (hTb.below hba).chg hcx hbg (by have := hTb.lt; omega)
    have hbo : some b ≠ Value.ownBlock (.slice A' n' c') := fun e => by have := (hlo b e.symm).1; omega
    have x0 : w'.cell? ⟨wr.heap.size, 0, none⟩ = some (u1) := by have := hT'.at_ 0 _ rfl; rwa [Nat.zero_add] at this
    have x1 : w'.cell? ⟨wr.heap.size, 1, none⟩ = some (u2) := by have := hT'.at_ 1 _ rfl; rwa [Nat.zero_add] at this
    obtain ⟨bx, hbx⟩ : ∃ bx, bx = wr.heap.size := ⟨_, rfl⟩
    rw [← hbx] at hcx x0 x1
    rw [← hbx]
    have hxlt : bx < w'.heap.size := by omega
    have hxb : bx ≠ b := by have := hTb.lt; omega
    have hxo : some bx ≠ Value.ownBlock (.slice A' n' c') := fun e => by have := (hlo bx e.symm).2; omega
    replace hbx := Lib.hid hbx
    go_upto_region 6 with (fail)
    have hM : MidL w' w'.drew b o (.slice A' n' c') := MidL.of_below (Below.refl _ _).drew hTx.lt
    replace hOx := hOx.below (Below.refl _ _).drew
    replace hTx := hTx.below (Below.refl _ _).drew
    have y0 : w'.drew.cell? ⟨bx, 0, none⟩ = some (u1) := x0
    have y1 : w'.drew.cell? ⟨bx, 1, none⟩ = some (u2) := x1
    clear x0 x1
    have hxs : bx < w'.drew.heap.size := hxlt
    refine wp_region_held_drew (S := (fun w' => w'.cell? ⟨bx, 0, none⟩ = some (u1) ∧ w'.cell? ⟨bx, 1, none⟩ = some (u2))) (by kernel_rfl) ?_ (fun hHeld => ?_)
    ·(try dsimp only)
     exact ⟨y0, y1⟩
    generalize World.drew w' = vd at *
    refine tkQ 0 ?_
    refine tkQ 1 ?_
    refine tkQ 2 ?_
    refine tkQ 4 ?_
    refine rdN [3, 5] ?_
    refine rdC (fun K hK => ?_) ?_
    ·have t0 := hTx.c0
     go_simp
     clear t0
     refine hkO hK ⟨y0, y1⟩ fun hHeld => ?_
     clear hK K
     refine rdN [5] ?_
     refine rdC (fun K hK => ?_) ?_
     ·go_simp
      generalize hx_ : World.alloc vd _ = v2
      have hbq : Below vd.heap.size vd v2 := by rw [← hx_]; exact (Below.refl _ _).alloc (Nat.le_refl _) _
      have hz : CellsAt v2 vd.heap.size [u1, u2] := by rw [← hx_]; exact CellsAt.new vd #[u1, u2] _
      clear hx_
      obtain ⟨zb, hzb⟩ : ∃ zb, zb = vd.heap.size := ⟨_, rfl⟩
      rw [← hzb] at hz ⊢
      clear hzb
      replace hM := hM.below hbq hTx.lt
      replace hOx := hOx.below hbq
      replace hTx := hTx.below hbq
      replace y0 := (hbq.cell (p := ⟨bx, 0, none⟩) hxs).trans y0
      replace y1 := (hbq.cell (p := ⟨bx, 1, none⟩) hxs).trans y1
      replace hxs := Nat.lt_of_lt_of_le hxs hbq.size
      clear hbq
      refine hkO hK ⟨y0, y1⟩ fun hHeld => ?_
      clear hK K
      refine rdN [6] ?_
      refine rdC (fun K hK => ?_) ?_
      ·have hzq : Seq v2 v2.heap.size C.sz (some ⟨zb, 0, none⟩) 1 [u1, u2] := ⟨by rw [hk]; rfl, fun _ => ⟨zb, 0, rfl, hz.lt, fun j u hu => by rw [Nat.zero_add]; exact hz.cell j u hu⟩⟩
       rw [hk] at hOx hzq
       refine step_appS hOx Tryz.underlying25 ltim_r_info hzq h12 (by omega) ?_
       intro v9 v3 hO9 hg9
       obtain ⟨A9, c9, rfl⟩ := hO9.slice_form
       have hat9 := hg9.at_
       have hb9 := hTx.lt
       have hTy : Tgt v3 b o [.slice A' n' c'] := ⟨Nat.lt_of_lt_of_le hb9 hg9.by_.size, fun j u hu => (hg9.cell (p := ⟨b, o + j, none⟩) hb9 hbo).trans (hTx.at_ j u hu), fun j => (hg9.frozen (p := ⟨b, j, none⟩) hb9 hbo).trans (hTx.fr j)⟩
       have hle9 := hM.hs
       replace hM := hM.grew hg9 hb9 hbo
       replace y0 := (hg9.cell (p := ⟨bx, 0, none⟩) hxs hxo).trans y0
       replace y1 := (hg9.cell (p := ⟨bx, 1, none⟩) hxs hxo).trans y1
       clear hTx hOx hzq hz hg9 hxs
       refine hkO hK ⟨y0, y1⟩ fun hHeld => ?_
       clear hK K
       refine tkQ 7 ?_
       refine rdN [8] ?_
       refine rdC (fun K hK => ?_) ?_
       ·have t0 := hTy.c0
        have tf := hTy.fr
        go_simp
        clear t0 tf
        replace hTy := hTy.set1 (.slice A9 (n' + 1) c9)
        replace hM := hM.set (.slice A9 (n' + 1) c9)
        have hb9x : some b ≠ Value.ownBlock (.slice A9 (n' + 1) c9) := fun e => by
         rcases hat9 with e2 | e2
         ·exact hbo (e.trans e2)
         ·rw [e2] at e; injection e with e; omega
        replace hO9 := hO9.setAt hbW hb9x (.slice A9 (n' + 1) c9) (o := o)
        replace y0 := (World.cell?_setCell_far v3 ⟨b, o, none⟩ ⟨bx, 0, none⟩ (.slice A9 (n' + 1) c9) (fun e => hxb e.symm)).trans y0
        replace y1 := (World.cell?_setCell_far v3 ⟨b, o, none⟩ ⟨bx, 1, none⟩ (.slice A9 (n' + 1) c9) (fun e => hxb e.symm)).trans y1
        generalize (v3.setCell ⟨b, o, none⟩ (.slice A9 (n' + 1) c9)) = v4 at *
        refine hkO hK ⟨y0, y1⟩ fun hHeld => ?_
        clear hK K
        refine wpAnyH_done (by kernel_rfl) ?_ _
        clear hHeld
        have hOz : Own W0 v4 150 C.sz (.slice A9 (n' + 1) c9) (n' + 1) (xs ++ [u1, u2]) := by rw [hk]; exact hO9
        have hN := LSt.next (T := 150) (cs' := [u1, u2]) hC hgi hb1 hbg hgW hbW hm.out hal.out hP hRL hch hlo hba hbx.out (by rw [hbx.out]; exact hbxl) (by rw [hk]; exact (show Chg wa w' gi bx 0 (0 + 2) from by rw [← hk]; exact hcx)) (by rw [hk]; rfl) hcx0 hh hM.hk hM.hs hM.os hM.tp hM.ou hM.out hM.fr hOz (hat9.imp id (fun e => ⟨_, e, hle9⟩)) hTy
        repeat' (first | go_skip | go_guarded | go_step)
        go_roundw
        case rel => exact ⟨_, _, _, hN⟩
        case measure =>
         rw [hmes]
         obtain ⟨_, _, _, _, _, _, hh2⟩ := hN
         rcases hh2 with ⟨a2, r2, hm2, hal2, _, hC2, _⟩ | ⟨_, _, _, _, hC2⟩
         ·rw [mes_of hC2]
          rw [hm.out] at hm2
          have hal := hal.out
          have := congrArg List.length hm2
          simp only [List.length_append, List.length_cons] at this ⊢
          omega
         ·rw [mes_bad hC2]; simp
       exact AllReadyH.nil
      exact AllReadyH.nil
     exact AllReadyH.nil
    refine rdC (fun K hK => ?_) ?_
    ·go_simp
     generalize hx_ : World.alloc vd _ = v1
     have hbq : Below vd.heap.size vd v1 := by rw [← hx_]; exact (Below.refl _ _).alloc (Nat.le_refl _) _
     have hz : CellsAt v1 vd.heap.size [u1, u2] := by rw [← hx_]; exact CellsAt.new vd #[u1, u2] _
     clear hx_
     obtain ⟨zb, hzb⟩ : ∃ zb, zb = vd.heap.size := ⟨_, rfl⟩
     rw [← hzb] at hz ⊢
     clear hzb
     replace hM := hM.below hbq hTx.lt
     replace hOx := hOx.below hbq
     replace hTx := hTx.below hbq
     replace y0 := (hbq.cell (p := ⟨bx, 0, none⟩) hxs).trans y0
     replace y1 := (hbq.cell (p := ⟨bx, 1, none⟩) hxs).trans y1
     replace hxs := Nat.lt_of_lt_of_le hxs hbq.size
     clear hbq
     refine hkO hK ⟨y0, y1⟩ fun hHeld => ?_
     clear hK K
     refine rdN [3] ?_
     refine rdC (fun K hK => ?_) ?_
     ·have t0 := hTx.c0
      go_simp
      clear t0
      refine hkO hK ⟨y0, y1⟩ fun hHeld => ?_
      clear hK K
      refine rdN [6] ?_
      refine rdC (fun K hK => ?_) ?_
      ·have hzq : Seq v1 v1.heap.size C.sz (some ⟨zb, 0, none⟩) 1 [u1, u2] := ⟨by rw [hk]; rfl, fun _ => ⟨zb, 0, rfl, hz.lt, fun j u hu => by rw [Nat.zero_add]; exact hz.cell j u hu⟩⟩
       rw [hk] at hOx hzq
       refine step_appS hOx Tryz.underlying25 ltim_r_info hzq h12 (by omega) ?_
       intro v9 v3 hO9 hg9
       obtain ⟨A9, c9, rfl⟩ := hO9.slice_form
       have hat9 := hg9.at_
       have hb9 := hTx.lt
       have hTy : Tgt v3 b o [.slice A' n' c'] := ⟨Nat.lt_of_lt_of_le hb9 hg9.by_.size, fun j u hu => (hg9.cell (p := ⟨b, o + j, none⟩) hb9 hbo).trans (hTx.at_ j u hu), fun j => (hg9.frozen (p := ⟨b, j, none⟩) hb9 hbo).trans (hTx.fr j)⟩
       have hle9 := hM.hs
       replace hM := hM.grew hg9 hb9 hbo
       replace y0 := (hg9.cell (p := ⟨bx, 0, none⟩) hxs hxo).trans y0
       replace y1 := (hg9.cell (p := ⟨bx, 1, none⟩) hxs hxo).trans y1
       clear hTx hOx hzq hz hg9 hxs
       refine hkO hK ⟨y0, y1⟩ fun hHeld => ?_
       clear hK K
       refine tkQ 7 ?_
       refine rdN [8] ?_
       refine rdC (fun K hK => ?_) ?_
       ·have t0 := hTy.c0
        have tf := hTy.fr
        go_simp
        clear t0 tf
        replace hTy := hTy.set1 (.slice A9 (n' + 1) c9)
        replace hM := hM.set (.slice A9 (n' + 1) c9)
        have hb9x : some b ≠ Value.ownBlock (.slice A9 (n' + 1) c9) := fun e => by
         rcases hat9 with e2 | e2
         ·exact hbo (e.trans e2)
         ·rw [e2] at e; injection e with e; omega
        replace hO9 := hO9.setAt hbW hb9x (.slice A9 (n' + 1) c9) (o := o)
        replace y0 := (World.cell?_setCell_far v3 ⟨b, o, none⟩ ⟨bx, 0, none⟩ (.slice A9 (n' + 1) c9) (fun e => hxb e.symm)).trans y0
        replace y1 := (World.cell?_setCell_far v3 ⟨b, o, none⟩ ⟨bx, 1, none⟩ (.slice A9 (n' + 1) c9) (fun e => hxb e.symm)).trans y1
        generalize (v3.setCell ⟨b, o, none⟩ (.slice A9 (n' + 1) c9)) = v4 at *
        refine hkO hK ⟨y0, y1⟩ fun hHeld => ?_
        clear hK K
        refine wpAnyH_done (by kernel_rfl) ?_ _
        clear hHeld
        have hOz : Own W0 v4 150 C.sz (.slice A9 (n' + 1) c9) (n' + 1) (xs ++ [u1, u2]) := by rw [hk]; exact hO9
        have hN := LSt.next (T := 150) (cs' := [u1, u2]) hC hgi hb1 hbg hgW hbW hm.out hal.out hP hRL hch hlo hba hbx.out (by rw [hbx.out]; exact hbxl) (by rw [hk]; exact (show Chg wa w' gi bx 0 (0 + 2) from by rw [← hk]; exact hcx)) (by rw [hk]; rfl) hcx0 hh hM.hk hM.hs hM.os hM.tp hM.ou hM.out hM.fr hOz (hat9.imp id (fun e => ⟨_, e, hle9⟩)) hTy
        repeat' (first | go_skip | go_guarded | go_step)
        go_roundw
        case rel => exact ⟨_, _, _, hN⟩
        case measure =>
         rw [hmes]
         obtain ⟨_, _, _, _, _, _, hh2⟩ := hN
         rcases hh2 with ⟨a2, r2, hm2, hal2, _, hC2, _⟩ | ⟨_, _, _, _, hC2⟩
         ·rw [mes_of hC2]
          rw [hm.out] at hm2
          have hal := hal.out
          have := congrArg List.length hm2
          simp only [List.length_append, List.length_cons] at this ⊢
          omega
         ·rw [mes_bad hC2]; simp
       exact AllReadyH.nil
      exact AllReadyH.nil
     exact AllReadyH.nil
    exact AllReadyH.nil
  ·skip
   obtain ⟨Ar, cr, q0⟩ := hCR.c0
   have q2 := hCR.c2
   cases l' with
   | nil =>
    have q0 : wr.cell? ⟨gi, 0, none⟩ = some (.slice Ar 0 cr) := q0
    repeat' (first | go_skip | go_guarded | go_step)
    refine (done_r W0 wr g gi r0 [] b0 true hout hCR).mono ?_
    rintro e wf ⟨rfl, hg, hC2⟩
    dsimp only
    repeat' ((fail_if_success at_builtin); first | go_skip | go_guarded | go_step)
    go_end0
    exact ⟨rfl, list_bad (li := []) hI hch hTb hno rfl hg hC2⟩
   | cons y l2 =>
    have q0 : wr.cell? ⟨gi, 0, none⟩ = some (.slice Ar (l2.length + 1) cr) := q0
    have i1 : (0 : Int) < (l2.length : Int) + 1 := by omega
    repeat' (first | go_skip | go_guarded | go_step)
    refine (done_r W0 wr g gi r0 (y :: l2) b0 true hout hCR).mono ?_
    rintro e wf ⟨rfl, hg, hC2⟩
    dsimp only
    repeat' ((fail_if_success at_builtin); first | go_skip | go_guarded | go_step)
    go_end0
    exact ⟨rfl, list_bad (li := y :: l2) hI hch hTb hno rfl hg hC2⟩
theorem machine_rc : ReadC 86 Cod.machine (fitR [fitS, (fitL fitS), fitI, fitI, fitB, fitI, fitI, fitI, (fitL fitI)]) [.string ⟨#[]⟩, .slice none 0 0, .int .i64 0, .int .i64 0, .bool false, .int .i64 0, .int .i64 0, .int .i64 0, .slice none 0 0] := by
 intro W0 w g b o l bad h hb hne hT hc hl
 replace hT : Tgt w b o ([.string ⟨#[]⟩] ++ ([.slice none 0 0] ++ ([.int .i64 0] ++ ([.int .i64 0] ++ ([.bool false] ++ ([.int .i64 0] ++ ([.int .i64 0] ++ ([.int .i64 0] ++ ([.slice none 0 0] ++ ([])))))))))) := hT
 go_enter Tryz.func86, Tryz.ntmps86
 repeat' (first | go_skip | go_guarded | go_step)
 refine (inner_rS h hb hne hT hc hl).mono ?_
 rintro e w1 ⟨gi, m, r0, b0, rfl, hI, hS⟩
 have hb1 : b < w1.heap.size := Nat.lt_of_lt_of_le hI.bl hI.ch.size
 have hbg : b ≠ gi := by have := hI.lo; have := hI.bl; omega
 have hO0 := okn
 dsimp only
 repeat' (first | go_skip | go_guarded | go_step)
 refine (RSt.call (k := o) str_rc hO0 Cod.str_ok hI.lt hI.bW hb1 hbg rfl hI.cm hI.lm hS rfl).mono ?_
 have hO1 := ok_snoc hO0 Cod.str_ok
 rintro e w2 ⟨rfl, hS⟩
 dsimp only
 repeat' (first | go_skip | go_guarded | go_step)
 refine (RSt.call (k := o + 1) strs_rc hO1 Cod.strs_ok hI.lt hI.bW hb1 hbg rfl hI.cm hI.lm hS rfl).mono ?_
 have hO2 := ok_snoc hO1 Cod.strs_ok
 rintro e w3 ⟨rfl, hS⟩
 dsimp only
 repeat' (first | go_skip | go_guarded | go_step)
 refine (RSt.call (k := o + 2) int_rc hO2 Cod.int_ok hI.lt hI.bW hb1 hbg rfl hI.cm hI.lm hS rfl).mono ?_
 have hO3 := ok_snoc hO2 Cod.int_ok
 rintro e w4 ⟨rfl, hS⟩
 dsimp only
 repeat' (first | go_skip | go_guarded | go_step)
 refine (RSt.call (k := o + 3) int_rc hO3 Cod.int_ok hI.lt hI.bW hb1 hbg rfl hI.cm hI.lm hS rfl).mono ?_
 have hO4 := ok_snoc hO3 Cod.int_ok
 rintro e w5 ⟨rfl, hS⟩
 dsimp only
 repeat' (first | go_skip | go_guarded | go_step)
 refine (RSt.call (k := o + 4) flag_rc hO4 Cod.flag_ok hI.lt hI.bW hb1 hbg rfl hI.cm hI.lm hS rfl).mono ?_
 have hO5 := ok_snoc hO4 Cod.flag_ok
 rintro e w6 ⟨rfl, hS⟩
 dsimp only
 repeat' (first | go_skip | go_guarded | go_step)
 refine (RSt.call (k := o + 5) int_rc hO5 Cod.int_ok hI.lt hI.bW hb1 hbg rfl hI.cm hI.lm hS rfl).mono ?_
 have hO6 := ok_snoc hO5 Cod.int_ok
 rintro e w7 ⟨rfl, hS⟩
 dsimp only
 repeat' (first | go_skip | go_guarded | go_step)
 refine (RSt.call (k := o + 6) int_rc hO6 Cod.int_ok hI.lt hI.bW hb1 hbg rfl hI.cm hI.lm hS rfl).mono ?_
 have hO7 := ok_snoc hO6 Cod.int_ok
 rintro e w8 ⟨rfl, hS⟩
 dsimp only
 repeat' (first | go_skip | go_guarded | go_step)
 refine (RSt.call (k := o + 7) int_rc hO7 Cod.int_ok hI.lt hI.bW hb1 hbg rfl hI.cm hI.lm hS rfl).mono ?_
 have hO8 := ok_snoc hO7 Cod.int_ok
 rintro e w9 ⟨rfl, hS⟩
 dsimp only
 repeat' (first | go_skip | go_guarded | go_step)
 refine (RSt.call (k := o + 8) ints_rc hO8 Cod.ints_ok hI.lt hI.bW hb1 hbg rfl hI.cm hI.lm hS rfl).mono ?_
 have hO9 := ok_snoc hO8 Cod.ints_ok
 rintro e w10 ⟨rfl, hS⟩
 dsimp only
 repeat' ((fail_if_success at_builtin); first | go_skip | go_guarded | go_step)
 obtain ⟨li, bi, hout, hin, hfin⟩ := hI.fin hO9 rfl hS
 refine (done_r W0 _ g gi r0 li b0 bi hout hin).mono ?_
 rintro e wf ⟨rfl, hg, hC⟩
 dsimp only
 repeat' ((fail_if_success at_builtin); first | go_skip | go_guarded | go_step)
 go_end0
 exact ⟨rfl, hfin _ hg hC⟩
theorem secret_rc : ReadC 87 Cod.secret (fitR [fitS, fitS, fitI, (fitL fitS), (fitL fitS)]) [.string ⟨#[]⟩, .string ⟨#[]⟩, .int .i64 0, .slice none 0 0, .slice none 0 0] := by
 intro W0 w g b o l bad h hb hne hT hc hl
 replace hT : Tgt w b o ([.string ⟨#[]⟩] ++ ([.string ⟨#[]⟩] ++ ([.int .i64 0] ++ ([.slice none 0 0] ++ ([.slice none 0 0] ++ ([])))))) := hT
 go_enter Tryz.func87, Tryz.ntmps87
 repeat' (first | go_skip | go_guarded | go_step)
 refine (inner_rS h hb hne hT hc hl).mono ?_
 rintro e w1 ⟨gi, m, r0, b0, rfl, hI, hS⟩
 have hb1 : b < w1.heap.size := Nat.lt_of_lt_of_le hI.bl hI.ch.size
 have hbg : b ≠ gi := by have := hI.lo; have := hI.bl; omega
 have hO0 := okn
 dsimp only
 repeat' (first | go_skip | go_guarded | go_step)
 refine (RSt.call (k := o) str_rc hO0 Cod.str_ok hI.lt hI.bW hb1 hbg rfl hI.cm hI.lm hS rfl).mono ?_
 have hO1 := ok_snoc hO0 Cod.str_ok
 rintro e w2 ⟨rfl, hS⟩
 dsimp only
 repeat' (first | go_skip | go_guarded | go_step)
 refine (RSt.call (k := o + 1) str_rc hO1 Cod.str_ok hI.lt hI.bW hb1 hbg rfl hI.cm hI.lm hS rfl).mono ?_
 have hO2 := ok_snoc hO1 Cod.str_ok
 rintro e w3 ⟨rfl, hS⟩
 dsimp only
 repeat' (first | go_skip | go_guarded | go_step)
 refine (RSt.call (k := o + 2) int_rc hO2 Cod.int_ok hI.lt hI.bW hb1 hbg rfl hI.cm hI.lm hS rfl).mono ?_
 have hO3 := ok_snoc hO2 Cod.int_ok
 rintro e w4 ⟨rfl, hS⟩
 dsimp only
 repeat' (first | go_skip | go_guarded | go_step)
 refine (RSt.call (k := o + 3) strs_rc hO3 Cod.strs_ok hI.lt hI.bW hb1 hbg rfl hI.cm hI.lm hS rfl).mono ?_
 have hO4 := ok_snoc hO3 Cod.strs_ok
 rintro e w5 ⟨rfl, hS⟩
 dsimp only
 repeat' (first | go_skip | go_guarded | go_step)
 refine (RSt.call (k := o + 4) strs_rc hO4 Cod.strs_ok hI.lt hI.bW hb1 hbg rfl hI.cm hI.lm hS rfl).mono ?_
 have hO5 := ok_snoc hO4 Cod.strs_ok
 rintro e w6 ⟨rfl, hS⟩
 dsimp only
 repeat' ((fail_if_success at_builtin); first | go_skip | go_guarded | go_step)
 obtain ⟨li, bi, hout, hin, hfin⟩ := hI.fin hO5 rfl hS
 refine (done_r W0 _ g gi r0 li b0 bi hout hin).mono ?_
 rintro e wf ⟨rfl, hg, hC⟩
 dsimp only
 repeat' ((fail_if_success at_builtin); first | go_skip | go_guarded | go_step)
 go_end0
 exact ⟨rfl, hfin _ hg hC⟩
theorem entry_rc : ReadC 88 Cod.entry (fitR [(fitR [fitS, fitI, fitS]), fitS, fitI, fitI, fitI, fitI]) [.string ⟨#[]⟩, .int .i64 0, .string ⟨#[]⟩, .string ⟨#[]⟩, .int .u64 0, .int .i64 0, .int .i64 0, .int .i64 0] := by
 intro W0 w g b o l bad h hb hne hT hc hl
 replace hT : Tgt w b o ([.string ⟨#[]⟩, .int .i64 0, .string ⟨#[]⟩] ++ ([.string ⟨#[]⟩] ++ ([.int .u64 0] ++ ([.int .i64 0] ++ ([.int .i64 0] ++ ([.int .i64 0] ++ ([]))))))) := hT
 go_enter Tryz.func88, Tryz.ntmps88
 repeat' (first | go_skip | go_guarded | go_step)
 refine (inner_rS h hb hne hT hc hl).mono ?_
 rintro e w1 ⟨gi, m, r0, b0, rfl, hI, hS⟩
 have hb1 : b < w1.heap.size := Nat.lt_of_lt_of_le hI.bl hI.ch.size
 have hbg : b ≠ gi := by have := hI.lo; have := hI.bl; omega
 obtain ⟨hCI, hTI⟩ := hS.zero
 have hT1 : Tgt w1 b o ([.string ⟨#[]⟩] ++ ([.int .i64 0] ++ ([.string ⟨#[]⟩] ++ ([])))) := hTI.left
 dsimp only
 repeat' (first | go_skip | go_guarded | go_step)
 refine (inner_rS hCI hI.bW hbg hT1 hI.cm hI.lm).mono ?_
 rintro e w2 ⟨gs, ms, rs, bs, rfl, hJ, hR⟩
 have hb2 : b < w2.heap.size := Nat.lt_of_lt_of_le hJ.bl hJ.ch.size
 have hbs : b ≠ gs := by have := hJ.lo; have := hJ.bl; omega
 have hQ0 := okn
 dsimp only
 repeat' (first | go_skip | go_guarded | go_step)
 refine (RSt.call (k := o) str_rc hQ0 Cod.str_ok hJ.lt hI.bW hb2 hbs rfl hJ.cm hJ.lm hR rfl).mono ?_
 have hQ1 := ok_snoc hQ0 Cod.str_ok
 rintro e w_ ⟨rfl, hR⟩
 dsimp only
 repeat' (first | go_skip | go_guarded | go_step)
 refine (RSt.call (k := o + 1) int_rc hQ1 Cod.int_ok hJ.lt hI.bW hb2 hbs rfl hJ.cm hJ.lm hR rfl).mono ?_
 have hQ2 := ok_snoc hQ1 Cod.int_ok
 rintro e w_ ⟨rfl, hR⟩
 dsimp only
 repeat' (first | go_skip | go_guarded | go_step)
 refine (RSt.call (k := o + 2) str_rc hQ2 Cod.str_ok hJ.lt hI.bW hb2 hbs rfl hJ.cm hJ.lm hR rfl).mono ?_
 have hQ3 := ok_snoc hQ2 Cod.str_ok
 rintro e w_ ⟨rfl, hR⟩
 dsimp only
 repeat' ((fail_if_success at_builtin); first | go_skip | go_guarded | go_step)
 obtain ⟨li, bi, hout, hin, hfin⟩ := hJ.fin hQ3 rfl hR
 refine (done_r W0 _ gi gs rs li bs bi hout hin).mono ?_
 rintro e w3 ⟨rfl, hg3, hC3⟩
 dsimp only
 have hRS : ReadR W0 w1 w3 gi b o Cod.scope (fitR [fitS, fitI, fitS]) m false := hfin _ hg3 hC3
 have hS1 : RSt W0 w1 w3 gi b o false [.scope] [(fitR [fitS, fitI, fitS])] ([.string ⟨#[]⟩] ++ ([.int .u64 0] ++ ([.int .i64 0] ++ ([.int .i64 0] ++ ([.int .i64 0] ++ ([])))))) m := RSt.step (Cs := []) (Ps := []) (cs := []) (Z := [.string ⟨#[]⟩, .int .i64 0, .string ⟨#[]⟩]) okn Cod.scope_ok hI.lt hb1 hbg rfl (Chg.refl _ _ _ _ _) rfl hTI (fun u hu => by cases hu) hRS hI.cm (Or.inl ⟨[], rfl, trivial, rfl, rfl, rfl⟩)
 have hO1 := okc Cod.scope_ok okn
 clear hS hR hfin hout hin hRS
 repeat' (first | go_skip | go_guarded | go_step)
 refine (RSt.call (k := o + 3) str_rc hO1 Cod.str_ok hI.lt hI.bW hb1 hbg rfl hI.cm hI.lm hS1 rfl).mono ?_
 have hO2 := ok_snoc hO1 Cod.str_ok
 rintro e w_ ⟨rfl, hS1⟩
 dsimp only
 repeat' (first | go_skip | go_guarded | go_step)
 refine (RSt.call (k := o + 4) dig_rc hO2 Cod.dig_ok hI.lt hI.bW hb1 hbg rfl hI.cm hI.lm hS1 rfl).mono ?_
 have hO3 := ok_snoc hO2 Cod.dig_ok
 rintro e w_ ⟨rfl, hS1⟩
 dsimp only
 repeat' (first | go_skip | go_guarded | go_step)
 refine (RSt.call (k := o + 5) int_rc hO3 Cod.int_ok hI.lt hI.bW hb1 hbg rfl hI.cm hI.lm hS1 rfl).mono ?_
 have hO4 := ok_snoc hO3 Cod.int_ok
 rintro e w_ ⟨rfl, hS1⟩
 dsimp only
 repeat' (first | go_skip | go_guarded | go_step)
 refine (RSt.call (k := o + 6) int_rc hO4 Cod.int_ok hI.lt hI.bW hb1 hbg rfl hI.cm hI.lm hS1 rfl).mono ?_
 have hO5 := ok_snoc hO4 Cod.int_ok
 rintro e w_ ⟨rfl, hS1⟩
 dsimp only
 repeat' (first | go_skip | go_guarded | go_step)
 refine (RSt.call (k := o + 7) int_rc hO5 Cod.int_ok hI.lt hI.bW hb1 hbg rfl hI.cm hI.lm hS1 rfl).mono ?_
 have hO6 := ok_snoc hO5 Cod.int_ok
 rintro e w_ ⟨rfl, hS1⟩
 dsimp only
 repeat' ((fail_if_success at_builtin); first | go_skip | go_guarded | go_step)
 obtain ⟨li, bi, hout, hin, hfin⟩ := hI.fin hO6 rfl hS1
 refine (done_r W0 _ g gi r0 li b0 bi hout hin).mono ?_
 rintro e wf ⟨rfl, hg, hC⟩
 dsimp only
 repeat' ((fail_if_success at_builtin); first | go_skip | go_guarded | go_step)
 go_end0
 exact ⟨rfl, hfin _ hg hC⟩
def evP : List (FV → Prop) := [fitI, fitI, fitS, fitS, fitI, fitI, fitI, fitS, fitS, (fitR [fitS, fitS, fitB]), (fitL (fitR [fitS, FitV])), (fitL (fitR [fitS, fitI])), (fitR [fitI, fitI, (fitL (fitR [fitS, fitI, fitI])), (fitL (fitR [fitS, fitI, fitI])), (fitL (fitR [fitS, fitI, fitI])), fitS]), (fitR [fitS, (fitL fitS), fitI, fitI, fitB, fitI, fitI, fitI, (fitL fitI)]), (fitR [fitS, fitS, fitI, (fitL fitS), (fitL fitS)]), (fitR [(fitR [fitS, fitI, fitS]), fitS, fitI, fitI, fitI, fitI])]
theorem event_r (W0 w : World) (g b o : Nat) (l : List FV) (bad : Bool) (h : CR W0 w g l bad) (hb : W0.heap.size ≤ b) (hne : b ≠ g) (hT : Tgt w b o evZ) (hc : Cln l) (hl : lsz l ≤ 1000000000) :
  Calls Tryz.prog 36 #[.pointer (some ⟨g, 0, none⟩), .pointer (some ⟨b, o, none⟩)] w fun e w' => e = .returned (.tuple #[]) ∧ RSt W0 w w' g b o bad evC evP [] l := by
 have hT : Tgt w b o ([.int .i64 0] ++ ([.int .i64 0] ++ ([.string ⟨#[]⟩] ++ ([.string ⟨#[]⟩] ++ ([.int .i64 0] ++ ([.int .i64 0] ++ ([.int .i64 0] ++ ([.string ⟨#[]⟩] ++ ([.string ⟨#[]⟩] ++ ([.string ⟨#[]⟩, .string ⟨#[]⟩, .bool false] ++ ([.slice none 0 0] ++ ([.slice none 0 0] ++ ([.int .i64 0, .int .i64 0, .slice none 0 0, .slice none 0 0, .slice none 0 0, .string ⟨#[]⟩] ++ ([.string ⟨#[]⟩, .slice none 0 0, .int .i64 0, .int .i64 0, .bool false, .int .i64 0, .int .i64 0, .int .i64 0, .slice none 0 0] ++ ([.string ⟨#[]⟩, .string ⟨#[]⟩, .int .i64 0, .slice none 0 0, .slice none 0 0] ++ ([.string ⟨#[]⟩, .int .i64 0, .string ⟨#[]⟩, .string ⟨#[]⟩, .int .u64 0, .int .i64 0, .int .i64 0, .int .i64 0] ++ ([]))))))))))))))))) := hT
 have hS := RSt.start hT h
 have hg1 := h.lt
 have hb1 := hT.lt
 have hO0 := okn
 clear hT h
 go_enter Tryz.func36, Tryz.ntmps36
 repeat' (first | go_skip | go_guarded | go_step)
 refine (RSt.call (k := o) int_rc hO0 Cod.int_ok hg1 hb hb1 hne rfl hc hl hS rfl).mono ?_
 have hO1 := ok_snoc hO0 Cod.int_ok
 clear hS
 rintro e w2 ⟨rfl, hS⟩
 dsimp only
 repeat' (first | go_skip | go_guarded | go_step)
 refine (RSt.call (k := o + 1) int_rc hO1 Cod.int_ok hg1 hb hb1 hne rfl hc hl hS rfl).mono ?_
 have hO2 := ok_snoc hO1 Cod.int_ok
 clear hS
 rintro e w3 ⟨rfl, hS⟩
 dsimp only
 repeat' (first | go_skip | go_guarded | go_step)
 refine (RSt.call (k := o + 2) str_rc hO2 Cod.str_ok hg1 hb hb1 hne rfl hc hl hS rfl).mono ?_
 have hO3 := ok_snoc hO2 Cod.str_ok
 clear hS
 rintro e w4 ⟨rfl, hS⟩
 dsimp only
 repeat' (first | go_skip | go_guarded | go_step)
 refine (RSt.call (k := o + 3) str_rc hO3 Cod.str_ok hg1 hb hb1 hne rfl hc hl hS rfl).mono ?_
 have hO4 := ok_snoc hO3 Cod.str_ok
 clear hS
 rintro e w5 ⟨rfl, hS⟩
 dsimp only
 repeat' (first | go_skip | go_guarded | go_step)
 refine (RSt.call (k := o + 4) int_rc hO4 Cod.int_ok hg1 hb hb1 hne rfl hc hl hS rfl).mono ?_
 have hO5 := ok_snoc hO4 Cod.int_ok
 clear hS
 rintro e w6 ⟨rfl, hS⟩
 dsimp only
 repeat' (first | go_skip | go_guarded | go_step)
 refine (RSt.call (k := o + 5) int_rc hO5 Cod.int_ok hg1 hb hb1 hne rfl hc hl hS rfl).mono ?_
 have hO6 := ok_snoc hO5 Cod.int_ok
 clear hS
 rintro e w7 ⟨rfl, hS⟩
 dsimp only
 repeat' (first | go_skip | go_guarded | go_step)
 refine (RSt.call (k := o + 6) int_rc hO6 Cod.int_ok hg1 hb hb1 hne rfl hc hl hS rfl).mono ?_
 have hO7 := ok_snoc hO6 Cod.int_ok
 clear hS
 rintro e w8 ⟨rfl, hS⟩
 dsimp only
 repeat' (first | go_skip | go_guarded | go_step)
 refine (RSt.call (k := o + 7) str_rc hO7 Cod.str_ok hg1 hb hb1 hne rfl hc hl hS rfl).mono ?_
 have hO8 := ok_snoc hO7 Cod.str_ok
 clear hS
 rintro e w9 ⟨rfl, hS⟩
 dsimp only
 repeat' (first | go_skip | go_guarded | go_step)
 refine (RSt.call (k := o + 8) str_rc hO8 Cod.str_ok hg1 hb hb1 hne rfl hc hl hS rfl).mono ?_
 have hO9 := ok_snoc hO8 Cod.str_ok
 clear hS
 rintro e w10 ⟨rfl, hS⟩
 dsimp only
 repeat' (first | go_skip | go_guarded | go_step)
 refine (RSt.call (k := o + 9) origin_rc hO9 Cod.origin_ok hg1 hb hb1 hne rfl hc hl hS rfl).mono ?_
 have hO10 := ok_snoc hO9 Cod.origin_ok
 clear hS
 rintro e w11 ⟨rfl, hS⟩
 dsimp only
 repeat' (first | go_skip | go_guarded | go_step)
 refine (RSt.callL (k := o + 12) (lvar_r Cod.vari Cod.vari_ok rfl (fitR [fitS, FitV]) event1_rc) hO10 (Cod.list_ok Cod.vari_ok) hg1 hb hb1 hne rfl hc hl hS rfl).mono ?_
 have hO11 := ok_snoc hO10 (Cod.list_ok Cod.vari_ok)
 clear hS
 rintro e w12 ⟨rfl, hS⟩
 dsimp only
 repeat' (first | go_skip | go_guarded | go_step)
 refine (RSt.callL (k := o + 13) (ltim_r Cod.timing Cod.timing_ok rfl (fitR [fitS, fitI]) event2_rc) hO11 (Cod.list_ok Cod.timing_ok) hg1 hb hb1 hne rfl hc hl hS rfl).mono ?_
 have hO12 := ok_snoc hO11 (Cod.list_ok Cod.timing_ok)
 clear hS
 rintro e w13 ⟨rfl, hS⟩
 dsimp only
 repeat' (first | go_skip | go_guarded | go_step)
 refine (RSt.call (k := o + 14) result_rc hO12 Cod.result_ok hg1 hb hb1 hne rfl hc hl hS rfl).mono ?_
 have hO13 := ok_snoc hO12 Cod.result_ok
 clear hS
 rintro e w14 ⟨rfl, hS⟩
 dsimp only
 repeat' (first | go_skip | go_guarded | go_step)
 refine (RSt.call (k := o + 20) machine_rc hO13 Cod.machine_ok hg1 hb hb1 hne rfl hc hl hS rfl).mono ?_
 have hO14 := ok_snoc hO13 Cod.machine_ok
 clear hS
 rintro e w15 ⟨rfl, hS⟩
 dsimp only
 repeat' (first | go_skip | go_guarded | go_step)
 refine (RSt.call (k := o + 29) secret_rc hO14 Cod.secret_ok hg1 hb hb1 hne rfl hc hl hS rfl).mono ?_
 have hO15 := ok_snoc hO14 Cod.secret_ok
 clear hS
 rintro e w16 ⟨rfl, hS⟩
 dsimp only
 repeat' (first | go_skip | go_guarded | go_step)
 refine (RSt.call (k := o + 34) entry_rc hO15 Cod.entry_ok hg1 hb hb1 hne rfl hc hl hS rfl).mono ?_
 have hO16 := ok_snoc hO15 Cod.entry_ok
 clear hS
 rintro e w17 ⟨rfl, hS⟩
 dsimp only
 repeat' ((fail_if_success at_builtin); first | go_skip | go_guarded | go_step)
 go_end0
 exact ⟨rfl, hS⟩
end Go.Proofs.YtgdapkglofchjaaGreatDoor
namespace Go.Proofs.YtgdapkglofchjaaGreatDoor
def fvs (v : FV) : Nat := v.2.2.1.size + v.2.2.2.size + 1
theorem takeS_size {l : List UInt8} (h : (takeS l).2.2 = 0) : (takeS l).1.length + 1 ≤ (takeS l).2.1 := by
 unfold takeS at h ⊢
 split at h
 ·contradiction
 ·rename_i h1
  have h1 : (takeU l).2.2 = 0 := by omega
  have := takeU_len h1
  split at h
  ·simp at h
  ·rename_i h2
   rw [if_neg (by omega), if_neg h2]
   simp only [List.length_take, List.length_drop]
   omega
theorem one_small {sub : List UInt8 → Nat ⊕ (Flds × List UInt8)} {c : UInt8} {r r' : List UInt8} {v : FV} (hs : ∀ f r', sub r = .inr (f, r') → f.size + r'.length ≤ r.length) (h : one sub c r = .inr (v, r')) : fvs v + r'.length ≤ r.length + 1 := by
 unfold one at h
 split at h
 ·split at h
  ·simp at h
  ·rename_i h1
   have h1 : (takeU r).2.2 = 0 := by unfold takeI at h1; dsimp only at h1; omega
   have := takeU_len h1
   simp only [Sum.inr.injEq, Prod.mk.injEq] at h
   obtain ⟨rfl, rfl⟩ := h
   have hd : (List.drop (takeI r).2.1 r).length = r.length - (takeU r).2.1 := by rw [List.length_drop]; rfl
   rw [hd]
   simp only [fvs, Flds.size]
   have : ByteArray.empty.size = 0 := rfl
   omega
 ·split at h
  ·split at h
   ·simp at h
   ·rename_i h1
    have h1 : (takeS r).2.2 = 0 := by omega
    have h2 := takeS_len h1
    have h3 := takeS_size h1
    simp only [Sum.inr.injEq, Prod.mk.injEq] at h
    obtain ⟨rfl, rfl⟩ := h
    rw [List.length_drop]
    simp only [fvs, Flds.size]
    have : (ByteArray.mk (takeS r).1.toArray).size = (takeS r).1.length := by simp [ByteArray.size]
    omega
  ·split at h
   ·simp at h
   ·rename_i f r2 h1
    simp only [Sum.inr.injEq, Prod.mk.injEq] at h
    obtain ⟨rfl, rfl⟩ := h
    have := hs _ _ h1
    simp only [fvs]
    have : ByteArray.empty.size = 0 := rfl
    omega
theorem many_small {o : UInt8 → List UInt8 → Nat ⊕ (FV × List UInt8)} {deep : Bool} : ∀ (n : Nat) (l r : List UInt8) (f : Flds), (∀ c r v r', r.length < l.length → o c r = .inr (v, r') → fvs v + r'.length ≤ r.length + 1) → many o deep n l = .inr (f, r) → f.size + r.length ≤ l.length + 1
 | 0, l, r, f, _, h => by
  simp only [many, Sum.inr.injEq, Prod.mk.injEq] at h
  obtain ⟨rfl, rfl⟩ := h
  simp [Flds.size]; omega
 | n + 1, l, r, f, ho, h => by
  unfold many at h
  split at h
  ·simp at h
  ·rename_i x r1 hst
   have h1 : fvs x + r1.length ≤ l.length := by
    unfold step at hst
    split at hst
    ·simp at hst
    ·cases l with
     | nil => simp at hst
     | cons c l' =>
      dsimp only at hst
      split at hst
      ·simp at hst
      ·exact ho c l' x r1 (by simp) hst
   have hx : 1 ≤ fvs x := by unfold fvs; omega
   split at h
   ·simp at h
   ·rename_i f1 r2 hm
    have h2 := many_small (o := o) (deep := deep) n r1 r2 f1 (fun c r v r' hr => ho c r v r' (by omega)) hm
    simp only [Sum.inr.injEq, Prod.mk.injEq] at h
    obtain ⟨rfl, rfl⟩ := h
    simp only [Flds.size]
    unfold fvs at h1
    omega
theorem rd_small : ∀ (F d : Nat) (l r : List UInt8) (f : Flds), rd F d l = .inr (f, r) → f.size + r.length ≤ l.length
 | 0, _, _, _, _, h => by simp [rd] at h
 | F + 1, d, l, r, f, h => by
  unfold rd at h
  split at h
  ·simp at h
  ·rename_i he
   have hk := takeU_len (l := l) (by omega)
   have := many_small _ _ _ _ (fun c r v r' _ h => one_small (fun f r' h => rd_small F (d + 1) r r' f h) h) h
   rw [List.length_drop] at this
   omega
theorem fieldsS_small {l : List UInt8} {f : Flds} (h : fieldsS l = .inr f) : f.size ≤ l.length := by
 unfold fieldsS at h
 split at h
 ·simp at h
 ·rename_i g r hr
  split at h
  ·simp at h
  ·simp only [Sum.inr.injEq] at h
   subst h
   have := rd_small _ _ _ _ _ hr
   omega
end Go.Proofs.YtgdapkglofchjaaGreatDoor
namespace Go.Proofs.YtgdapkglofchjaaGreatDoor
open Go.RowKit
def DecR (l : List UInt8) (r : Int ⊕ List FV) : Prop :=
 (∃ e : Nat, fieldsS l = .inl e ∧ r = .inl (e : Int)) ∨ (∃ f, fieldsS l = .inr f ∧ ((¬ FitL evP (toL f) ∧ r = .inl 5) ∨ (FitL evP (toL f) ∧ validF (toL f) ≠ 0 ∧ r = .inl (validF (toL f))) ∨ (FitL evP (toL f) ∧ validF (toL f) = 0 ∧ r = .inr (toL f))))
theorem DecR.uniq {l : List UInt8} {r r' : Int ⊕ List FV} (h : DecR l r) (h' : DecR l r') : r = r' := by
 rcases h with ⟨e, h1, rfl⟩ | ⟨f, h1, h2⟩ <;> rcases h' with ⟨e', k1, rfl⟩ | ⟨f', k1, k2⟩
 ·rw [h1] at k1; injection k1 with k1; rw [k1]
 ·rw [h1] at k1; cases k1
 ·rw [h1] at k1; cases k1
 ·rw [h1] at k1
  injection k1 with k1
  subst k1
  rcases h2 with ⟨a, rfl⟩ | ⟨a, b, rfl⟩ | ⟨a, b, rfl⟩ <;> rcases k2 with ⟨c, rfl⟩ | ⟨c, d, rfl⟩ | ⟨c, d, rfl⟩
  all_goals first | rfl | exact absurd c a | exact absurd a c | exact absurd d b | exact absurd b d
def RetDec (w : World) (l : List UInt8) (e : Ending) (w' : World) : Prop := ∃ E code, e = .returned (.tuple #[.agg E.toArray, .int .i64 code]) ∧ Below w.heap.size w w' ∧
 ((code = 0 ∧ ∃ fs, DecR l (.inr fs) ∧ RecL evC w' (Fresh w w') fs E) ∨ (code ≠ 0 ∧ DecR l (.inl code) ∧ E = evZ))
theorem run_res_two {P : Program} {fn : Func} {tmps : Array Value} {w : World} (slot s2 : Nat) (ty : TypeId) (b o : Nat) (cs : List Value) (d : TypeDesc) (v : Value) (hres : fn.results = #[.cell slot ty, .tmp s2]) (ht : tmps[slot]?.getD undef = .pointer (some ⟨b, o, none⟩)) (hv : tmps[s2]?.getD undef = v) (hc : w.rangeAt b o cs)
  (hu : P.underlying ty = some d) (hd : d.isRow = true) (hi : (P.info? ty).map (·.size) = some cs.length) : (results fn tmps).run P w = .ok (.tuple #[.agg cs.toArray, v]) w := by
 have h := run_loadVar_mid (P := P) w b o ty cs d hc hu hd hi
 unfold results
 rw [hres]
 simp [asAddr, ht, h, hv, Result.andThen]
theorem evZ_len : evZ.length = 42 := rfl
theorem evZ_one : evZ.toArray.all (·.oneCell') = true := by simp [evZ, Value.oneCell']
theorem Tgt.there {w : World} {b o n : Nat} {cs : List Value} (h : Tgt w b o cs) (hn : n ≤ cs.length) : w.there b o n := fun j hj => ⟨by rw [h.at_ j _ (List.getElem?_eq_getElem (by omega))]; rfl, h.fr (o + j)⟩
end Go.Proofs.YtgdapkglofchjaaGreatDoor
