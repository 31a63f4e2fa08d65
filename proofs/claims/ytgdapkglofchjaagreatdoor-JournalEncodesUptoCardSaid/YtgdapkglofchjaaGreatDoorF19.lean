/- Joined: JnL7 JnL8. -/
import Derived.Test.YtgdapkglofchjaaGreatDoorF18
set_option maxRecDepth 100000
set_option maxHeartbeats 1000000
set_option linter.unusedVariables false
namespace Go.Proofs.YtgdapkglofchjaaGreatDoor
open Go.RowKit
theorem MidL.far {w' cur : World} {b o : Nat} {vo : Value} (h : MidL w' cur b o vo) {z o2 : Nat} (hz : w'.heap.size ≤ z ∨ some z = vo.ownBlock) (hne : z ≠ b) (v : Value) : MidL w' (cur.setCell ⟨z, o2, none⟩ v) b o vo :=
 have hb : (cur.setCell ⟨z, o2, none⟩ v).heap[b]? = cur.heap[b]? := Below.heap_setCell cur ⟨z, o2, none⟩ v b (fun e => hne e.symm)
 ⟨fun k hk a c => (Below.heap_setCell cur ⟨z, o2, none⟩ v k (fun e => by
  rcases hz with hz | hz
  ·simp only at e; omega
  ·exact a (by rw [e]; exact hz))).trans (h.hk k hk a c), by simpa [World.setCell] using h.hs, h.os, h.tp, h.ou, fun o' ho => (World.cell?_of_block (a := ⟨b, o', none⟩) hb).trans (h.out o' ho), fun o' => (World.frozen?_of_block (a := ⟨b, o', none⟩) hb).trans (h.fr o')⟩
theorem row_at6 {W0 w : World} {e : TypeId} {n c r : Nat} {xs zs : List Value} (h : Own W0 w e 6 (.slice (some ⟨r, 0, none⟩) (n + 1) c) (n + 1) (xs ++ zs)) (hl : xs.length = n * 6) (j : Nat) {u : Value} (hu : zs[j]? = some u) : w.cell? ⟨r, n * 6 + j, none⟩ = some u := by
 obtain ⟨g, h1, _, _, h4, _⟩ := h.head (by omega)
 injection h1 with h1
 injection h1 with h1
 subst h1
 exact h4 _ u (by rw [← hl, List.getElem?_append_right (by omega), Nat.add_sub_cancel_left]; exact hu)
theorem row_fr6 {W0 w : World} {e : TypeId} {n c r : Nat} {xs : List Value} (h : Own W0 w e 6 (.slice (some ⟨r, 0, none⟩) (n + 1) c) (n + 1) xs) : ∀ j, w.frozen? ⟨r, j, none⟩ = false := by
 obtain ⟨g, h1, _, _, _, h5⟩ := h.head (by omega)
 injection h1 with h1
 injection h1 with h1
 subst h1
 exact h5
theorem set6 (xs : List Value) (n : Nat) (hn : xs.length = n * 6) (z0 z1 z2 z3 z4 z5 a b c d e f : Value) : ((((((xs ++ [z0, z1, z2, z3, z4, z5]).set (n * 6) a).set (n * 6 + 1) b).set (n * 6 + 2) c).set (n * 6 + 3) d).set (n * 6 + 4) e).set (n * 6 + 5) f = xs ++ [a, b, c, d, e, f] := by
 rw [← hn]
 simp
theorem value1_rc (N : Nat) (C : Cod) (P : FV → Prop) (ih : ReadN N 122 C P [.int .i64 0, .bool false, .int .i64 0, .string ⟨#[]⟩, .slice none 0 0, .slice none 0 0]) : ReadN N 138 C P [.int .i64 0, .bool false, .int .i64 0, .string ⟨#[]⟩, .slice none 0 0, .slice none 0 0] := by
 intro W0 w g b o l bad h hb hne hT hc hl
 go_enter Tryz.func138, Tryz.ntmps138
 repeat' (first | go_skip | go_guarded | go_step)
 refine (ih W0 w g b o l bad h hb hne hT hc hl).mono ?_
 rintro e w1 ⟨rfl, hF⟩
 dsimp only
 repeat' ((fail_if_success at_builtin); first | go_skip | go_guarded | go_step)
 go_end0
 exact ⟨rfl, hF⟩
theorem lval_r_info : Info Tryz.prog 75 (.agg #[.int .i64 0, .bool false, .int .i64 0, .string ⟨#[]⟩, .slice none 0 0, .slice none 0 0]) 6 88 := by unfold Info; kernel_rfl
theorem lval_r (C : Cod) (hC : C.Ok) (hk : C.sz = 6) (P : FV → Prop) (N : Nat) (hN : N + 1 ≤ 1000000000) (hcode : ReadN N 138 C P [.int .i64 0, .bool false, .int .i64 0, .string ⟨#[]⟩, .slice none 0 0, .slice none 0 0]) : ReadLN (N + 1) 137 (.func (.func 138) #[] #[]) (Cod.list C) (fitL P) [.slice none 0 0] := by
 intro W0 w g b o l bad h hb hne hT hc hl0
 have hl : lsz l ≤ 1000000000 := Nat.le_trans hl0 hN
 go_enter Tryz.func137, Tryz.ntmps137
 repeat' (first | go_skip | go_guarded | go_step)
 refine (inner_rS h hb hne hT hc hl).mono ?_
 rintro e w1 ⟨gi, m, r0, b0, rfl, hI, hS⟩
 obtain ⟨hCI, hTI⟩ := hS.zero
 clear hS
 have hb1 : b < w1.heap.size := Nat.lt_of_lt_of_le hI.bl hI.ch.size
 have hbg : b ≠ gi := by have := hI.lo; have := hI.bl; omega
 have hgW := hCI.lo
 have hbW := hI.bW
 have hgi := hI.lt
 have hml := lsz_length m
 have hlm := hI.lm
 have hcm := hI.cm
 dsimp only
 have c1 := hI.out.c1
 obtain ⟨Am, cm, m0⟩ := hCI.c0
 obtain ⟨i0, hi0, hz0, hzs, hzb⟩ := info_parts lval_r_info
 obtain ⟨w2, hmk, hown, hgr⟩ := run_make_own (P := Tryz.prog) w1 w1.heap.size 73 75 i0 _ 6 Tryz.underlying73 hi0 hz0 hzs .i64 .i64 m.length (by rw [hzb]; omega) (by unfold maxLen; omega) (Nat.le_refl _)
 have hb12 : Below w1.heap.size w1 w2 := (Below.refl _ _).grown hgr (Nat.le_refl _) (fun k hk => by cases hk)
 have t0 := (hTI.below hb12).c0
 have tf := (hTI.below hb12).fr
 rw [← hk] at hown
 have hL0 := LSt.start (P := P) hgi hbg hTI hCI hgW hbW hown hgr
 clear hi0 hz0 hzs hzb i0 hown
 repeat' ((fail_if_success at_builtin); first | go_skip | go_guarded | go_step)
 clear hmk t0 tf m0 hgr hb12 c1
 generalize w2.setCell ⟨b, o, none⟩ (.slice (some ⟨w1.heap.size, 0, none⟩) 0 m.length) = w3 at *
 replace hcode := Lib.hid hcode
 go_loopw [] (fun wr => ∃ A' n' c', LSt W0 w1 wr gi b o 75 C P m A' n' c') (fun wr => mesW wr gi)
 case atStart => exact ⟨_, _, _, hL0⟩
 case round =>
  clear hL0 hCI hTI
  obtain ⟨A', n', c', hch, hTb, hnm, xs, hO, hlo, hh⟩ := hrel
  have hout := list_out hI hch
  rcases hh with ⟨a, r, hm, hal, hP, hCR, hRL⟩ | ⟨hno, l', hcl', hz', hCR⟩
  ·skip
   replace hm := Lib.hid hm
   replace hal := Lib.hid hal
   have hCRk := hCR
   obtain ⟨Ar, cr, q0⟩ := hCR.c0
   have q2 := hCR.c2
   cases r with
   | nil =>
    have q0 : wr.cell? ⟨gi, 0, none⟩ = some (.slice Ar 0 cr) := q0
    repeat' (first | go_skip | go_guarded | go_step)
    refine (done_r W0 wr g gi r0 [] b0 false hout hCR).mono ?_
    rintro e wf ⟨rfl, hg, hC2⟩
    dsimp only
    repeat' ((fail_if_success at_builtin); first | go_skip | go_guarded | go_step)
    go_end0
    exact ⟨rfl, list_good hI hC hch hTb hO hlo (by rw [hm.out, List.append_nil]; exact hal.out) (by rw [hm.out, List.append_nil]; exact hP) (by rw [hm.out, List.append_nil]; exact hRL) hg hC2⟩
   | cons x r =>
    have q0 : wr.cell? ⟨gi, 0, none⟩ = some (.slice Ar (r.length + 1) cr) := q0
    have i1 : (0 : Int) < (r.length : Int) + 1 := by omega
    have hmes := mes_of hCRk
    have hln : lsz (x :: r) ≤ 1000000000 := by have h := hlm; rw [hm.out] at h; exact Nat.le_trans (lsz_app _ _) h
    have hlN : lsz (x :: r) ≤ N := by
     have h := hI.lm2 (by rw [hm.out]; simp)
     rw [hm.out] at h
     have h2 := lsz_app a (x :: r)
     omega
    have hcx0 : Cln (x :: r) := by have h := hcm; rw [hm.out] at h; exact cln_app h
    have hWr := hO.2.size
    have hgir := hCRk.lt
    go_upto_region 5 with (fail)
    generalize hx_ : World.alloc wr _ = wa
    have hba : Below wr.heap.size wr wa := by rw [← hx_]; exact (Below.refl _ _).alloc (Nat.le_refl _) _
    have hX : Tgt wa wr.heap.size 0 [.int .i64 0, .bool false, .int .i64 0, .string ⟨#[]⟩, .slice none 0 0, .slice none 0 0] := by rw [← hx_]; exact Tgt.new wr #[.int .i64 0, .bool false, .int .i64 0, .string ⟨#[]⟩, .slice none 0 0, .slice none 0 0] _
    clear hx_ q0 q2
    repeat' (first | go_skip | go_guarded | go_step)
    refine (hcode.out W0 wa gi wr.heap.size 0 (x :: r) false (hCRk.below hba) hWr (by omega) hX hcx0 hlN).mono ?_
    rintro e w' ⟨rfl, hcx, cs', hT', hcl, h12, hh⟩
    dsimp only
    rw [hk] at hcl
    obtain ⟨u1, u2, u3, u4, u5, u6, rfl⟩ : ∃ u1 u2 u3 u4 u5 u6, cs' = [u1, u2, u3, u4, u5, u6] := by
     match cs', hcl with
     | [u1, u2, u3, u4, u5, u6], _ => exact ⟨u1, u2, u3, u4, u5, u6, rfl⟩
    have hsa := hba.size
    have hsx := hcx.size
    have hbxl := hX.lt
    have hOx := (hO.below hba).chg hcx hgW hWr (fun r hr => by have := hlo r hr; exact ⟨by omega, by omega, by omega⟩)
    have hTx := (hTb.below hba).chg hcx hbg (by have := hTb.lt; omega)
    have hbo : some b ≠ Value.ownBlock (.slice A' n' c') := fun e => by have := (hlo b e.symm).1; omega
    have x0 : w'.cell? ⟨wr.heap.size, 0, none⟩ = some (u1) := by have := hT'.at_ 0 _ rfl; rwa [Nat.zero_add] at this
    have x1 : w'.cell? ⟨wr.heap.size, 1, none⟩ = some (u2) := by have := hT'.at_ 1 _ rfl; rwa [Nat.zero_add] at this
    have x2 : w'.cell? ⟨wr.heap.size, 2, none⟩ = some (u3) := by have := hT'.at_ 2 _ rfl; rwa [Nat.zero_add] at this
    have x3 : w'.cell? ⟨wr.heap.size, 3, none⟩ = some (u4) := by have := hT'.at_ 3 _ rfl; rwa [Nat.zero_add] at this
    have x4 : w'.cell? ⟨wr.heap.size, 4, none⟩ = some (u5) := by have := hT'.at_ 4 _ rfl; rwa [Nat.zero_add] at this
    have x5 : w'.cell? ⟨wr.heap.size, 5, none⟩ = some (u6) := by have := hT'.at_ 5 _ rfl; rwa [Nat.zero_add] at this
    obtain ⟨bx, hbx⟩ : ∃ bx, bx = wr.heap.size := ⟨_, rfl⟩
    rw [← hbx] at hcx x0 x1 x2 x3 x4 x5
    rw [← hbx]
    have hxlt : bx < w'.heap.size := by omega
    have hxb : bx ≠ b := by have := hTb.lt; omega
    have hxo : some bx ≠ Value.ownBlock (.slice A' n' c') := fun e => by have := (hlo bx e.symm).2; omega
    replace hbx := Lib.hid hbx
    go_upto_region 6 with (fail)
    have hM : MidL w' w'.drew b o (.slice A' n' c') := MidL.of_below (Below.refl _ _).drew hTx.lt
    replace hOx := hOx.below (Below.refl _ _).drew
    replace hTx := hTx.below (Below.refl _ _).drew
    have y0 : w'.drew.cell? ⟨bx, 0, none⟩ = some (u1) := x0
    have y1 : w'.drew.cell? ⟨bx, 1, none⟩ = some (u2) := x1
    have y2 : w'.drew.cell? ⟨bx, 2, none⟩ = some (u3) := x2
    have y3 : w'.drew.cell? ⟨bx, 3, none⟩ = some (u4) := x3
    have y4 : w'.drew.cell? ⟨bx, 4, none⟩ = some (u5) := x4
    have y5 : w'.drew.cell? ⟨bx, 5, none⟩ = some (u6) := x5
    clear x0 x1 x2 x3 x4 x5
    have hxs : bx < w'.drew.heap.size := hxlt
    refine wp_region_held_drew (S := (fun w' => w'.cell? ⟨bx, 0, none⟩ = some (u1) ∧ w'.cell? ⟨bx, 1, none⟩ = some (u2) ∧ w'.cell? ⟨bx, 2, none⟩ = some (u3) ∧ w'.cell? ⟨bx, 3, none⟩ = some (u4) ∧ w'.cell? ⟨bx, 4, none⟩ = some (u5) ∧ w'.cell? ⟨bx, 5, none⟩ = some (u6))) (by kernel_rfl) ?_ (fun hHeld => ?_)
    ·(try dsimp only)
     exact ⟨y0, y1, y2, y3, y4, y5⟩
    generalize World.drew w' = vd at *
    refine rdN [0] ?_
    refine rdC (fun K hK => ?_) ?_
    ·go_simp
     generalize hx_ : World.alloc vd _ = n1
     have hbq : Below vd.heap.size vd n1 := by rw [← hx_]; exact (Below.refl _ _).alloc (Nat.le_refl _) _
     have hB : CellsAt n1 vd.heap.size [.bool false] := by rw [← hx_]; exact CellsAt.new vd #[.bool false] _
     clear hx_
     obtain ⟨nb, hnb⟩ : ∃ nb, nb = vd.heap.size := ⟨_, rfl⟩
     rw [← hnb] at hB ⊢
     have hnl : w'.heap.size ≤ nb := by rw [hnb]; exact hM.hs
     have hnx : nb ≠ bx := by omega
     have hnb1 : nb ≠ b := by have := hTx.lt; omega
     have hno : some nb ≠ Value.ownBlock (.slice A' n' c') := fun e => by have := (hlo nb e.symm).2; omega
     have hnW : W0.heap.size ≤ nb := by omega
     clear hnb
     replace hM := hM.below hbq hTx.lt
     replace hOx := hOx.below hbq
     replace hTx := hTx.below hbq
     replace y0 := (hbq.cell (p := ⟨bx, 0, none⟩) hxs).trans y0
     replace y1 := (hbq.cell (p := ⟨bx, 1, none⟩) hxs).trans y1
     replace y2 := (hbq.cell (p := ⟨bx, 2, none⟩) hxs).trans y2
     replace y3 := (hbq.cell (p := ⟨bx, 3, none⟩) hxs).trans y3
     replace y4 := (hbq.cell (p := ⟨bx, 4, none⟩) hxs).trans y4
     replace y5 := (hbq.cell (p := ⟨bx, 5, none⟩) hxs).trans y5
     replace hxs := Nat.lt_of_lt_of_le hxs hbq.size
     clear hbq
     refine hkO hK ⟨y0, y1, y2, y3, y4, y5⟩ fun hHeld => ?_
     clear hK K
     refine rdN [1, 2] ?_
     refine rdC (fun K hK => ?_) ?_
     ·have z0 := hB.cell 0 _ rfl
      have zf := hB.fr
      go_simp
      clear z0 zf
      replace hB := hB.set 0 (.bool true)
      replace hM := hM.far (o2 := 0) (Or.inl hnl) hnb1 (.bool true)
      replace hOx := hOx.setAt hnW hno (.bool true) (o := 0)
      replace hTx := hTx.gset (o2 := 0) (g := nb) (fun e => hnb1 e.symm) (.bool true)
      replace y0 := (World.cell?_setCell_far n1 ⟨nb, 0, none⟩ ⟨bx, 0, none⟩ (.bool true) hnx).trans y0
      replace y1 := (World.cell?_setCell_far n1 ⟨nb, 0, none⟩ ⟨bx, 1, none⟩ (.bool true) hnx).trans y1
      replace y2 := (World.cell?_setCell_far n1 ⟨nb, 0, none⟩ ⟨bx, 2, none⟩ (.bool true) hnx).trans y2
      replace y3 := (World.cell?_setCell_far n1 ⟨nb, 0, none⟩ ⟨bx, 3, none⟩ (.bool true) hnx).trans y3
      replace y4 := (World.cell?_setCell_far n1 ⟨nb, 0, none⟩ ⟨bx, 4, none⟩ (.bool true) hnx).trans y4
      replace y5 := (World.cell?_setCell_far n1 ⟨nb, 0, none⟩ ⟨bx, 5, none⟩ (.bool true) hnx).trans y5
      have hxs2 : bx < (n1.setCell ⟨nb, 0, none⟩ (.bool true)).heap.size := by simpa [World.setCell] using hxs
      replace hxs := hxs2
      clear hxs2
      generalize (n1.setCell ⟨nb, 0, none⟩ (.bool true)) = n2 at *
      refine hkO hK ⟨y0, y1, y2, y3, y4, y5⟩ fun hHeld => ?_
      clear hK K
      refine rdN [2] ?_
      refine rdC (fun K hK => ?_) ?_
      ·have z0 := hB.cell 0 _ rfl
       have zf := hB.fr
       go_simp
       clear z0 zf
       replace hB := hB.set 0 (.bool false)
       replace hM := hM.far (o2 := 0) (Or.inl hnl) hnb1 (.bool false)
       replace hOx := hOx.setAt hnW hno (.bool false) (o := 0)
       replace hTx := hTx.gset (o2 := 0) (g := nb) (fun e => hnb1 e.symm) (.bool false)
       replace y0 := (World.cell?_setCell_far n2 ⟨nb, 0, none⟩ ⟨bx, 0, none⟩ (.bool false) hnx).trans y0
       replace y1 := (World.cell?_setCell_far n2 ⟨nb, 0, none⟩ ⟨bx, 1, none⟩ (.bool false) hnx).trans y1
       replace y2 := (World.cell?_setCell_far n2 ⟨nb, 0, none⟩ ⟨bx, 2, none⟩ (.bool false) hnx).trans y2
       replace y3 := (World.cell?_setCell_far n2 ⟨nb, 0, none⟩ ⟨bx, 3, none⟩ (.bool false) hnx).trans y3
       replace y4 := (World.cell?_setCell_far n2 ⟨nb, 0, none⟩ ⟨bx, 4, none⟩ (.bool false) hnx).trans y4
       replace y5 := (World.cell?_setCell_far n2 ⟨nb, 0, none⟩ ⟨bx, 5, none⟩ (.bool false) hnx).trans y5
       have hxs2 : bx < (n2.setCell ⟨nb, 0, none⟩ (.bool false)).heap.size := by simpa [World.setCell] using hxs
       replace hxs := hxs2
       clear hxs2
       generalize (n2.setCell ⟨nb, 0, none⟩ (.bool false)) = n3 at *
       refine hkO hK ⟨y0, y1, y2, y3, y4, y5⟩ fun hHeld => ?_
       clear hK K
       refine rdN [3] ?_
       refine rdC (fun K hK => ?_) ?_
       ·have z0 := hB.cell 0 _ rfl
        go_simp
        clear z0
        refine hkO hK ⟨y0, y1, y2, y3, y4, y5⟩ fun hHeld => ?_
        clear hK K
        refine wpAnyH_done (by kernel_rfl) ?_ _
        clear hHeld hB
        go_upto_region 9 with (fail)
        replace hM := hM.below (Below.refl _ _).drew hTx.lt
        replace hOx := hOx.below (Below.refl _ _).drew
        replace hTx := hTx.below (Below.refl _ _).drew
        replace y0 : n3.drew.cell? ⟨bx, 0, none⟩ = some (u1) := y0
        replace y1 : n3.drew.cell? ⟨bx, 1, none⟩ = some (u2) := y1
        replace y2 : n3.drew.cell? ⟨bx, 2, none⟩ = some (u3) := y2
        replace y3 : n3.drew.cell? ⟨bx, 3, none⟩ = some (u4) := y3
        replace y4 : n3.drew.cell? ⟨bx, 4, none⟩ = some (u5) := y4
        replace y5 : n3.drew.cell? ⟨bx, 5, none⟩ = some (u6) := y5
        replace hxs : bx < n3.drew.heap.size := hxs
        refine wp_region_held_drew (S := (fun w' => w'.cell? ⟨bx, 0, none⟩ = some (u1) ∧ w'.cell? ⟨bx, 1, none⟩ = some (u2) ∧ w'.cell? ⟨bx, 2, none⟩ = some (u3) ∧ w'.cell? ⟨bx, 3, none⟩ = some (u4) ∧ w'.cell? ⟨bx, 4, none⟩ = some (u5) ∧ w'.cell? ⟨bx, 5, none⟩ = some (u6))) (by kernel_rfl) ?_ (fun hHeld => ?_)
        ·(try dsimp only)
         exact ⟨y0, y1, y2, y3, y4, y5⟩
        generalize World.drew n3 = vd at *
        refine tkQ 0 ?_
        refine tkQ 1 ?_
        refine tkQ 2 ?_
        refine tkQ 4 ?_
        refine rdN [3, 5] ?_
        refine rdC (fun K hK => ?_) ?_
        ·have t0 := hTx.c0
         go_simp
         clear t0
         refine hkO hK ⟨y0, y1, y2, y3, y4, y5⟩ fun hHeld => ?_
         clear hK K
         refine rdN [5] ?_
         refine rdC (fun K hK => ?_) ?_
         ·go_simp
          generalize hx_ : World.alloc vd _ = p1_2
          have hbq : Below vd.heap.size vd p1_2 := by rw [← hx_]; exact (Below.refl _ _).alloc (Nat.le_refl _) _
          have hz : CellsAt p1_2 vd.heap.size [u1, u2, u3, u4, u5, u6] := by rw [← hx_]; exact CellsAt.new vd #[u1, u2, u3, u4, u5, u6] _
          clear hx_
          obtain ⟨zb, hzb⟩ : ∃ zb, zb = vd.heap.size := ⟨_, rfl⟩
          rw [← hzb] at hz ⊢
          clear hzb
          replace hM := hM.below hbq hTx.lt
          replace hOx := hOx.below hbq
          replace hTx := hTx.below hbq
          replace y0 := (hbq.cell (p := ⟨bx, 0, none⟩) hxs).trans y0
          replace y1 := (hbq.cell (p := ⟨bx, 1, none⟩) hxs).trans y1
          replace y2 := (hbq.cell (p := ⟨bx, 2, none⟩) hxs).trans y2
          replace y3 := (hbq.cell (p := ⟨bx, 3, none⟩) hxs).trans y3
          replace y4 := (hbq.cell (p := ⟨bx, 4, none⟩) hxs).trans y4
          replace y5 := (hbq.cell (p := ⟨bx, 5, none⟩) hxs).trans y5
          replace hxs := Nat.lt_of_lt_of_le hxs hbq.size
          clear hbq
          refine hkO hK ⟨y0, y1, y2, y3, y4, y5⟩ fun hHeld => ?_
          clear hK K
          refine rdN [6] ?_
          refine rdC (fun K hK => ?_) ?_
          ·have hzq : Seq p1_2 p1_2.heap.size C.sz (some ⟨zb, 0, none⟩) 1 [u1, u2, u3, u4, u5, u6] := ⟨by rw [hk]; rfl, fun _ => ⟨zb, 0, rfl, hz.lt, fun j u hu => by rw [Nat.zero_add]; exact hz.cell j u hu⟩⟩
           rw [hk] at hOx hzq
           refine step_appS hOx Tryz.underlying73 lval_r_info hzq h12 (by omega) ?_
           intro v9 p1_3 hO9 hg9
           obtain ⟨A9, c9, rfl⟩ := hO9.slice_form
           have hat9 := hg9.at_
           have hb9 := hTx.lt
           have hTy : Tgt p1_3 b o [.slice A' n' c'] := ⟨Nat.lt_of_lt_of_le hb9 hg9.by_.size, fun j u hu => (hg9.cell (p := ⟨b, o + j, none⟩) hb9 hbo).trans (hTx.at_ j u hu), fun j => (hg9.frozen (p := ⟨b, j, none⟩) hb9 hbo).trans (hTx.fr j)⟩
           have hle9 := hM.hs
           replace hM := hM.grew hg9 hb9 hbo
           replace y0 := (hg9.cell (p := ⟨bx, 0, none⟩) hxs hxo).trans y0
           replace y1 := (hg9.cell (p := ⟨bx, 1, none⟩) hxs hxo).trans y1
           replace y2 := (hg9.cell (p := ⟨bx, 2, none⟩) hxs hxo).trans y2
           replace y3 := (hg9.cell (p := ⟨bx, 3, none⟩) hxs hxo).trans y3
           replace y4 := (hg9.cell (p := ⟨bx, 4, none⟩) hxs hxo).trans y4
           replace y5 := (hg9.cell (p := ⟨bx, 5, none⟩) hxs hxo).trans y5
           clear hTx hOx hzq hz hg9 hxs
           refine hkO hK ⟨y0, y1, y2, y3, y4, y5⟩ fun hHeld => ?_
           clear hK K
           refine tkQ 7 ?_
           refine rdN [8] ?_
           refine rdC (fun K hK => ?_) ?_
           ·have t0 := hTy.c0
            have tf := hTy.fr
            go_simp
            clear t0 tf
            replace hTy := hTy.set1 (.slice A9 (n' + 1) c9)
            replace hM := hM.set (.slice A9 (n' + 1) c9)
            have hb9x : some b ≠ Value.ownBlock (.slice A9 (n' + 1) c9) := fun e => by
             rcases hat9 with e2 | e2
             ·exact hbo (e.trans e2)
             ·rw [e2] at e; injection e with e; omega
            replace hO9 := hO9.setAt hbW hb9x (.slice A9 (n' + 1) c9) (o := o)
            replace y0 := (World.cell?_setCell_far p1_3 ⟨b, o, none⟩ ⟨bx, 0, none⟩ (.slice A9 (n' + 1) c9) (fun e => hxb e.symm)).trans y0
            replace y1 := (World.cell?_setCell_far p1_3 ⟨b, o, none⟩ ⟨bx, 1, none⟩ (.slice A9 (n' + 1) c9) (fun e => hxb e.symm)).trans y1
            replace y2 := (World.cell?_setCell_far p1_3 ⟨b, o, none⟩ ⟨bx, 2, none⟩ (.slice A9 (n' + 1) c9) (fun e => hxb e.symm)).trans y2
            replace y3 := (World.cell?_setCell_far p1_3 ⟨b, o, none⟩ ⟨bx, 3, none⟩ (.slice A9 (n' + 1) c9) (fun e => hxb e.symm)).trans y3
            replace y4 := (World.cell?_setCell_far p1_3 ⟨b, o, none⟩ ⟨bx, 4, none⟩ (.slice A9 (n' + 1) c9) (fun e => hxb e.symm)).trans y4
            replace y5 := (World.cell?_setCell_far p1_3 ⟨b, o, none⟩ ⟨bx, 5, none⟩ (.slice A9 (n' + 1) c9) (fun e => hxb e.symm)).trans y5
            generalize (p1_3.setCell ⟨b, o, none⟩ (.slice A9 (n' + 1) c9)) = p1_4 at *
            refine hkO hK ⟨y0, y1, y2, y3, y4, y5⟩ fun hHeld => ?_
            clear hK K
            refine wpAnyH_done (by kernel_rfl) ?_ _
            clear hHeld
            have hOz : Own W0 p1_4 75 C.sz (.slice A9 (n' + 1) c9) (n' + 1) (xs ++ [u1, u2, u3, u4, u5, u6]) := by rw [hk]; exact hO9
            have hN := LSt.next (T := 75) (cs' := [u1, u2, u3, u4, u5, u6]) hC hgi hb1 hbg hgW hbW hm.out hal.out hP hRL hch hlo hba hbx.out (by rw [hbx.out]; exact hbxl) (by rw [hk]; exact (show Chg wa w' gi bx 0 (0 + 6) from by rw [← hk]; exact hcx)) (by rw [hk]; rfl) hcx0 hh hM.hk hM.hs hM.os hM.tp hM.ou hM.out hM.fr hOz (hat9.imp id (fun e => ⟨_, e, hle9⟩)) hTy
            repeat' (first | go_skip | go_guarded | go_step)
            go_roundw
            case rel => exact ⟨_, _, _, hN⟩
            case measure =>
             rw [hmes]
             obtain ⟨_, _, _, _, _, _, hh2⟩ := hN
             rcases hh2 with ⟨a2, r2, hm2, hal2, _, hC2, _⟩ | ⟨_, _, _, _, hC2⟩
             ·rw [mes_of hC2]
              rw [hm.out] at hm2
              have hal := hal.out
              have := congrArg List.length hm2
              simp only [List.length_append, List.length_cons] at this ⊢
              omega
             ·rw [mes_bad hC2]; simp
           exact AllReadyH.nil
          exact AllReadyH.nil
         exact AllReadyH.nil
        refine rdC (fun K hK => ?_) ?_
        ·go_simp
         generalize hx_ : World.alloc vd _ = p1_1
         have hbq : Below vd.heap.size vd p1_1 := by rw [← hx_]; exact (Below.refl _ _).alloc (Nat.le_refl _) _
         have hz : CellsAt p1_1 vd.heap.size [u1, u2, u3, u4, u5, u6] := by rw [← hx_]; exact CellsAt.new vd #[u1, u2, u3, u4, u5, u6] _
         clear hx_
         obtain ⟨zb, hzb⟩ : ∃ zb, zb = vd.heap.size := ⟨_, rfl⟩
         rw [← hzb] at hz ⊢
         clear hzb
         replace hM := hM.below hbq hTx.lt
         replace hOx := hOx.below hbq
         replace hTx := hTx.below hbq
         replace y0 := (hbq.cell (p := ⟨bx, 0, none⟩) hxs).trans y0
         replace y1 := (hbq.cell (p := ⟨bx, 1, none⟩) hxs).trans y1
         replace y2 := (hbq.cell (p := ⟨bx, 2, none⟩) hxs).trans y2
         replace y3 := (hbq.cell (p := ⟨bx, 3, none⟩) hxs).trans y3
         replace y4 := (hbq.cell (p := ⟨bx, 4, none⟩) hxs).trans y4
         replace y5 := (hbq.cell (p := ⟨bx, 5, none⟩) hxs).trans y5
         replace hxs := Nat.lt_of_lt_of_le hxs hbq.size
         clear hbq
         refine hkO hK ⟨y0, y1, y2, y3, y4, y5⟩ fun hHeld => ?_
         clear hK K
         refine rdN [3] ?_
         refine rdC (fun K hK => ?_) ?_
         ·have t0 := hTx.c0
          go_simp
          clear t0
          refine hkO hK ⟨y0, y1, y2, y3, y4, y5⟩ fun hHeld => ?_
          clear hK K
          refine rdN [6] ?_
          refine rdC (fun K hK => ?_) ?_
          ·have hzq : Seq p1_1 p1_1.heap.size C.sz (some ⟨zb, 0, none⟩) 1 [u1, u2, u3, u4, u5, u6] := ⟨by rw [hk]; rfl, fun _ => ⟨zb, 0, rfl, hz.lt, fun j u hu => by rw [Nat.zero_add]; exact hz.cell j u hu⟩⟩
           rw [hk] at hOx hzq
           refine step_appS hOx Tryz.underlying73 lval_r_info hzq h12 (by omega) ?_
           intro v9 p1_3 hO9 hg9
           obtain ⟨A9, c9, rfl⟩ := hO9.slice_form
           have hat9 := hg9.at_
           have hb9 := hTx.lt
           have hTy : Tgt p1_3 b o [.slice A' n' c'] := ⟨Nat.lt_of_lt_of_le hb9 hg9.by_.size, fun j u hu => (hg9.cell (p := ⟨b, o + j, none⟩) hb9 hbo).trans (hTx.at_ j u hu), fun j => (hg9.frozen (p := ⟨b, j, none⟩) hb9 hbo).trans (hTx.fr j)⟩
           have hle9 := hM.hs
           replace hM := hM.grew hg9 hb9 hbo
           replace y0 := (hg9.cell (p := ⟨bx, 0, none⟩) hxs hxo).trans y0
           replace y1 := (hg9.cell (p := ⟨bx, 1, none⟩) hxs hxo).trans y1
           replace y2 := (hg9.cell (p := ⟨bx, 2, none⟩) hxs hxo).trans y2
           replace y3 := (hg9.cell (p := ⟨bx, 3, none⟩) hxs hxo).trans y3
           replace y4 := (hg9.cell (p := ⟨bx, 4, none⟩) hxs hxo).trans y4
           replace y5 := (hg9.cell (p := ⟨bx, 5, none⟩) hxs hxo).trans y5
           clear hTx hOx hzq hz hg9 hxs
           refine hkO hK ⟨y0, y1, y2, y3, y4, y5⟩ fun hHeld => ?_
           clear hK K
           refine tkQ 7 ?_
           refine rdN [8] ?_
           refine rdC (fun K hK => ?_) ?_
           ·have t0 := hTy.c0
            have tf := hTy.fr
            go_simp
            clear t0 tf
            replace hTy := hTy.set1 (.slice A9 (n' + 1) c9)
            replace hM := hM.set (.slice A9 (n' + 1) c9)
            have hb9x : some b ≠ Value.ownBlock (.slice A9 (n' + 1) c9) := fun e => by
             rcases hat9 with e2 | e2
             ·exact hbo (e.trans e2)
             ·rw [e2] at e; injection e with e; omega
            replace hO9 := hO9.setAt hbW hb9x (.slice A9 (n' + 1) c9) (o := o)
            replace y0 := (World.cell?_setCell_far p1_3 ⟨b, o, none⟩ ⟨bx, 0, none⟩ (.slice A9 (n' + 1) c9) (fun e => hxb e.symm)).trans y0
            replace y1 := (World.cell?_setCell_far p1_3 ⟨b, o, none⟩ ⟨bx, 1, none⟩ (.slice A9 (n' + 1) c9) (fun e => hxb e.symm)).trans y1
            replace y2 := (World.cell?_setCell_far p1_3 ⟨b, o, none⟩ ⟨bx, 2, none⟩ (.slice A9 (n' + 1) c9) (fun e => hxb e.symm)).trans y2
            replace y3 := (World.cell?_setCell_far p1_3 ⟨b, o, none⟩ ⟨bx, 3, none⟩ (.slice A9 (n' + 1) c9) (fun e => hxb e.symm)).trans y3
            replace y4 := (World.cell?_setCell_far p1_3 ⟨b, o, none⟩ ⟨bx, 4, none⟩ (.slice A9 (n' + 1) c9) (fun e => hxb e.symm)).trans y4
            replace y5 := (World.cell?_setCell_far p1_3 ⟨b, o, none⟩ ⟨bx, 5, none⟩ (.slice A9 (n' + 1) c9) (fun e => hxb e.symm)).trans y5
            generalize (p1_3.setCell ⟨b, o, none⟩ (.slice A9 (n' + 1) c9)) = p1_4 at *
            refine hkO hK ⟨y0, y1, y2, y3, y4, y5⟩ fun hHeld => ?_
            clear hK K
            refine wpAnyH_done (by kernel_rfl) ?_ _
            clear hHeld
            have hOz : Own W0 p1_4 75 C.sz (.slice A9 (n' + 1) c9) (n' + 1) (xs ++ [u1, u2, u3, u4, u5, u6]) := by rw [hk]; exact hO9
            have hN := LSt.next (T := 75) (cs' := [u1, u2, u3, u4, u5, u6]) hC hgi hb1 hbg hgW hbW hm.out hal.out hP hRL hch hlo hba hbx.out (by rw [hbx.out]; exact hbxl) (by rw [hk]; exact (show Chg wa w' gi bx 0 (0 + 6) from by rw [← hk]; exact hcx)) (by rw [hk]; rfl) hcx0 hh hM.hk hM.hs hM.os hM.tp hM.ou hM.out hM.fr hOz (hat9.imp id (fun e => ⟨_, e, hle9⟩)) hTy
            repeat' (first | go_skip | go_guarded | go_step)
            go_roundw
            case rel => exact ⟨_, _, _, hN⟩
            case measure =>
             rw [hmes]
             obtain ⟨_, _, _, _, _, _, hh2⟩ := hN
             rcases hh2 with ⟨a2, r2, hm2, hal2, _, hC2, _⟩ | ⟨_, _, _, _, hC2⟩
             ·rw [mes_of hC2]
              rw [hm.out] at hm2
              have hal := hal.out
              have := congrArg List.length hm2
              simp only [List.length_append, List.length_cons] at this ⊢
              omega
             ·rw [mes_bad hC2]; simp
           exact AllReadyH.nil
          exact AllReadyH.nil
         exact AllReadyH.nil
        exact AllReadyH.nil
       exact AllReadyH.nil
      exact AllReadyH.nil
     refine rdC (fun K hK => ?_) ?_
     ·have z0 := hB.cell 0 _ rfl
      have zf := hB.fr
      go_simp
      clear z0 zf
      replace hB := hB.set 0 (.bool false)
      replace hM := hM.far (o2 := 0) (Or.inl hnl) hnb1 (.bool false)
      replace hOx := hOx.setAt hnW hno (.bool false) (o := 0)
      replace hTx := hTx.gset (o2 := 0) (g := nb) (fun e => hnb1 e.symm) (.bool false)
      replace y0 := (World.cell?_setCell_far n1 ⟨nb, 0, none⟩ ⟨bx, 0, none⟩ (.bool false) hnx).trans y0
      replace y1 := (World.cell?_setCell_far n1 ⟨nb, 0, none⟩ ⟨bx, 1, none⟩ (.bool false) hnx).trans y1
      replace y2 := (World.cell?_setCell_far n1 ⟨nb, 0, none⟩ ⟨bx, 2, none⟩ (.bool false) hnx).trans y2
      replace y3 := (World.cell?_setCell_far n1 ⟨nb, 0, none⟩ ⟨bx, 3, none⟩ (.bool false) hnx).trans y3
      replace y4 := (World.cell?_setCell_far n1 ⟨nb, 0, none⟩ ⟨bx, 4, none⟩ (.bool false) hnx).trans y4
      replace y5 := (World.cell?_setCell_far n1 ⟨nb, 0, none⟩ ⟨bx, 5, none⟩ (.bool false) hnx).trans y5
      have hxs2 : bx < (n1.setCell ⟨nb, 0, none⟩ (.bool false)).heap.size := by simpa [World.setCell] using hxs
      replace hxs := hxs2
      clear hxs2
      generalize (n1.setCell ⟨nb, 0, none⟩ (.bool false)) = n2 at *
      refine hkO hK ⟨y0, y1, y2, y3, y4, y5⟩ fun hHeld => ?_
      clear hK K
      refine rdN [1] ?_
      refine rdC (fun K hK => ?_) ?_
      ·have z0 := hB.cell 0 _ rfl
       have zf := hB.fr
       go_simp
       clear z0 zf
       replace hB := hB.set 0 (.bool true)
       replace hM := hM.far (o2 := 0) (Or.inl hnl) hnb1 (.bool true)
       replace hOx := hOx.setAt hnW hno (.bool true) (o := 0)
       replace hTx := hTx.gset (o2 := 0) (g := nb) (fun e => hnb1 e.symm) (.bool true)
       replace y0 := (World.cell?_setCell_far n2 ⟨nb, 0, none⟩ ⟨bx, 0, none⟩ (.bool true) hnx).trans y0
       replace y1 := (World.cell?_setCell_far n2 ⟨nb, 0, none⟩ ⟨bx, 1, none⟩ (.bool true) hnx).trans y1
       replace y2 := (World.cell?_setCell_far n2 ⟨nb, 0, none⟩ ⟨bx, 2, none⟩ (.bool true) hnx).trans y2
       replace y3 := (World.cell?_setCell_far n2 ⟨nb, 0, none⟩ ⟨bx, 3, none⟩ (.bool true) hnx).trans y3
       replace y4 := (World.cell?_setCell_far n2 ⟨nb, 0, none⟩ ⟨bx, 4, none⟩ (.bool true) hnx).trans y4
       replace y5 := (World.cell?_setCell_far n2 ⟨nb, 0, none⟩ ⟨bx, 5, none⟩ (.bool true) hnx).trans y5
       have hxs2 : bx < (n2.setCell ⟨nb, 0, none⟩ (.bool true)).heap.size := by simpa [World.setCell] using hxs
       replace hxs := hxs2
       clear hxs2
       generalize (n2.setCell ⟨nb, 0, none⟩ (.bool true)) = n3 at *
       refine hkO hK ⟨y0, y1, y2, y3, y4, y5⟩ fun hHeld => ?_
       clear hK K
       refine rdN [3] ?_
       refine rdC (fun K hK => ?_) ?_
       ·have z0 := hB.cell 0 _ rfl
        go_simp
        clear z0
        refine hkO hK ⟨y0, y1, y2, y3, y4, y5⟩ fun hHeld => ?_
        clear hK K
        refine wpAnyH_done (by kernel_rfl) ?_ _
        clear hHeld hB
        go_upto_region 7 with (fail)
        have t0 := hTx.c0
        have tf := hTx.fr
        rw [hk] at hOx
        have hxl : xs.length = n' * 6 := hOx.1.1
        repeat' ((fail_if_success at_builtin); first | go_skip | go_guarded | go_step)
        have hbq : Below n3.heap.size n3 (n3.alloc (.cells #[.int .i64 0, .bool false, .int .i64 0, .string ⟨#[]⟩, .slice none 0 0, .slice none 0 0] 75)) := (Below.refl _ _).alloc (Nat.le_refl _) _
        refine wp_app1 hOx Tryz.underlying73 lval_r_info (by omega) ?_
        intro v9 z1 hO9 hg9
        obtain ⟨A9, c9, rfl⟩ := hO9.slice_form
        obtain ⟨r9, rfl, hr9a, hr9b⟩ : ∃ r, A9 = some ⟨r, 0, none⟩ ∧ W0.heap.size ≤ r ∧ r < z1.heap.size := by
         obtain ⟨r, h1, h2, h3, _⟩ := hO9.head (by omega)
         exact ⟨r, h1, h2, h3⟩
        have hTq := hTx.below hbq
        have hMq := hM.below hbq hTx.lt
        have hat9 : Value.ownBlock (.slice (some ⟨r9, 0, none⟩) (n' + 1) c9) = Value.ownBlock (.slice A' n' c') ∨ Value.ownBlock (.slice (some ⟨r9, 0, none⟩) (n' + 1) c9) = some (n3.alloc (.cells #[.int .i64 0, .bool false, .int .i64 0, .string ⟨#[]⟩, .slice none 0 0, .slice none 0 0] 75)).heap.size := hg9.at_
        have hle9 := hMq.hs
        have hTy : Tgt z1 b o [.slice A' n' c'] := ⟨Nat.lt_of_lt_of_le hTq.lt hg9.by_.size, fun j u hu => (hg9.cell (p := ⟨b, o + j, none⟩) hTq.lt hbo).trans (hTq.at_ j u hu), fun j => (hg9.frozen (p := ⟨b, j, none⟩) hTq.lt hbo).trans (hTq.fr j)⟩
        replace hM := hMq.grew hg9 hTq.lt hbo
        have hxq : bx < (n3.alloc (.cells #[.int .i64 0, .bool false, .int .i64 0, .string ⟨#[]⟩, .slice none 0 0, .slice none 0 0] 75)).heap.size := Nat.lt_of_lt_of_le hxs hbq.size
        replace y0 := ((hg9.cell (p := ⟨bx, 0, none⟩) hxq hxo).trans (hbq.cell (p := ⟨bx, 0, none⟩) hxs)).trans y0
        replace y1 := ((hg9.cell (p := ⟨bx, 1, none⟩) hxq hxo).trans (hbq.cell (p := ⟨bx, 1, none⟩) hxs)).trans y1
        replace y2 := ((hg9.cell (p := ⟨bx, 2, none⟩) hxq hxo).trans (hbq.cell (p := ⟨bx, 2, none⟩) hxs)).trans y2
        replace y3 := ((hg9.cell (p := ⟨bx, 3, none⟩) hxq hxo).trans (hbq.cell (p := ⟨bx, 3, none⟩) hxs)).trans y3
        replace y4 := ((hg9.cell (p := ⟨bx, 4, none⟩) hxq hxo).trans (hbq.cell (p := ⟨bx, 4, none⟩) hxs)).trans y4
        replace y5 := ((hg9.cell (p := ⟨bx, 5, none⟩) hxq hxo).trans (hbq.cell (p := ⟨bx, 5, none⟩) hxs)).trans y5
        have hr9z : w'.heap.size ≤ r9 ∨ some r9 = Value.ownBlock (.slice A' n' c') := by
         rcases hat9 with e | e
         ·exact Or.inr e
         ·injection e with e; exact Or.inl (by simp only at e; omega)
        have hr9b1 : r9 ≠ b := fun e => by
         rcases hr9z with h | h
         ·have := hTb.lt; omega
         ·rw [e] at h; exact hbo h
        have hr9x : r9 ≠ bx := fun e => by
         rcases hr9z with h | h
         ·omega
         ·rw [e] at h; exact hxo h
        have hat10 : Value.ownBlock (.slice (some ⟨r9, 0, none⟩) (n' + 1) c9) = Value.ownBlock (.slice A' n' c') ∨ ∃ z, Value.ownBlock (.slice (some ⟨r9, 0, none⟩) (n' + 1) c9) = some z ∧ w'.heap.size ≤ z := hat9.imp id (fun e => ⟨_, e, hle9⟩)
        clear t0 tf hTq hMq hat9 hxq hg9 hOx hTx hxs hle9 hbq
        have t0 := hTy.c0
        have tf := hTy.fr
        go_upto_region 8 with (fail)
        clear t0 tf
        replace hTy := hTy.set1 (.slice (some ⟨r9, 0, none⟩) (n' + 1) c9)
        replace hM := hM.set (.slice (some ⟨r9, 0, none⟩) (n' + 1) c9)
        replace hO9 := hO9.setAt hbW (fun e => hr9b1 (by injection e with e; exact e.symm)) (.slice (some ⟨r9, 0, none⟩) (n' + 1) c9) (o := o)
        replace y0 := (World.cell?_setCell_far z1 ⟨b, o, none⟩ ⟨bx, 0, none⟩ (.slice (some ⟨r9, 0, none⟩) (n' + 1) c9) (fun e => hxb e.symm)).trans y0
        replace y1 := (World.cell?_setCell_far z1 ⟨b, o, none⟩ ⟨bx, 1, none⟩ (.slice (some ⟨r9, 0, none⟩) (n' + 1) c9) (fun e => hxb e.symm)).trans y1
        replace y2 := (World.cell?_setCell_far z1 ⟨b, o, none⟩ ⟨bx, 2, none⟩ (.slice (some ⟨r9, 0, none⟩) (n' + 1) c9) (fun e => hxb e.symm)).trans y2
        replace y3 := (World.cell?_setCell_far z1 ⟨b, o, none⟩ ⟨bx, 3, none⟩ (.slice (some ⟨r9, 0, none⟩) (n' + 1) c9) (fun e => hxb e.symm)).trans y3
        replace y4 := (World.cell?_setCell_far z1 ⟨b, o, none⟩ ⟨bx, 4, none⟩ (.slice (some ⟨r9, 0, none⟩) (n' + 1) c9) (fun e => hxb e.symm)).trans y4
        replace y5 := (World.cell?_setCell_far z1 ⟨b, o, none⟩ ⟨bx, 5, none⟩ (.slice (some ⟨r9, 0, none⟩) (n' + 1) c9) (fun e => hxb e.symm)).trans y5
        generalize z1.setCell ⟨b, o, none⟩ (.slice (some ⟨r9, 0, none⟩) (n' + 1) c9) = z2 at *
        have gf := row_fr6 hO9
        have hth : z2.there r9 (n' * 6) #[u1, u2, u3, u4, u5, u6].size := fun j hj => ⟨by rw [row_at6 hO9 hxl j (List.getElem?_eq_getElem (show j < [.int .i64 0, .bool false, .int .i64 0, .string ⟨#[]⟩, .slice none 0 0, .slice none 0 0].length from hj))]; rfl, gf _⟩
        have hinf : (Tryz.prog.info? 75).map (·.size) = some #[u1, u2, u3, u4, u5, u6].size := by kernel_rfl
        have h1c : #[u1, u2, u3, u4, u5, u6].all (·.oneCell') = true := all_oneCell_toArray h12
        have i5 : (n' : Int) < (n' : Int) + 1 := by omega
        have hOw := ((((((hO9.store hr9a (n' * 6) (u1)).store hr9a (n' * 6 + 1) (u2)).store hr9a (n' * 6 + 2) (u3)).store hr9a (n' * 6 + 3) (u4)).store hr9a (n' * 6 + 4) (u5)).store hr9a (n' * 6 + 5) (u6))
        rw [set6 xs n' hxl] at hOw
        have hMw := ((((((hM.far (o2 := n' * 6) hr9z hr9b1 (u1)).far (o2 := n' * 6 + 1) hr9z hr9b1 (u2)).far (o2 := n' * 6 + 2) hr9z hr9b1 (u3)).far (o2 := n' * 6 + 3) hr9z hr9b1 (u4)).far (o2 := n' * 6 + 4) hr9z hr9b1 (u5)).far (o2 := n' * 6 + 5) hr9z hr9b1 (u6))
        have hTw := ((((((hTy.gset (o2 := n' * 6) (g := r9) (fun e => hr9b1 e.symm) (u1)).gset (o2 := n' * 6 + 1) (g := r9) (fun e => hr9b1 e.symm) (u2)).gset (o2 := n' * 6 + 2) (g := r9) (fun e => hr9b1 e.symm) (u3)).gset (o2 := n' * 6 + 3) (g := r9) (fun e => hr9b1 e.symm) (u4)).gset (o2 := n' * 6 + 4) (g := r9) (fun e => hr9b1 e.symm) (u5)).gset (o2 := n' * 6 + 5) (g := r9) (fun e => hr9b1 e.symm) (u6))
        repeat' ((fail_if_success at_builtin); (first | (refine wpList_store_mid rfl 75 _ _ rfl r9 (n' * 6) #[u1, u2, u3, u4, u5, u6] rfl rfl hth hinf h1c ?_) | go_skip | go_guarded | go_step))
        try simp only [Act.put]
        clear hO9 hM hTy gf hth hinf h1c y0 y1 y2 y3 y4 y5
        rw [show z2.setCells r9 (n' * 6) #[u1, u2, u3, u4, u5, u6].toList = ((((((z2.setCell ⟨r9, n' * 6, none⟩ (u1)).setCell ⟨r9, n' * 6 + 1, none⟩ (u2)).setCell ⟨r9, n' * 6 + 2, none⟩ (u3)).setCell ⟨r9, n' * 6 + 3, none⟩ (u4)).setCell ⟨r9, n' * 6 + 4, none⟩ (u5)).setCell ⟨r9, n' * 6 + 5, none⟩ (u6)) from rfl]
        generalize ((((((z2.setCell ⟨r9, n' * 6, none⟩ (u1)).setCell ⟨r9, n' * 6 + 1, none⟩ (u2)).setCell ⟨r9, n' * 6 + 2, none⟩ (u3)).setCell ⟨r9, n' * 6 + 3, none⟩ (u4)).setCell ⟨r9, n' * 6 + 4, none⟩ (u5)).setCell ⟨r9, n' * 6 + 5, none⟩ (u6)) = z3 at *
        have hOz : Own W0 z3 75 C.sz (.slice (some ⟨r9, 0, none⟩) (n' + 1) c9) (n' + 1) (xs ++ [u1, u2, u3, u4, u5, u6]) := by rw [hk]; exact hOw
        have hN := LSt.next (T := 75) (cs' := [u1, u2, u3, u4, u5, u6]) hC hgi hb1 hbg hgW hbW hm.out hal.out hP hRL hch hlo hba hbx.out (by rw [hbx.out]; exact hbxl) (by rw [hk]; exact (show Chg wa w' gi bx 0 (0 + 6) from by rw [← hk]; exact hcx)) (by rw [hk]; rfl) hcx0 hh hMw.hk hMw.hs hMw.os hMw.tp hMw.ou hMw.out hMw.fr hOz hat10 hTw
        go_roundw
        case rel => exact ⟨_, _, _, hN⟩
        case measure =>
         rw [hmes]
         obtain ⟨_, _, _, _, _, _, hh2⟩ := hN
         rcases hh2 with ⟨a2, r2, hm2, hal2, _, hC2, _⟩ | ⟨_, _, _, _, hC2⟩
         ·rw [mes_of hC2]
          rw [hm.out] at hm2
          have hal := hal.out
          have := congrArg List.length hm2
          simp only [List.length_append, List.length_cons] at this ⊢
          omega
         ·rw [mes_bad hC2]; simp
       exact AllReadyH.nil
      exact AllReadyH.nil
     exact AllReadyH.nil
    exact AllReadyH.nil
  ·skip
   obtain ⟨Ar, cr, q0⟩ := hCR.c0
   have q2 := hCR.c2
   cases l' with
   | nil =>
    have q0 : wr.cell? ⟨gi, 0, none⟩ = some (.slice Ar 0 cr) := q0
    repeat' (first | go_skip | go_guarded | go_step)
    refine (done_r W0 wr g gi r0 [] b0 true hout hCR).mono ?_
    rintro e wf ⟨rfl, hg, hC2⟩
    dsimp only
    repeat' ((fail_if_success at_builtin); first | go_skip | go_guarded | go_step)
    go_end0
    exact ⟨rfl, list_bad (li := []) hI hch hTb hno rfl hg hC2⟩
   | cons y l2 =>
    have q0 : wr.cell? ⟨gi, 0, none⟩ = some (.slice Ar (l2.length + 1) cr) := q0
    have i1 : (0 : Int) < (l2.length : Int) + 1 := by omega
    repeat' (first | go_skip | go_guarded | go_step)
    refine (done_r W0 wr g gi r0 (y :: l2) b0 true hout hCR).mono ?_
    rintro e wf ⟨rfl, hg, hC2⟩
    dsimp only
    repeat' ((fail_if_success at_builtin); first | go_skip | go_guarded | go_step)
    go_end0
    exact ⟨rfl, list_bad (li := y :: l2) hI hch hTb hno rfl hg hC2⟩
abbrev Cod.valueR : Cod := .recd [.int, .flag, .int, .str, .list .value, .strs]
theorem rl_imp {r r' : Rd FV} {sz : Nat} {w : World} {S : Nat → Prop} (hr : ∀ x cs, r w S x cs → r' w S x cs) : ∀ {l : List FV} {cs : List Value}, RList r sz w S l cs → RList r' sz w S l cs
 | [], _, h => h
 | _ :: _, _, ⟨c1, c2, h1, h2, h3, h4⟩ => ⟨c1, c2, h1, h2, hr _ _ h3, rl_imp hr h4⟩
theorem val_mono : ∀ (n : Nat) {w : World} {S : Nat → Prop} {f : FV} {cs : List Value}, (Cod.val n).rp w S f cs → (Cod.val (n + 1)).rp w S f cs
 | 0, _, _, _, _, h => h.elim
 | n + 1, w, S, f, cs, ⟨fs, h0, h⟩ => by
  obtain ⟨f1, r1, k1, d1, e1, e2, q1, f2, r2, k2, d2, e3, e4, q2, f3, r3, k3, d3, e5, e6, q3, f4, r4, k4, d4, e7, e8, q4, f5, r5, k5, d5, e9, e10, ⟨l, A, c, e11, e12, hl⟩, h⟩ := h
  refine ⟨fs, h0, f1, r1, k1, d1, e1, e2, q1, f2, r2, k2, d2, e3, e4, q2, f3, r3, k3, d3, e5, e6, q3, f4, r4, k4, d4, e7, e8, q4, f5, r5, k5, d5, e9, e10, ⟨l, A, c, e11, e12, ?_⟩, h⟩
  obtain ⟨g1, g2, g3, ds, g4, g5⟩ := hl
  rw [Cod.val_sz] at g4 g5
  refine ⟨g1, g2, g3, ds, ?_, ?_⟩
  ·rw [Cod.val_sz]; exact g4
  ·rw [Cod.val_sz]; exact rl_imp (fun x c hc => val_mono n hc) g5
theorem val_le {n m : Nat} (h : n ≤ m) {w : World} {S : Nat → Prop} {f : FV} {cs : List Value} (hr : (Cod.val n).rp w S f cs) : (Cod.val m).rp w S f cs := by
 induction h with
 | refl => exact hr
 | step _ ih => exact val_mono _ ih
theorem vals_rl {w : World} {S : Nat → Prop} : ∀ {l : List FV} {cs : List Value}, RList Cod.value.rp 6 w S l cs → ∃ n, RList (Cod.val n).rp 6 w S l cs
 | [], _, h => ⟨0, h⟩
 | x :: l, _, ⟨c1, c2, h1, h2, ⟨n, h3⟩, h4⟩ => by
  obtain ⟨m, h5⟩ := vals_rl h4
  exact ⟨n + m, c1, c2, h1, h2, val_le (by omega) h3, rl_imp (fun x c hc => val_le (by omega) hc) h5⟩
theorem value_of {w : World} {S : Nat → Prop} {f : FV} {cs : List Value} (h : Cod.valueR.rp w S f cs) : Cod.value.rp w S f cs := by
 obtain ⟨fs, h0, f1, r1, k1, d1, e1, e2, q1, f2, r2, k2, d2, e3, e4, q2, f3, r3, k3, d3, e5, e6, q3, f4, r4, k4, d4, e7, e8, q4, f5, r5, k5, d5, e9, e10, ⟨l, A, c, e11, e12, hl⟩, h⟩ := h
 obtain ⟨g1, g2, g3, ds, g4, g5⟩ := hl
 obtain ⟨n, g6⟩ := vals_rl g5
 refine ⟨n + 1, fs, h0, f1, r1, k1, d1, e1, e2, q1, f2, r2, k2, d2, e3, e4, q2, f3, r3, k3, d3, e5, e6, q3, f4, r4, k4, d4, e7, e8, q4, f5, r5, k5, d5, e9, e10, ⟨l, A, c, e11, e12, ?_⟩, h⟩
 exact ⟨g1, g2, g3, ds, by rw [Cod.val_sz]; exact g4, by rw [Cod.val_sz]; exact g6⟩
theorem fitV_head {l : List FV} (hc : Cln l) : (∃ f r, l = f :: r ∧ FitV f) ↔ (∃ f r, l = f :: r ∧ (fitR [fitI, fitB, fitI, fitS, fitL FitV, fitL fitS]) f) := by
 constructor
 ·rintro ⟨f, r, rfl, h⟩
  have hk := fitV_kind h
  rcases hc.head.1 with ⟨x, rfl⟩ | ⟨x, rfl⟩ | ⟨x, rfl, _⟩
  ·exact absurd hk (by simp)
  ·exact absurd hk (by simp)
  ·exact ⟨_, r, rfl, fitR_mk.2 (fitV_mk.1 h)⟩
 ·rintro ⟨f, r, rfl, h⟩
  have hk := h.1
  rcases hc.head.1 with ⟨x, rfl⟩ | ⟨x, rfl⟩ | ⟨x, rfl, _⟩
  ·exact absurd hk (by simp)
  ·exact absurd hk (by simp)
  ·exact ⟨_, r, rfl, fitV_mk.2 (fitR_mk.1 h)⟩
theorem value_rn (N : Nat) (hN : N + 1 ≤ 1000000000) (ih : ReadN N 122 Cod.value FitV [.int .i64 0, .bool false, .int .i64 0, .string ⟨#[]⟩, .slice none 0 0, .slice none 0 0]) : ReadN (N + 1) 122 Cod.valueR (fitR [fitI, fitB, fitI, fitS, (fitL FitV), (fitL fitS)]) [.int .i64 0, .bool false, .int .i64 0, .string ⟨#[]⟩, .slice none 0 0, .slice none 0 0] := by
 intro W0 w g b o l bad h hb hne hT hc hl0
 have hl : lsz l ≤ 1000000000 := Nat.le_trans hl0 hN
 replace hT : Tgt w b o ([.int .i64 0] ++ ([.bool false] ++ ([.int .i64 0] ++ ([.string ⟨#[]⟩] ++ ([.slice none 0 0] ++ ([.slice none 0 0] ++ ([]))))))) := hT
 go_enter Tryz.func122, Tryz.ntmps122
 repeat' (first | go_skip | go_guarded | go_step)
 refine (inner_rS h hb hne hT hc hl).mono ?_
 rintro e w1 ⟨gi, m, r0, b0, rfl, hI, hS⟩
 have hb1 : b < w1.heap.size := Nat.lt_of_lt_of_le hI.bl hI.ch.size
 have hbg : b ≠ gi := by have := hI.lo; have := hI.bl; omega
 have hO0 := okn
 have hmN : lsz m ≤ N + 1 := by
  by_cases hm : m = []
  ·subst hm; rw [lsz_nil]; omega
  ·have := hI.lm2 hm; omega
 dsimp only
 repeat' (first | go_skip | go_guarded | go_step)
 refine (RSt.call (k := o) int_rc hO0 Cod.int_ok hI.lt hI.bW hb1 hbg rfl hI.cm hI.lm hS rfl).mono ?_
 have hO1 := ok_snoc hO0 Cod.int_ok
 rintro e w2 ⟨rfl, hS⟩
 dsimp only
 repeat' (first | go_skip | go_guarded | go_step)
 refine (RSt.call (k := o + 1) flag_rc hO1 Cod.flag_ok hI.lt hI.bW hb1 hbg rfl hI.cm hI.lm hS rfl).mono ?_
 have hO2 := ok_snoc hO1 Cod.flag_ok
 rintro e w3 ⟨rfl, hS⟩
 dsimp only
 repeat' (first | go_skip | go_guarded | go_step)
 refine (RSt.call (k := o + 2) int_rc hO2 Cod.int_ok hI.lt hI.bW hb1 hbg rfl hI.cm hI.lm hS rfl).mono ?_
 have hO3 := ok_snoc hO2 Cod.int_ok
 rintro e w4 ⟨rfl, hS⟩
 dsimp only
 repeat' (first | go_skip | go_guarded | go_step)
 refine (RSt.call (k := o + 3) str_rc hO3 Cod.str_ok hI.lt hI.bW hb1 hbg rfl hI.cm hI.lm hS rfl).mono ?_
 have hO4 := ok_snoc hO3 Cod.str_ok
 rintro e w5 ⟨rfl, hS⟩
 dsimp only
 repeat' (first | go_skip | go_guarded | go_step)
 refine (RSt.callL (k := o + 4) (lval_r Cod.value Cod.value_ok rfl FitV N hN (value1_rc N _ _ ih)) hO4 (Cod.list_ok Cod.value_ok) hI.lt hI.bW hb1 hbg rfl hI.cm hmN hS rfl).mono ?_
 have hO5 := ok_snoc hO4 (Cod.list_ok Cod.value_ok)
 rintro e w6 ⟨rfl, hS⟩
 dsimp only
 repeat' (first | go_skip | go_guarded | go_step)
 refine (RSt.call (k := o + 5) strs_rc hO5 Cod.strs_ok hI.lt hI.bW hb1 hbg rfl hI.cm hI.lm hS rfl).mono ?_
 have hO6 := ok_snoc hO5 Cod.strs_ok
 rintro e w7 ⟨rfl, hS⟩
 dsimp only
 repeat' ((fail_if_success at_builtin); first | go_skip | go_guarded | go_step)
 obtain ⟨li, bi, hout, hin, hfin⟩ := hI.fin hO6 rfl hS
 refine (done_r W0 _ g gi r0 li b0 bi hout hin).mono ?_
 rintro e wf ⟨rfl, hg, hC⟩
 dsimp only
 repeat' ((fail_if_success at_builtin); first | go_skip | go_guarded | go_step)
 go_end0
 exact ⟨rfl, hfin _ hg hC⟩
theorem value_all_rc : ∀ N, N ≤ 1000000000 → ReadN N 122 Cod.value FitV [.int .i64 0, .bool false, .int .i64 0, .string ⟨#[]⟩, .slice none 0 0, .slice none 0 0]
 | 0, _ => fun W0 w g b o l bad h hb hne hT hc hl => by have := lsz_length l; omega
 | N + 1, hN => fun W0 w g b o l bad h hb hne hT hc hl => by
  refine (value_rn N hN (value_all_rc N (by omega)) W0 w g b o l bad h hb hne hT hc hl).mono ?_
  rintro e w' ⟨rfl, hch, cs', hT', hcl, h1, hh⟩
  refine ⟨rfl, hch, cs', hT', hcl, h1, ?_⟩
  rcases hh with ⟨f, r, rfl, hP, hC, hrp⟩ | ⟨hn, hl'⟩
  ·obtain ⟨f2, r2, he, hf2⟩ := (fitV_head hc).2 ⟨f, r, rfl, hP⟩
   injection he with he1 he2
   subst he1
   exact Or.inl ⟨f, r, rfl, hf2, hC, value_of hrp⟩
  ·exact Or.inr ⟨fun h => hn ((fitV_head hc).1 h), hl'⟩
theorem value_rc : ReadC 122 Cod.value FitV [.int .i64 0, .bool false, .int .i64 0, .string ⟨#[]⟩, .slice none 0 0, .slice none 0 0] := value_all_rc _ (Nat.le_refl _)
end Go.Proofs.YtgdapkglofchjaaGreatDoor
