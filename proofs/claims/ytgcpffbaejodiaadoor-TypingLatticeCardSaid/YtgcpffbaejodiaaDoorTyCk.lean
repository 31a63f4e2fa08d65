/- Typing: the document's check of a value. -/
import Derived.Test.YtgcpffbaejodiaaDoorTyAs
import Derived.Test.YtgcpffbaejodiaaDoorTyPure
import Derived.Test.YtgcpffbaejodiaaDoorTyQ
namespace Go.Proofs.YtgcpffbaejodiaaDoor
open Go.RowKit
set_option maxRecDepth 100000 in
set_option maxHeartbeats 6000000 in
theorem rcheckV_any (f : Nat) : ∀ (lv : Int) (g : Nat) (v : Vl) (k : Int) (b : Bool) (i : Int) (s : ByteArray) (A : Option Addr) (n c : Nat) (A2 : Option Addr) (n2 c2 : Nat) (w : World), lv + (f : Int) = 17 → f ≤ 17 → RVl g w (fun b => b < w.heap.size) v [.int .i64 k, .bool b, .int .i64 i, .string s, .slice A n c, .slice A2 n2 c2] →
  Calls Tryd.prog 47 #[.agg #[.int .i64 k, .bool b, .int .i64 i, .string s, .slice A n c, .slice A2 n2 c2], .int .i64 lv] w fun e w' => e = .returned (.int .i64 (chkV f v)) ∧ Below w.heap.size w w' := by
 induction f with
 | zero =>
  intro lv g v k b i s A n c A2 n2 c2 w hlf hf17 h
  obtain rfl : lv = 17 := by omega
  have hv : chkV 0 v = 13 := rfl
  rw [hv]
  clear h hv hlf
  go_enter Tryd.func47, Tryd.ntmps47
  go_upto_region 1 with (fail)
  generalize hx_ : World.alloc w _ = wo1
  have hO1 : OwnB w wo1 [(w.heap.size, [.int .i64 k, .bool b, .int .i64 i, .string s, .slice A n c, .slice A2 n2 c2])] := by rw [← hx_]; exact (OwnB.refl w).new #[.int .i64 k, .bool b, .int .i64 i, .string s, .slice A n c, .slice A2 n2 c2] _ (g := w.heap.size)
  clear hx_
  have c0_0 := hO1.c 0 0
  have c0_1 := hO1.c 0 1
  have c0_2 := hO1.c 0 2
  have c0_3 := hO1.c 0 3
  have c0_4 := hO1.c 0 4
  have c0_5 := hO1.c 0 5
  have cf0 := hO1.fr 0
  have hb := hO1.below
  repeat' ((fail_if_success at_builtin); (first | go_skip | go_guarded | go_step))
  go_ret
  exact ⟨rfl, hb⟩
 | succ f ih =>
  intro lv g v k b i s A n c A2 n2 c2 w hlf hf17 h
  obtain ⟨gj, l, ks, rfl, rfl, hn, hn2, hs, hs2, hl2⟩ := vl_open h
  clear h
  have hlf : lv + (f : Int) = 16 := by omega
  have g16 : ¬ (16 : Int) < lv := by omega
  have iw : IntKind.i64.wrap (lv + 1) = lv + 1 := IntWalk.i64_in _ (by omega)
  obtain ⟨fin, hfin⟩ : ∃ fin, fin = chkV (f + 1) (.mk k b i s l ks) := ⟨_, rfl⟩
  rw [← hfin]
  obtain ⟨ow, how⟩ : ∃ ow, ow = ownZ (f + 1) k b i s n n2 (ascK none ks) := ⟨_, rfl⟩
  have hu : fin = if ow ≠ 0 then ow else firstE (l.map (chkV f)) := by
   rw [hfin, how, hn, hn2]
   rfl
  clear hfin
  unfold ownZ at how
  replace how := Lib.hid how
  replace hu := Lib.hid hu
  replace hn := Lib.hid hn
  replace hn2 := Lib.hid hn2
  replace hs := Lib.hid hs
  replace hs2 := Lib.hid hs2
  replace ih := Lib.hid ih
  by_cases hk5 : k = 5
  ·
   subst hk5
   go_enter Tryd.func47, Tryd.ntmps47
   go_upto_region 1 with (fail)
   generalize hx_ : World.alloc w _ = wo1
   have hO1 : OwnB w wo1 [(w.heap.size, [.int .i64 5, .bool b, .int .i64 i, .string s, .slice A n c, .slice A2 n2 c2])] := by rw [← hx_]; exact (OwnB.refl w).new #[.int .i64 5, .bool b, .int .i64 i, .string s, .slice A n c, .slice A2 n2 c2] _ (g := w.heap.size)
   clear hx_
   have c0_0 := hO1.c 0 0
   have c0_1 := hO1.c 0 1
   have c0_2 := hO1.c 0 2
   have c0_3 := hO1.c 0 3
   have c0_4 := hO1.c 0 4
   have c0_5 := hO1.c 0 5
   have cf0 := hO1.fr 0
   repeat' ((fail_if_success at_builtin); (first | go_skip | go_guarded | go_step))
   refine (plain_any 5 b i s A n c A2 n2 c2 _).mono ?_
   rintro e w2 ⟨rfl, hb2⟩
   dsimp only
   have hO2 : OwnB w w2 [(w.heap.size, [.int .i64 5, .bool b, .int .i64 i, .string s, .slice A n c, .slice A2 n2 c2])] := hO1.kept hb2
   clear c0_0 c0_1 c0_2 c0_3 c0_4 c0_5 cf0 hO1
   have c0_0 := hO2.c 0 0
   have c0_1 := hO2.c 0 1
   have c0_2 := hO2.c 0 2
   have c0_3 := hO2.c 0 3
   have c0_4 := hO2.c 0 4
   have c0_5 := hO2.c 0 5
   have cf0 := hO2.fr 0
   generalize hun : unusedZ 5 b i s n n2 = un at *
   replace hun := Lib.hid hun
   cases un with
   | false =>
    have ho : ow = 1 := by rw [how.out, if_neg (by omega), if_pos (by right; right; rfl)]
    have hf : fin = 1 := by rw [hu.out, ho]; rfl
    replace hf := Lib.hid hf
    clear hu ho how
    have hb := hO2.below
    repeat' ((fail_if_success at_builtin); (first | go_skip | go_guarded | go_step))
    go_ret
    exact ⟨ret_i6 hf.out.symm, hb⟩
   | true =>
    by_cases h1 : i < -9007199254740992
    ·
     have ho : ow = 2 := by rw [how.out, if_neg (by omega), if_neg (by simp), if_pos (by omega)]
     have hf : fin = 2 := by rw [hu.out, ho]; rfl
     replace hf := Lib.hid hf
     clear hu ho how
     have hb := hO2.below
     repeat' ((fail_if_success at_builtin); (first | go_skip | go_guarded | go_step))
     go_ret
     exact ⟨ret_i6 hf.out.symm, hb⟩
    by_cases h2 : 9007199254740992 < i
    ·
     have ho : ow = 2 := by rw [how.out, if_neg (by omega), if_neg (by simp), if_pos (by omega)]
     have hf : fin = 2 := by rw [hu.out, ho]; rfl
     replace hf := Lib.hid hf
     clear hu ho how
     have hb := hO2.below
     repeat' ((fail_if_success at_builtin); (first | go_skip | go_guarded | go_step))
     go_ret
     exact ⟨ret_i6 hf.out.symm, hb⟩
    by_cases h3 : 4096 < s.size
    ·
     have g3 : (4096 : Int) < (s.size : Int) := by omega
     have ho : ow = 3 := by rw [how.out, if_neg (by omega), if_neg (by simp), if_neg (by omega), if_pos (by omega)]
     have hf : fin = 3 := by rw [hu.out, ho]; rfl
     replace hf := Lib.hid hf
     clear hu ho how
     have hb := hO2.below
     repeat' ((fail_if_success at_builtin); (first | go_skip | go_guarded | go_step))
     go_ret
     exact ⟨ret_i6 hf.out.symm, hb⟩
    have g3 : ¬ (4096 : Int) < (s.size : Int) := by omega
    by_cases h4 : 1024 < n
    ·
     have g4 : (1024 : Int) < (n : Int) := by omega
     have ho : ow = 3 := by rw [how.out, if_neg (by omega), if_neg (by simp), if_neg (by omega), if_pos (by omega)]
     have hf : fin = 3 := by rw [hu.out, ho]; rfl
     replace hf := Lib.hid hf
     clear hu ho how
     have hb := hO2.below
     repeat' ((fail_if_success at_builtin); (first | go_skip | go_guarded | go_step))
     go_ret
     exact ⟨ret_i6 hf.out.symm, hb⟩
    have g4 : ¬ (1024 : Int) < (n : Int) := by omega
    by_cases h5 : 1024 < n2
    ·
     have g5 : (1024 : Int) < (n2 : Int) := by omega
     have ho : ow = 3 := by rw [how.out, if_neg (by omega), if_neg (by simp), if_neg (by omega), if_pos (by omega)]
     have hf : fin = 3 := by rw [hu.out, ho]; rfl
     replace hf := Lib.hid hf
     clear hu ho how
     have hb := hO2.below
     repeat' ((fail_if_success at_builtin); (first | go_skip | go_guarded | go_step))
     go_ret
     exact ⟨ret_i6 hf.out.symm, hb⟩
    have g5 : ¬ (1024 : Int) < (n2 : Int) := by omega
    have hs3 : SeqP w2 (fun b => b < w2.heap.size) 1 A2 n2 (ks.map Value.string) := hs2.out.map (fun _ hp => hO2.below.cell hp) (fun _ hp => Nat.lt_of_lt_of_le hp hO2.below.size)
    replace hs3 := Lib.hid hs3
    repeat' ((fail_if_success at_builtin); (first | go_skip | go_guarded | go_step))
    refine (asc_any 5 b i s A n c A2 n2 c2 ks _ hn2.out (by omega) hs3.out).mono ?_
    rintro e w3 ⟨rfl, hb3⟩
    dsimp only
    have hO3 : OwnB w w3 [(w.heap.size, [.int .i64 5, .bool b, .int .i64 i, .string s, .slice A n c, .slice A2 n2 c2])] := hO2.kept hb3
    clear c0_0 c0_1 c0_2 c0_3 c0_4 c0_5 cf0 hO2
    have c0_0 := hO3.c 0 0
    have c0_1 := hO3.c 0 1
    have c0_2 := hO3.c 0 2
    have c0_3 := hO3.c 0 3
    have c0_4 := hO3.c 0 4
    have c0_5 := hO3.c 0 5
    have cf0 := hO3.fr 0
    generalize hky : (decide (n2 = n) && ascK none ks) = ky at *
    replace hky := Lib.hid hky
    cases ky with
    | false =>
     have ho : ow = 1 := by rw [how.out, if_neg (by omega), if_neg (by simp), if_neg (by omega), if_neg (by omega), if_pos ⟨rfl, rfl⟩]
     have hf : fin = 1 := by rw [hu.out, ho]; rfl
     replace hf := Lib.hid hf
     clear hu ho how
     have hb := hO3.below
     repeat' ((fail_if_success at_builtin); (first | go_skip | go_guarded | go_step))
     go_ret
     exact ⟨ret_i6 hf.out.symm, hb⟩
    | true =>
     by_cases h0 : n = 0 ∧ f = 0
     ·
      obtain ⟨h0, h01⟩ := h0
      subst h0
      subst h01
      obtain rfl : lv = 16 := by omega
      have ho : ow = 13 := by rw [how.out, if_neg (by omega), if_neg (by simp), if_neg (by omega), if_neg (by omega), if_neg (by simp), if_pos ⟨by omega, rfl, rfl⟩]
      have hf : fin = 13 := by rw [hu.out, ho]; rfl
      replace hf := Lib.hid hf
      clear hu ho how
      have hb := hO3.below
      repeat' ((fail_if_success at_builtin); (first | go_skip | go_guarded | go_step))
      go_ret
      exact ⟨ret_i6 hf.out.symm, hb⟩
     by_cases h0 : n = 0
     ·
      subst h0
      have gl : (lv == 16) = false := by simp; omega
      have ho : ow = 0 := by rw [how.out, if_neg (by omega), if_neg (by simp), if_neg (by omega), if_neg (by omega), if_neg (by simp), if_neg (by omega)]
      have hf : fin = 0 := by
       have hl0 : l = [] := List.eq_nil_of_length_eq_zero hn.out.symm
       rw [hu.out, ho, if_neg (by decide), hl0]
       rfl
      replace hf := Lib.hid hf
      clear hu ho how
      repeat' ((fail_if_success at_builtin); (first | go_skip | go_guarded | go_step))
      go_loopw [5] (fun u5 wr => u5 = .int .i64 0 ∧ OwnB w wr [(w.heap.size, [.int .i64 5, .bool b, .int .i64 i, .string s, .slice A 0 c, .slice A2 n2 c2])]) (fun _ _ => 0)
      case atStart => exact ⟨rfl, hO3⟩
      case round =>
       clear c0_0 c0_1 c0_2 c0_3 c0_4 c0_5 cf0 hO3
       obtain ⟨rfl, hOr⟩ := hrel
       have c0_0 := hOr.c 0 0
       have c0_1 := hOr.c 0 1
       have c0_2 := hOr.c 0 2
       have c0_3 := hOr.c 0 3
       have c0_4 := hOr.c 0 4
       have c0_5 := hOr.c 0 5
       have cf0 := hOr.fr 0
       have hb4 := hOr.below
       repeat' ((fail_if_success at_builtin); (first | go_skip | go_guarded | go_step))
       go_ret
       exact ⟨ret_i6 hf.out.symm, hb4⟩
     have g0 : ((n : Int) == 0) = false := by simp; omega
     have ho : ow = 0 := by rw [how.out, if_neg (by omega), if_neg (by simp), if_neg (by omega), if_neg (by omega), if_neg (by simp), if_neg (by omega)]
     have hfl : fin = firstE (l.map (chkV f)) := by rw [hu.out, ho, if_neg (by decide)]
     clear hu ho how
     repeat' ((fail_if_success at_builtin); (first | go_skip | go_guarded | go_step))
     go_loopw [5] (fun u5 wr => ∃ i' : Nat, i' ≤ n ∧ u5 = .int .i64 (i' : Int) ∧ OwnB w wr [(w.heap.size, [.int .i64 5, .bool b, .int .i64 i, .string s, .slice A n c, .slice A2 n2 c2])] ∧ fin = firstE ((l.drop i').map (chkV f))) (fun u5 _ => n - (intOf u5).toNat)
     case atStart => exact ⟨0, by omega, rfl, hO3, hfl⟩
     case round =>
      clear c0_0 c0_1 c0_2 c0_3 c0_4 c0_5 cf0 hO3 hfl
      obtain ⟨i', hi, rfl, hOr, hu⟩ := hrel
      have c0_0 := hOr.c 0 0
      have c0_1 := hOr.c 0 1
      have c0_2 := hOr.c 0 2
      have c0_3 := hOr.c 0 3
      have c0_4 := hOr.c 0 4
      have c0_5 := hOr.c 0 5
      have cf0 := hOr.fr 0
      have i1 : (0 : Int) ≤ (i' : Int) := by omega
      have i2 : IntKind.i64.wrap ((i' : Int) + 1) = ((i' + 1 : Nat) : Int) := by rw [IntWalk.i64_in _ (by omega)]; omega
      have hb4 := hOr.below
      by_cases hlt : i' < n
      ·
       have i3 : (i' : Int) < (n : Int) := by omega
       obtain ⟨x, hx⟩ : ∃ x, l[i']? = some x := ⟨_, List.getElem?_eq_getElem (by rw [← hn.out]; exact hlt)⟩
       obtain ⟨bx, ox, cx, rfl, hbx, hlx, hrx, hcl⟩ := hs.out.at_ hx
       obtain ⟨xk, xb, xi, xs, XA, xn, xc, XB, xn2, xc2, rfl⟩ := vl_form hrx
       have hd : l.drop i' = x :: l.drop (i' + 1) := by
        obtain ⟨h1, h2⟩ := List.getElem?_eq_some_iff.1 hx
        rw [List.drop_eq_getElem_cons h1, h2]
       rw [hd, List.map_cons] at hu
       have y0 : wr.cell? ⟨bx, ox + i' * 6, none⟩ = some (.int .i64 xk) := (hb4.cell (p := ⟨bx, ox + i' * 6 + 0, none⟩) hbx).trans (hcl 0 _ rfl)
       have y1 : wr.cell? ⟨bx, ox + i' * 6 + 1, none⟩ = some (.bool xb) := (hb4.cell (p := ⟨bx, ox + i' * 6 + 1, none⟩) hbx).trans (hcl 1 _ rfl)
       have y2 : wr.cell? ⟨bx, ox + i' * 6 + 2, none⟩ = some (.int .i64 xi) := (hb4.cell (p := ⟨bx, ox + i' * 6 + 2, none⟩) hbx).trans (hcl 2 _ rfl)
       have y3 : wr.cell? ⟨bx, ox + i' * 6 + 3, none⟩ = some (.string xs) := (hb4.cell (p := ⟨bx, ox + i' * 6 + 3, none⟩) hbx).trans (hcl 3 _ rfl)
       have y4 : wr.cell? ⟨bx, ox + i' * 6 + 4, none⟩ = some (.slice XA xn xc) := (hb4.cell (p := ⟨bx, ox + i' * 6 + 4, none⟩) hbx).trans (hcl 4 _ rfl)
       have y5 : wr.cell? ⟨bx, ox + i' * 6 + 5, none⟩ = some (.slice XB xn2 xc2) := (hb4.cell (p := ⟨bx, ox + i' * 6 + 5, none⟩) hbx).trans (hcl 5 _ rfl)
       have hrx6 := Lib.hid (RVl.at_ hrx hb4)
       clear hcl hx hrx hd
       have hu2 : fin = if chkV f x ≠ 0 then chkV f x else firstE ((l.drop (i' + 1)).map (chkV f)) := hu
       replace hu2 := Lib.hid hu2
       clear hu
       repeat' ((fail_if_success at_builtin); (first | go_skip | go_guarded | go_step))
       refine (ih.out (lv + 1) gj x xk xb xi xs XA xn xc XB xn2 xc2 _ (by omega) (by omega) hrx6.out).mono ?_
       rintro e w7 ⟨rfl, hb7⟩
       dsimp only
       have hO8 := hOr.kept hb7
       clear c0_0 c0_1 c0_2 c0_3 c0_4 c0_5 cf0
       have c0_0 := hO8.c 0 0
       have c0_1 := hO8.c 0 1
       have c0_2 := hO8.c 0 2
       have c0_3 := hO8.c 0 3
       have c0_4 := hO8.c 0 4
       have c0_5 := hO8.c 0 5
       have cf0 := hO8.fr 0
       have hb8 := hO8.below
       by_cases hce : chkV f x = 0
       ·
        have hf : fin = firstE ((l.drop (i' + 1)).map (chkV f)) := by rw [hu2.out, hce, if_neg (by decide)]
        replace hf := Lib.hid hf
        rw [hce]
        clear hce
        repeat' ((fail_if_success at_builtin); (first | go_skip | go_guarded | go_step))
        go_roundw
        case rel => exact ⟨i' + 1, by omega, by first | rfl | go_num, hO8, hf.out⟩
        case measure => (try go_num); (try simp [intOf]); (try omega)
       ·
        have hf : fin = chkV f x := by rw [hu2.out, if_pos hce]
        have hce2 : (chkV f x == 0) = false := by simpa using hce
        replace hf := Lib.hid hf
        clear hu2
        generalize chkV f x = ce at *
        repeat' ((fail_if_success at_builtin); (first | go_skip | go_guarded | go_step))
        go_ret
        exact ⟨ret_i6 hf.out.symm, hb8⟩
      ·
       obtain rfl : i' = n := by omega
       have i3 : ¬ (i' : Int) < (i' : Int) := by omega
       have hf : fin = 0 := by rw [hu, List.drop_of_length_le (by rw [← hn.out]; exact Nat.le_refl _)]; rfl
       replace hf := Lib.hid hf
       clear hu
       repeat' ((fail_if_success at_builtin); (first | go_skip | go_guarded | go_step))
       go_ret
       exact ⟨ret_i6 hf.out.symm, hb4⟩
  by_cases hk4 : k = 4
  ·
   subst hk4
   go_enter Tryd.func47, Tryd.ntmps47
   go_upto_region 1 with (fail)
   generalize hx_ : World.alloc w _ = wo1
   have hO1 : OwnB w wo1 [(w.heap.size, [.int .i64 4, .bool b, .int .i64 i, .string s, .slice A n c, .slice A2 n2 c2])] := by rw [← hx_]; exact (OwnB.refl w).new #[.int .i64 4, .bool b, .int .i64 i, .string s, .slice A n c, .slice A2 n2 c2] _ (g := w.heap.size)
   clear hx_
   have c0_0 := hO1.c 0 0
   have c0_1 := hO1.c 0 1
   have c0_2 := hO1.c 0 2
   have c0_3 := hO1.c 0 3
   have c0_4 := hO1.c 0 4
   have c0_5 := hO1.c 0 5
   have cf0 := hO1.fr 0
   repeat' ((fail_if_success at_builtin); (first | go_skip | go_guarded | go_step))
   refine (plain_any 4 b i s A n c A2 n2 c2 _).mono ?_
   rintro e w2 ⟨rfl, hb2⟩
   dsimp only
   have hO2 : OwnB w w2 [(w.heap.size, [.int .i64 4, .bool b, .int .i64 i, .string s, .slice A n c, .slice A2 n2 c2])] := hO1.kept hb2
   clear c0_0 c0_1 c0_2 c0_3 c0_4 c0_5 cf0 hO1
   have c0_0 := hO2.c 0 0
   have c0_1 := hO2.c 0 1
   have c0_2 := hO2.c 0 2
   have c0_3 := hO2.c 0 3
   have c0_4 := hO2.c 0 4
   have c0_5 := hO2.c 0 5
   have cf0 := hO2.fr 0
   generalize hun : unusedZ 4 b i s n n2 = un at *
   replace hun := Lib.hid hun
   cases un with
   | false =>
    have ho : ow = 1 := by rw [how.out, if_neg (by omega), if_pos (by right; right; rfl)]
    have hf : fin = 1 := by rw [hu.out, ho]; rfl
    replace hf := Lib.hid hf
    clear hu ho how
    have hb := hO2.below
    repeat' ((fail_if_success at_builtin); (first | go_skip | go_guarded | go_step))
    go_ret
    exact ⟨ret_i6 hf.out.symm, hb⟩
   | true =>
    by_cases h1 : i < -9007199254740992
    ·
     have ho : ow = 2 := by rw [how.out, if_neg (by omega), if_neg (by simp), if_pos (by omega)]
     have hf : fin = 2 := by rw [hu.out, ho]; rfl
     replace hf := Lib.hid hf
     clear hu ho how
     have hb := hO2.below
     repeat' ((fail_if_success at_builtin); (first | go_skip | go_guarded | go_step))
     go_ret
     exact ⟨ret_i6 hf.out.symm, hb⟩
    by_cases h2 : 9007199254740992 < i
    ·
     have ho : ow = 2 := by rw [how.out, if_neg (by omega), if_neg (by simp), if_pos (by omega)]
     have hf : fin = 2 := by rw [hu.out, ho]; rfl
     replace hf := Lib.hid hf
     clear hu ho how
     have hb := hO2.below
     repeat' ((fail_if_success at_builtin); (first | go_skip | go_guarded | go_step))
     go_ret
     exact ⟨ret_i6 hf.out.symm, hb⟩
    by_cases h3 : 4096 < s.size
    ·
     have g3 : (4096 : Int) < (s.size : Int) := by omega
     have ho : ow = 3 := by rw [how.out, if_neg (by omega), if_neg (by simp), if_neg (by omega), if_pos (by omega)]
     have hf : fin = 3 := by rw [hu.out, ho]; rfl
     replace hf := Lib.hid hf
     clear hu ho how
     have hb := hO2.below
     repeat' ((fail_if_success at_builtin); (first | go_skip | go_guarded | go_step))
     go_ret
     exact ⟨ret_i6 hf.out.symm, hb⟩
    have g3 : ¬ (4096 : Int) < (s.size : Int) := by omega
    by_cases h4 : 1024 < n
    ·
     have g4 : (1024 : Int) < (n : Int) := by omega
     have ho : ow = 3 := by rw [how.out, if_neg (by omega), if_neg (by simp), if_neg (by omega), if_pos (by omega)]
     have hf : fin = 3 := by rw [hu.out, ho]; rfl
     replace hf := Lib.hid hf
     clear hu ho how
     have hb := hO2.below
     repeat' ((fail_if_success at_builtin); (first | go_skip | go_guarded | go_step))
     go_ret
     exact ⟨ret_i6 hf.out.symm, hb⟩
    have g4 : ¬ (1024 : Int) < (n : Int) := by omega
    by_cases h5 : 1024 < n2
    ·
     have g5 : (1024 : Int) < (n2 : Int) := by omega
     have ho : ow = 3 := by rw [how.out, if_neg (by omega), if_neg (by simp), if_neg (by omega), if_pos (by omega)]
     have hf : fin = 3 := by rw [hu.out, ho]; rfl
     replace hf := Lib.hid hf
     clear hu ho how
     have hb := hO2.below
     repeat' ((fail_if_success at_builtin); (first | go_skip | go_guarded | go_step))
     go_ret
     exact ⟨ret_i6 hf.out.symm, hb⟩
    have g5 : ¬ (1024 : Int) < (n2 : Int) := by omega
    by_cases h0 : n = 0 ∧ f = 0
    ·
     obtain ⟨h0, h01⟩ := h0
     subst h0
     subst h01
     obtain rfl : lv = 16 := by omega
     have ho : ow = 13 := by rw [how.out, if_neg (by omega), if_neg (by simp), if_neg (by omega), if_neg (by omega), if_neg (by omega), if_pos ⟨by omega, rfl, rfl⟩]
     have hf : fin = 13 := by rw [hu.out, ho]; rfl
     replace hf := Lib.hid hf
     clear hu ho how
     have hb := hO2.below
     repeat' ((fail_if_success at_builtin); (first | go_skip | go_guarded | go_step))
     go_ret
     exact ⟨ret_i6 hf.out.symm, hb⟩
    by_cases h0 : n = 0
    ·
     subst h0
     have gl : (lv == 16) = false := by simp; omega
     have ho : ow = 0 := by rw [how.out, if_neg (by omega), if_neg (by simp), if_neg (by omega), if_neg (by omega), if_neg (by omega), if_neg (by omega)]
     have hf : fin = 0 := by
      have hl0 : l = [] := List.eq_nil_of_length_eq_zero hn.out.symm
      rw [hu.out, ho, if_neg (by decide), hl0]
      rfl
     replace hf := Lib.hid hf
     clear hu ho how
     repeat' ((fail_if_success at_builtin); (first | go_skip | go_guarded | go_step))
     go_loopw [5] (fun u5 wr => u5 = .int .i64 0 ∧ OwnB w wr [(w.heap.size, [.int .i64 4, .bool b, .int .i64 i, .string s, .slice A 0 c, .slice A2 n2 c2])]) (fun _ _ => 0)
     case atStart => exact ⟨rfl, hO2⟩
     case round =>
      clear c0_0 c0_1 c0_2 c0_3 c0_4 c0_5 cf0 hO2
      obtain ⟨rfl, hOr⟩ := hrel
      have c0_0 := hOr.c 0 0
      have c0_1 := hOr.c 0 1
      have c0_2 := hOr.c 0 2
      have c0_3 := hOr.c 0 3
      have c0_4 := hOr.c 0 4
      have c0_5 := hOr.c 0 5
      have cf0 := hOr.fr 0
      have hb4 := hOr.below
      repeat' ((fail_if_success at_builtin); (first | go_skip | go_guarded | go_step))
      go_ret
      exact ⟨ret_i6 hf.out.symm, hb4⟩
    have g0 : ((n : Int) == 0) = false := by simp; omega
    have ho : ow = 0 := by rw [how.out, if_neg (by omega), if_neg (by simp), if_neg (by omega), if_neg (by omega), if_neg (by omega), if_neg (by omega)]
    have hfl : fin = firstE (l.map (chkV f)) := by rw [hu.out, ho, if_neg (by decide)]
    clear hu ho how
    repeat' ((fail_if_success at_builtin); (first | go_skip | go_guarded | go_step))
    go_loopw [5] (fun u5 wr => ∃ i' : Nat, i' ≤ n ∧ u5 = .int .i64 (i' : Int) ∧ OwnB w wr [(w.heap.size, [.int .i64 4, .bool b, .int .i64 i, .string s, .slice A n c, .slice A2 n2 c2])] ∧ fin = firstE ((l.drop i').map (chkV f))) (fun u5 _ => n - (intOf u5).toNat)
    case atStart => exact ⟨0, by omega, rfl, hO2, hfl⟩
    case round =>
     clear c0_0 c0_1 c0_2 c0_3 c0_4 c0_5 cf0 hO2 hfl
     obtain ⟨i', hi, rfl, hOr, hu⟩ := hrel
     have c0_0 := hOr.c 0 0
     have c0_1 := hOr.c 0 1
     have c0_2 := hOr.c 0 2
     have c0_3 := hOr.c 0 3
     have c0_4 := hOr.c 0 4
     have c0_5 := hOr.c 0 5
     have cf0 := hOr.fr 0
     have i1 : (0 : Int) ≤ (i' : Int) := by omega
     have i2 : IntKind.i64.wrap ((i' : Int) + 1) = ((i' + 1 : Nat) : Int) := by rw [IntWalk.i64_in _ (by omega)]; omega
     have hb4 := hOr.below
     by_cases hlt : i' < n
     ·
      have i3 : (i' : Int) < (n : Int) := by omega
      obtain ⟨x, hx⟩ : ∃ x, l[i']? = some x := ⟨_, List.getElem?_eq_getElem (by rw [← hn.out]; exact hlt)⟩
      obtain ⟨bx, ox, cx, rfl, hbx, hlx, hrx, hcl⟩ := hs.out.at_ hx
      obtain ⟨xk, xb, xi, xs, XA, xn, xc, XB, xn2, xc2, rfl⟩ := vl_form hrx
      have hd : l.drop i' = x :: l.drop (i' + 1) := by
       obtain ⟨h1, h2⟩ := List.getElem?_eq_some_iff.1 hx
       rw [List.drop_eq_getElem_cons h1, h2]
      rw [hd, List.map_cons] at hu
      have y0 : wr.cell? ⟨bx, ox + i' * 6, none⟩ = some (.int .i64 xk) := (hb4.cell (p := ⟨bx, ox + i' * 6 + 0, none⟩) hbx).trans (hcl 0 _ rfl)
      have y1 : wr.cell? ⟨bx, ox + i' * 6 + 1, none⟩ = some (.bool xb) := (hb4.cell (p := ⟨bx, ox + i' * 6 + 1, none⟩) hbx).trans (hcl 1 _ rfl)
      have y2 : wr.cell? ⟨bx, ox + i' * 6 + 2, none⟩ = some (.int .i64 xi) := (hb4.cell (p := ⟨bx, ox + i' * 6 + 2, none⟩) hbx).trans (hcl 2 _ rfl)
      have y3 : wr.cell? ⟨bx, ox + i' * 6 + 3, none⟩ = some (.string xs) := (hb4.cell (p := ⟨bx, ox + i' * 6 + 3, none⟩) hbx).trans (hcl 3 _ rfl)
      have y4 : wr.cell? ⟨bx, ox + i' * 6 + 4, none⟩ = some (.slice XA xn xc) := (hb4.cell (p := ⟨bx, ox + i' * 6 + 4, none⟩) hbx).trans (hcl 4 _ rfl)
      have y5 : wr.cell? ⟨bx, ox + i' * 6 + 5, none⟩ = some (.slice XB xn2 xc2) := (hb4.cell (p := ⟨bx, ox + i' * 6 + 5, none⟩) hbx).trans (hcl 5 _ rfl)
      have hrx6 := Lib.hid (RVl.at_ hrx hb4)
      clear hcl hx hrx hd
      have hu2 : fin = if chkV f x ≠ 0 then chkV f x else firstE ((l.drop (i' + 1)).map (chkV f)) := hu
      replace hu2 := Lib.hid hu2
      clear hu
      repeat' ((fail_if_success at_builtin); (first | go_skip | go_guarded | go_step))
      refine (ih.out (lv + 1) gj x xk xb xi xs XA xn xc XB xn2 xc2 _ (by omega) (by omega) hrx6.out).mono ?_
      rintro e w7 ⟨rfl, hb7⟩
      dsimp only
      have hO8 := hOr.kept hb7
      clear c0_0 c0_1 c0_2 c0_3 c0_4 c0_5 cf0
      have c0_0 := hO8.c 0 0
      have c0_1 := hO8.c 0 1
      have c0_2 := hO8.c 0 2
      have c0_3 := hO8.c 0 3
      have c0_4 := hO8.c 0 4
      have c0_5 := hO8.c 0 5
      have cf0 := hO8.fr 0
      have hb8 := hO8.below
      by_cases hce : chkV f x = 0
      ·
       have hf : fin = firstE ((l.drop (i' + 1)).map (chkV f)) := by rw [hu2.out, hce, if_neg (by decide)]
       replace hf := Lib.hid hf
       rw [hce]
       clear hce
       repeat' ((fail_if_success at_builtin); (first | go_skip | go_guarded | go_step))
       go_roundw
       case rel => exact ⟨i' + 1, by omega, by first | rfl | go_num, hO8, hf.out⟩
       case measure => (try go_num); (try simp [intOf]); (try omega)
      ·
       have hf : fin = chkV f x := by rw [hu2.out, if_pos hce]
       have hce2 : (chkV f x == 0) = false := by simpa using hce
       replace hf := Lib.hid hf
       clear hu2
       generalize chkV f x = ce at *
       repeat' ((fail_if_success at_builtin); (first | go_skip | go_guarded | go_step))
       go_ret
       exact ⟨ret_i6 hf.out.symm, hb8⟩
     ·
      obtain rfl : i' = n := by omega
      have i3 : ¬ (i' : Int) < (i' : Int) := by omega
      have hf : fin = 0 := by rw [hu, List.drop_of_length_le (by rw [← hn.out]; exact Nat.le_refl _)]; rfl
      replace hf := Lib.hid hf
      clear hu
      repeat' ((fail_if_success at_builtin); (first | go_skip | go_guarded | go_step))
      go_ret
      exact ⟨ret_i6 hf.out.symm, hb4⟩
  go_enter Tryd.func47, Tryd.ntmps47
  go_upto_region 1 with (fail)
  generalize hx_ : World.alloc w _ = wo1
  have hO1 : OwnB w wo1 [(w.heap.size, [.int .i64 k, .bool b, .int .i64 i, .string s, .slice A n c, .slice A2 n2 c2])] := by rw [← hx_]; exact (OwnB.refl w).new #[.int .i64 k, .bool b, .int .i64 i, .string s, .slice A n c, .slice A2 n2 c2] _ (g := w.heap.size)
  clear hx_
  have c0_0 := hO1.c 0 0
  have c0_1 := hO1.c 0 1
  have c0_2 := hO1.c 0 2
  have c0_3 := hO1.c 0 3
  have c0_4 := hO1.c 0 4
  have c0_5 := hO1.c 0 5
  have cf0 := hO1.fr 0
  by_cases hk0 : k < 0
  ·
   have ho : ow = 1 := by rw [how.out, if_neg (by omega), if_pos (by omega)]
   have hf : fin = 1 := by rw [hu.out, ho]; rfl
   replace hf := Lib.hid hf
   clear hu ho how
   have hb := hO1.below
   repeat' ((fail_if_success at_builtin); (first | go_skip | go_guarded | go_step))
   go_ret
   exact ⟨ret_i6 hf.out.symm, hb⟩
  by_cases hk6 : 5 < k
  ·
   have ho : ow = 1 := by rw [how.out, if_neg (by omega), if_pos (by omega)]
   have hf : fin = 1 := by rw [hu.out, ho]; rfl
   replace hf := Lib.hid hf
   clear hu ho how
   have hb := hO1.below
   repeat' ((fail_if_success at_builtin); (first | go_skip | go_guarded | go_step))
   go_ret
   exact ⟨ret_i6 hf.out.symm, hb⟩
  have hk7 : ¬ 4 ≤ k := by omega
  repeat' ((fail_if_success at_builtin); (first | go_skip | go_guarded | go_step))
  refine (plain_any k b i s A n c A2 n2 c2 _).mono ?_
  rintro e w2 ⟨rfl, hb2⟩
  dsimp only
  have hO2 : OwnB w w2 [(w.heap.size, [.int .i64 k, .bool b, .int .i64 i, .string s, .slice A n c, .slice A2 n2 c2])] := hO1.kept hb2
  clear c0_0 c0_1 c0_2 c0_3 c0_4 c0_5 cf0 hO1
  have c0_0 := hO2.c 0 0
  have c0_1 := hO2.c 0 1
  have c0_2 := hO2.c 0 2
  have c0_3 := hO2.c 0 3
  have c0_4 := hO2.c 0 4
  have c0_5 := hO2.c 0 5
  have cf0 := hO2.fr 0
  generalize hun : unusedZ k b i s n n2 = un at *
  replace hun := Lib.hid hun
  cases un with
  | false =>
   have ho : ow = 1 := by rw [how.out, if_neg (by omega), if_pos (by right; right; rfl)]
   have hf : fin = 1 := by rw [hu.out, ho]; rfl
   replace hf := Lib.hid hf
   clear hu ho how
   have hb := hO2.below
   repeat' ((fail_if_success at_builtin); (first | go_skip | go_guarded | go_step))
   go_ret
   exact ⟨ret_i6 hf.out.symm, hb⟩
  | true =>
   by_cases h1 : i < -9007199254740992
   ·
    have ho : ow = 2 := by rw [how.out, if_neg (by omega), if_neg (by simp; omega), if_pos (by omega)]
    have hf : fin = 2 := by rw [hu.out, ho]; rfl
    replace hf := Lib.hid hf
    clear hu ho how
    have hb := hO2.below
    repeat' ((fail_if_success at_builtin); (first | go_skip | go_guarded | go_step))
    go_ret
    exact ⟨ret_i6 hf.out.symm, hb⟩
   by_cases h2 : 9007199254740992 < i
   ·
    have ho : ow = 2 := by rw [how.out, if_neg (by omega), if_neg (by simp; omega), if_pos (by omega)]
    have hf : fin = 2 := by rw [hu.out, ho]; rfl
    replace hf := Lib.hid hf
    clear hu ho how
    have hb := hO2.below
    repeat' ((fail_if_success at_builtin); (first | go_skip | go_guarded | go_step))
    go_ret
    exact ⟨ret_i6 hf.out.symm, hb⟩
   by_cases h3 : 4096 < s.size
   ·
    have g3 : (4096 : Int) < (s.size : Int) := by omega
    have ho : ow = 3 := by rw [how.out, if_neg (by omega), if_neg (by simp; omega), if_neg (by omega), if_pos (by omega)]
    have hf : fin = 3 := by rw [hu.out, ho]; rfl
    replace hf := Lib.hid hf
    clear hu ho how
    have hb := hO2.below
    repeat' ((fail_if_success at_builtin); (first | go_skip | go_guarded | go_step))
    go_ret
    exact ⟨ret_i6 hf.out.symm, hb⟩
   have g3 : ¬ (4096 : Int) < (s.size : Int) := by omega
   by_cases h4 : 1024 < n
   ·
    have g4 : (1024 : Int) < (n : Int) := by omega
    have ho : ow = 3 := by rw [how.out, if_neg (by omega), if_neg (by simp; omega), if_neg (by omega), if_pos (by omega)]
    have hf : fin = 3 := by rw [hu.out, ho]; rfl
    replace hf := Lib.hid hf
    clear hu ho how
    have hb := hO2.below
    repeat' ((fail_if_success at_builtin); (first | go_skip | go_guarded | go_step))
    go_ret
    exact ⟨ret_i6 hf.out.symm, hb⟩
   have g4 : ¬ (1024 : Int) < (n : Int) := by omega
   by_cases h5 : 1024 < n2
   ·
    have g5 : (1024 : Int) < (n2 : Int) := by omega
    have ho : ow = 3 := by rw [how.out, if_neg (by omega), if_neg (by simp; omega), if_neg (by omega), if_pos (by omega)]
    have hf : fin = 3 := by rw [hu.out, ho]; rfl
    replace hf := Lib.hid hf
    clear hu ho how
    have hb := hO2.below
    repeat' ((fail_if_success at_builtin); (first | go_skip | go_guarded | go_step))
    go_ret
    exact ⟨ret_i6 hf.out.symm, hb⟩
   have g5 : ¬ (1024 : Int) < (n2 : Int) := by omega
   have ho : ow = 0 := by rw [how.out, if_neg (by omega), if_neg (by simp; omega), if_neg (by omega), if_neg (by omega), if_neg (by omega), if_neg (by omega)]
   have hfl : fin = firstE (l.map (chkV f)) := by rw [hu.out, ho, if_neg (by decide)]
   clear hu ho how
   repeat' ((fail_if_success at_builtin); (first | go_skip | go_guarded | go_step))
   go_loopw [5] (fun u5 wr => ∃ i' : Nat, i' ≤ n ∧ u5 = .int .i64 (i' : Int) ∧ OwnB w wr [(w.heap.size, [.int .i64 k, .bool b, .int .i64 i, .string s, .slice A n c, .slice A2 n2 c2])] ∧ fin = firstE ((l.drop i').map (chkV f))) (fun u5 _ => n - (intOf u5).toNat)
   case atStart => exact ⟨0, by omega, rfl, hO2, hfl⟩
   case round =>
    clear c0_0 c0_1 c0_2 c0_3 c0_4 c0_5 cf0 hO2 hfl
    obtain ⟨i', hi, rfl, hOr, hu⟩ := hrel
    have c0_0 := hOr.c 0 0
    have c0_1 := hOr.c 0 1
    have c0_2 := hOr.c 0 2
    have c0_3 := hOr.c 0 3
    have c0_4 := hOr.c 0 4
    have c0_5 := hOr.c 0 5
    have cf0 := hOr.fr 0
    have i1 : (0 : Int) ≤ (i' : Int) := by omega
    have i2 : IntKind.i64.wrap ((i' : Int) + 1) = ((i' + 1 : Nat) : Int) := by rw [IntWalk.i64_in _ (by omega)]; omega
    have hb4 := hOr.below
    by_cases hlt : i' < n
    ·
     have i3 : (i' : Int) < (n : Int) := by omega
     obtain ⟨x, hx⟩ : ∃ x, l[i']? = some x := ⟨_, List.getElem?_eq_getElem (by rw [← hn.out]; exact hlt)⟩
     obtain ⟨bx, ox, cx, rfl, hbx, hlx, hrx, hcl⟩ := hs.out.at_ hx
     obtain ⟨xk, xb, xi, xs, XA, xn, xc, XB, xn2, xc2, rfl⟩ := vl_form hrx
     have hd : l.drop i' = x :: l.drop (i' + 1) := by
      obtain ⟨h1, h2⟩ := List.getElem?_eq_some_iff.1 hx
      rw [List.drop_eq_getElem_cons h1, h2]
     rw [hd, List.map_cons] at hu
     have y0 : wr.cell? ⟨bx, ox + i' * 6, none⟩ = some (.int .i64 xk) := (hb4.cell (p := ⟨bx, ox + i' * 6 + 0, none⟩) hbx).trans (hcl 0 _ rfl)
     have y1 : wr.cell? ⟨bx, ox + i' * 6 + 1, none⟩ = some (.bool xb) := (hb4.cell (p := ⟨bx, ox + i' * 6 + 1, none⟩) hbx).trans (hcl 1 _ rfl)
     have y2 : wr.cell? ⟨bx, ox + i' * 6 + 2, none⟩ = some (.int .i64 xi) := (hb4.cell (p := ⟨bx, ox + i' * 6 + 2, none⟩) hbx).trans (hcl 2 _ rfl)
     have y3 : wr.cell? ⟨bx, ox + i' * 6 + 3, none⟩ = some (.string xs) := (hb4.cell (p := ⟨bx, ox + i' * 6 + 3, none⟩) hbx).trans (hcl 3 _ rfl)
     have y4 : wr.cell? ⟨bx, ox + i' * 6 + 4, none⟩ = some (.slice XA xn xc) := (hb4.cell (p := ⟨bx, ox + i' * 6 + 4, none⟩) hbx).trans (hcl 4 _ rfl)
     have y5 : wr.cell? ⟨bx, ox + i' * 6 + 5, none⟩ = some (.slice XB xn2 xc2) := (hb4.cell (p := ⟨bx, ox + i' * 6 + 5, none⟩) hbx).trans (hcl 5 _ rfl)
     have hrx6 := Lib.hid (RVl.at_ hrx hb4)
     clear hcl hx hrx hd
     have hu2 : fin = if chkV f x ≠ 0 then chkV f x else firstE ((l.drop (i' + 1)).map (chkV f)) := hu
     replace hu2 := Lib.hid hu2
     clear hu
     repeat' ((fail_if_success at_builtin); (first | go_skip | go_guarded | go_step))
     refine (ih.out (lv + 1) gj x xk xb xi xs XA xn xc XB xn2 xc2 _ (by omega) (by omega) hrx6.out).mono ?_
     rintro e w7 ⟨rfl, hb7⟩
     dsimp only
     have hO8 := hOr.kept hb7
     clear c0_0 c0_1 c0_2 c0_3 c0_4 c0_5 cf0
     have c0_0 := hO8.c 0 0
     have c0_1 := hO8.c 0 1
     have c0_2 := hO8.c 0 2
     have c0_3 := hO8.c 0 3
     have c0_4 := hO8.c 0 4
     have c0_5 := hO8.c 0 5
     have cf0 := hO8.fr 0
     have hb8 := hO8.below
     by_cases hce : chkV f x = 0
     ·
      have hf : fin = firstE ((l.drop (i' + 1)).map (chkV f)) := by rw [hu2.out, hce, if_neg (by decide)]
      replace hf := Lib.hid hf
      rw [hce]
      clear hce
      repeat' ((fail_if_success at_builtin); (first | go_skip | go_guarded | go_step))
      go_roundw
      case rel => exact ⟨i' + 1, by omega, by first | rfl | go_num, hO8, hf.out⟩
      case measure => (try go_num); (try simp [intOf]); (try omega)
     ·
      have hf : fin = chkV f x := by rw [hu2.out, if_pos hce]
      have hce2 : (chkV f x == 0) = false := by simpa using hce
      replace hf := Lib.hid hf
      clear hu2
      generalize chkV f x = ce at *
      repeat' ((fail_if_success at_builtin); (first | go_skip | go_guarded | go_step))
      go_ret
      exact ⟨ret_i6 hf.out.symm, hb8⟩
    ·
     obtain rfl : i' = n := by omega
     have i3 : ¬ (i' : Int) < (i' : Int) := by omega
     have hf : fin = 0 := by rw [hu, List.drop_of_length_le (by rw [← hn.out]; exact Nat.le_refl _)]; rfl
     replace hf := Lib.hid hf
     clear hu
     repeat' ((fail_if_success at_builtin); (first | go_skip | go_guarded | go_step))
     go_ret
     exact ⟨ret_i6 hf.out.symm, hb4⟩
set_option maxRecDepth 100000 in
set_option maxHeartbeats 2000000 in
theorem rvalidV_any (g : Nat) (v : Vl) (k : Int) (b : Bool) (i : Int) (s : ByteArray) (A : Option Addr) (n c : Nat) (A2 : Option Addr) (n2 c2 : Nat) (w : World) (h : RVl g w (fun b => b < w.heap.size) v [.int .i64 k, .bool b, .int .i64 i, .string s, .slice A n c, .slice A2 n2 c2]) :
  Calls Tryd.prog 25 #[.agg #[.int .i64 k, .bool b, .int .i64 i, .string s, .slice A n c, .slice A2 n2 c2]] w fun e w' => e = .returned (.int .i64 (validV v)) ∧ Below w.heap.size w w' := by
 go_enter Tryd.func25, Tryd.ntmps25
 go_upto_region 1 with (fail)
 generalize hx_ : World.alloc w _ = wo1
 have hO1 : OwnB w wo1 [(w.heap.size, [.int .i64 k, .bool b, .int .i64 i, .string s, .slice A n c, .slice A2 n2 c2])] := by rw [← hx_]; exact (OwnB.refl w).new #[.int .i64 k, .bool b, .int .i64 i, .string s, .slice A n c, .slice A2 n2 c2] _ (g := w.heap.size)
 clear hx_
 have c0_0 := hO1.c 0 0
 have c0_1 := hO1.c 0 1
 have c0_2 := hO1.c 0 2
 have c0_3 := hO1.c 0 3
 have c0_4 := hO1.c 0 4
 have c0_5 := hO1.c 0 5
 have cf0 := hO1.fr 0
 have hb := hO1.below
 have h1 := Lib.hid (RVl.at_ h hb)
 repeat' ((fail_if_success at_builtin); (first | go_skip | go_guarded | go_step))
 refine (rcheckV_any 16 1 g v k b i s A n c A2 n2 c2 _ (by decide) (by decide) h1.out).mono ?_
 rintro e w2 ⟨rfl, hb2⟩
 dsimp only
 have hb3 := hb.trans (hb2.mono hb.size)
 repeat' ((fail_if_success at_builtin); (first | go_skip | go_guarded | go_step))
 go_ret
 exact ⟨rfl, hb3⟩
end Go.Proofs.YtgcpffbaejodiaaDoor
