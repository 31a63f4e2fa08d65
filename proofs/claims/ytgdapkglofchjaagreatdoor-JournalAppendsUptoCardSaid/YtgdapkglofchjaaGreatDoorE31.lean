/- Joined: TyCk JnV3 RRec. -/
import Derived.Test.YtgdapkglofchjaaGreatDoorE12
import Derived.Test.YtgdapkglofchjaaGreatDoorE28
import Derived.Test.YtgdapkglofchjaaGreatDoorE30
set_option maxRecDepth 100000
set_option maxHeartbeats 6000000
set_option linter.unusedVariables false
namespace Go.Proofs.YtgdapkglofchjaaGreatDoor
open Go.RowKit
theorem rcheckV_any (f : Nat) : ∀ (lv : Int) (g : Nat) (v : Vl) (k : Int) (b : Bool) (i : Int) (s : ByteArray) (A : Option Addr) (n c : Nat) (A2 : Option Addr) (n2 c2 : Nat) (w : World), lv + (f : Int) = 17 → f ≤ 17 → RVl g w (fun b => b < w.heap.size) v [.int .i64 k, .bool b, .int .i64 i, .string s, .slice A n c, .slice A2 n2 c2] →
  Calls Tryz.prog 56 #[.agg #[.int .i64 k, .bool b, .int .i64 i, .string s, .slice A n c, .slice A2 n2 c2], .int .i64 lv] w fun e w' => e = .returned (.int .i64 (chkV f v)) ∧ Below w.heap.size w w' := by
 induction f with
 | zero =>
  intro lv g v k b i s A n c A2 n2 c2 w hlf hf17 h
  obtain rfl : lv = 17 := by omega
  have hv : chkV 0 v = 13 := rfl
  rw [hv]
  clear h hv hlf
  go_enter Tryz.func56, Tryz.ntmps56
  go_upto_region 1 with (fail)
  generalize hx_ : World.alloc w _ = wo1
  have hO1 : OwnB w wo1 [(w.heap.size, [.int .i64 k, .bool b, .int .i64 i, .string s, .slice A n c, .slice A2 n2 c2])] := by rw [← hx_]; exact (OwnB.refl w).new #[.int .i64 k, .bool b, .int .i64 i, .string s, .slice A n c, .slice A2 n2 c2] _ (g := w.heap.size)
  clear hx_
  have c0_0 := hO1.c 0 0
  have c0_1 := hO1.c 0 1
  have c0_2 := hO1.c 0 2
  have c0_3 := hO1.c 0 3
  have c0_4 := hO1.c 0 4
  have c0_5 := hO1.c 0 5
  have cf0 := hO1.fr 0
  have hb := hO1.below
  repeat' (first | go_skip | go_guarded | go_step)
  go_ret
  exact ⟨rfl, hb⟩
 | succ f ih =>
  intro lv g v k b i s A n c A2 n2 c2 w hlf hf17 h
  obtain ⟨gj, l, ks, rfl, rfl, hn, hn2, hs, hs2, hl2⟩ := vl_open h
  clear h
  have hlf : lv + (f : Int) = 16 := by omega
  have g16 : ¬ (16 : Int) < lv := by omega
  have iw : IntKind.i64.wrap (lv + 1) = lv + 1 := IntWalk.i64_in _ (by omega)
  obtain ⟨fin, hfin⟩ : ∃ fin, fin = chkV (f + 1) (.mk k b i s l ks) := ⟨_, rfl⟩
  rw [← hfin]
  obtain ⟨ow, how⟩ : ∃ ow, ow = ownZ (f + 1) k b i s n n2 (ascK none ks) := ⟨_, rfl⟩
  have hu : fin = if ow ≠ 0 then ow else firstE (l.map (chkV f)) := by
   rw [hfin, how, hn, hn2]
   rfl
  clear hfin
  unfold ownZ at how
  replace how := Lib.hid how
  replace hu := Lib.hid hu
  replace hn := Lib.hid hn
  replace hn2 := Lib.hid hn2
  replace hs := Lib.hid hs
  replace hs2 := Lib.hid hs2
  replace ih := Lib.hid ih
  by_cases hk5 : k = 5
  ·subst hk5
   go_enter Tryz.func56, Tryz.ntmps56
   go_upto_region 1 with (fail)
   generalize hx_ : World.alloc w _ = wo1
   have hO1 : OwnB w wo1 [(w.heap.size, [.int .i64 5, .bool b, .int .i64 i, .string s, .slice A n c, .slice A2 n2 c2])] := by rw [← hx_]; exact (OwnB.refl w).new #[.int .i64 5, .bool b, .int .i64 i, .string s, .slice A n c, .slice A2 n2 c2] _ (g := w.heap.size)
   clear hx_
   have c0_0 := hO1.c 0 0
   have c0_1 := hO1.c 0 1
   have c0_2 := hO1.c 0 2
   have c0_3 := hO1.c 0 3
   have c0_4 := hO1.c 0 4
   have c0_5 := hO1.c 0 5
   have cf0 := hO1.fr 0
   repeat' (first | go_skip | go_guarded | go_step)
   refine (plain_any 5 b i s A n c A2 n2 c2 _).mono ?_
   rintro e w2 ⟨rfl, hb2⟩
   dsimp only
   have hO2 : OwnB w w2 [(w.heap.size, [.int .i64 5, .bool b, .int .i64 i, .string s, .slice A n c, .slice A2 n2 c2])] := hO1.kept hb2
   clear c0_0 c0_1 c0_2 c0_3 c0_4 c0_5 cf0 hO1
   have c0_0 := hO2.c 0 0
   have c0_1 := hO2.c 0 1
   have c0_2 := hO2.c 0 2
   have c0_3 := hO2.c 0 3
   have c0_4 := hO2.c 0 4
   have c0_5 := hO2.c 0 5
   have cf0 := hO2.fr 0
   generalize hun : unusedZ 5 b i s n n2 = un at *
   replace hun := Lib.hid hun
   cases un with
   | false =>
    have ho : ow = 1 := by rw [how.out, if_neg (by omega), if_pos (by right; right; rfl)]
    have hf : fin = 1 := by rw [hu.out, ho]; rfl
    replace hf := Lib.hid hf
    clear hu ho how
    have hb := hO2.below
    repeat' (first | go_skip | go_guarded | go_step)
    go_ret
    exact ⟨ret_i6 hf.out.symm, hb⟩
   | true =>
    by_cases h1 : i < -9007199254740992
    ·have ho : ow = 2 := by rw [how.out, if_neg (by omega), if_neg (by simp), if_pos (by omega)]
     have hf : fin = 2 := by rw [hu.out, ho]; rfl
     replace hf := Lib.hid hf
     clear hu ho how
     have hb := hO2.below
     repeat' (first | go_skip | go_guarded | go_step)
     go_ret
     exact ⟨ret_i6 hf.out.symm, hb⟩
    by_cases h2 : 9007199254740992 < i
    ·have ho : ow = 2 := by rw [how.out, if_neg (by omega), if_neg (by simp), if_pos (by omega)]
     have hf : fin = 2 := by rw [hu.out, ho]; rfl
     replace hf := Lib.hid hf
     clear hu ho how
     have hb := hO2.below
     repeat' (first | go_skip | go_guarded | go_step)
     go_ret
     exact ⟨ret_i6 hf.out.symm, hb⟩
    by_cases h3 : 4096 < s.size
    ·have g3 : (4096 : Int) < (s.size : Int) := by omega
     have ho : ow = 3 := by rw [how.out, if_neg (by omega), if_neg (by simp), if_neg (by omega), if_pos (by omega)]
     have hf : fin = 3 := by rw [hu.out, ho]; rfl
     replace hf := Lib.hid hf
     clear hu ho how
     have hb := hO2.below
     repeat' (first | go_skip | go_guarded | go_step)
     go_ret
     exact ⟨ret_i6 hf.out.symm, hb⟩
    have g3 : ¬ (4096 : Int) < (s.size : Int) := by omega
    by_cases h4 : 1024 < n
    ·have g4 : (1024 : Int) < (n : Int) := by omega
     have ho : ow = 3 := by rw [how.out, if_neg (by omega), if_neg (by simp), if_neg (by omega), if_pos (by omega)]
     have hf : fin = 3 := by rw [hu.out, ho]; rfl
     replace hf := Lib.hid hf
     clear hu ho how
     have hb := hO2.below
     repeat' (first | go_skip | go_guarded | go_step)
     go_ret
     exact ⟨ret_i6 hf.out.symm, hb⟩
    have g4 : ¬ (1024 : Int) < (n : Int) := by omega
    by_cases h5 : 1024 < n2
    ·have g5 : (1024 : Int) < (n2 : Int) := by omega
     have ho : ow = 3 := by rw [how.out, if_neg (by omega), if_neg (by simp), if_neg (by omega), if_pos (by omega)]
     have hf : fin = 3 := by rw [hu.out, ho]; rfl
     replace hf := Lib.hid hf
     clear hu ho how
     have hb := hO2.below
     repeat' (first | go_skip | go_guarded | go_step)
     go_ret
     exact ⟨ret_i6 hf.out.symm, hb⟩
    have g5 : ¬ (1024 : Int) < (n2 : Int) := by omega
    have hs3 : SeqP w2 (fun b => b < w2.heap.size) 1 A2 n2 (ks.map Value.string) := hs2.out.map (fun _ hp => hO2.below.cell hp) (fun _ hp => Nat.lt_of_lt_of_le hp hO2.below.size)
    replace hs3 := Lib.hid hs3
    repeat' (first | go_skip | go_guarded | go_step)
    refine (asc_any 5 b i s A n c A2 n2 c2 ks _ hn2.out (by omega) hs3.out).mono ?_
    rintro e w3 ⟨rfl, hb3⟩
    dsimp only
    have hO3 : OwnB w w3 [(w.heap.size, [.int .i64 5, .bool b, .int .i64 i, .string s, .slice A n c, .slice A2 n2 c2])] := hO2.kept hb3
    clear c0_0 c0_1 c0_2 c0_3 c0_4 c0_5 cf0 hO2
    have c0_0 := hO3.c 0 0
    have c0_1 := hO3.c 0 1
    have c0_2 := hO3.c 0 2
    have c0_3 := hO3.c 0 3
    have c0_4 := hO3.c 0 4
    have c0_5 := hO3.c 0 5
    have cf0 := hO3.fr 0
    generalize hky : (decide (n2 = n) && ascK none ks) = ky at *
    replace hky := Lib.hid hky
    cases ky with
    | false =>
     have ho : ow = 1 := by rw [how.out, if_neg (by omega), if_neg (by simp), if_neg (by omega), if_neg (by omega), if_pos ⟨rfl, rfl⟩]
     have hf : fin = 1 := by rw [hu.out, ho]; rfl
     replace hf := Lib.hid hf
     clear hu ho how
     have hb := hO3.below
     repeat' (first | go_skip | go_guarded | go_step)
     go_ret
     exact ⟨ret_i6 hf.out.symm, hb⟩
    | true =>
     by_cases h0 : n = 0 ∧ f = 0
     ·obtain ⟨h0, h01⟩ := h0
      subst h0
      subst h01
      obtain rfl : lv = 16 := by omega
      have ho : ow = 13 := by rw [how.out, if_neg (by omega), if_neg (by simp), if_neg (by omega), if_neg (by omega), if_neg (by simp), if_pos ⟨by omega, rfl, rfl⟩]
      have hf : fin = 13 := by rw [hu.out, ho]; rfl
      replace hf := Lib.hid hf
      clear hu ho how
      have hb := hO3.below
      repeat' (first | go_skip | go_guarded | go_step)
      go_ret
      exact ⟨ret_i6 hf.out.symm, hb⟩
     by_cases h0 : n = 0
     ·subst h0
      have gl : (lv == 16) = false := by simp; omega
      have ho : ow = 0 := by rw [how.out, if_neg (by omega), if_neg (by simp), if_neg (by omega), if_neg (by omega), if_neg (by simp), if_neg (by omega)]
      have hf : fin = 0 := by
       have hl0 : l = [] := List.eq_nil_of_length_eq_zero hn.out.symm
       rw [hu.out, ho, if_neg (by decide), hl0]
       rfl
      replace hf := Lib.hid hf
      clear hu ho how
      repeat' (first | go_skip | go_guarded | go_step)
      go_loopw [5] (fun u5 wr => u5 = .int .i64 0 ∧ OwnB w wr [(w.heap.size, [.int .i64 5, .bool b, .int .i64 i, .string s, .slice A 0 c, .slice A2 n2 c2])]) (fun _ _ => 0)
      case atStart => exact ⟨rfl, hO3⟩
      case round =>
       clear c0_0 c0_1 c0_2 c0_3 c0_4 c0_5 cf0 hO3
       obtain ⟨rfl, hOr⟩ := hrel
       have c0_0 := hOr.c 0 0
       have c0_1 := hOr.c 0 1
       have c0_2 := hOr.c 0 2
       have c0_3 := hOr.c 0 3
       have c0_4 := hOr.c 0 4
       have c0_5 := hOr.c 0 5
       have cf0 := hOr.fr 0
       have hb4 := hOr.below
       repeat' (first | go_skip | go_guarded | go_step)
       go_ret
       exact ⟨ret_i6 hf.out.symm, hb4⟩
     have g0 : ((n : Int) == 0) = false := by simp; omega
     have ho : ow = 0 := by rw [how.out, if_neg (by omega), if_neg (by simp), if_neg (by omega), if_neg (by omega), if_neg (by simp), if_neg (by omega)]
     have hfl : fin = firstE (l.map (chkV f)) := by rw [hu.out, ho, if_neg (by decide)]
     clear hu ho how
     repeat' (first | go_skip | go_guarded | go_step)
     go_loopw [5] (fun u5 wr => ∃ i' : Nat, i' ≤ n ∧ u5 = .int .i64 (i' : Int) ∧ OwnB w wr [(w.heap.size, [.int .i64 5, .bool b, .int .i64 i, .string s, .slice A n c, .slice A2 n2 c2])] ∧ fin = firstE ((l.drop i').map (chkV f))) (fun u5 _ => n - (intOf u5).toNat)
     case atStart => exact ⟨0, by omega, rfl, hO3, hfl⟩
     case round =>
      clear c0_0 c0_1 c0_2 c0_3 c0_4 c0_5 cf0 hO3 hfl
      obtain ⟨i', hi, rfl, hOr, hu⟩ := hrel
      have c0_0 := hOr.c 0 0
      have c0_1 := hOr.c 0 1
      have c0_2 := hOr.c 0 2
      have c0_3 := hOr.c 0 3
      have c0_4 := hOr.c 0 4
      have c0_5 := hOr.c 0 5
      have cf0 := hOr.fr 0
      have i1 : (0 : Int) ≤ (i' : Int) := by omega
      have i2 : IntKind.i64.wrap ((i' : Int) + 1) = ((i' + 1 : Nat) : Int) := by rw [IntWalk.i64_in _ (by omega)]; omega
      have hb4 := hOr.below
      by_cases hlt : i' < n
      ·have i3 : (i' : Int) < (n : Int) := by omega
       obtain ⟨x, hx⟩ : ∃ x, l[i']? = some x := ⟨_, List.getElem?_eq_getElem (by rw [← hn.out]; exact hlt)⟩
       obtain ⟨bx, ox, cx, rfl, hbx, hlx, hrx, hcl⟩ := hs.out.at_ hx
       obtain ⟨xk, xb, xi, xs, XA, xn, xc, XB, xn2, xc2, rfl⟩ := vl_form hrx
       have hd : l.drop i' = x :: l.drop (i' + 1) := by
        obtain ⟨h1, h2⟩ := List.getElem?_eq_some_iff.1 hx
        rw [List.drop_eq_getElem_cons h1, h2]
       rw [hd, List.map_cons] at hu
       have y0 : wr.cell? ⟨bx, ox + i' * 6, none⟩ = some (.int .i64 xk) := (hb4.cell (p := ⟨bx, ox + i' * 6 + 0, none⟩) hbx).trans (hcl 0 _ rfl)
       have y1 : wr.cell? ⟨bx, ox + i' * 6 + 1, none⟩ = some (.bool xb) := (hb4.cell (p := ⟨bx, ox + i' * 6 + 1, none⟩) hbx).trans (hcl 1 _ rfl)
       have y2 : wr.cell? ⟨bx, ox + i' * 6 + 2, none⟩ = some (.int .i64 xi) := (hb4.cell (p := ⟨bx, ox + i' * 6 + 2, none⟩) hbx).trans (hcl 2 _ rfl)
       have y3 : wr.cell? ⟨bx, ox + i' * 6 + 3, none⟩ = some (.string xs) := (hb4.cell (p := ⟨bx, ox + i' * 6 + 3, none⟩) hbx).trans (hcl 3 _ rfl)
       have y4 : wr.cell? ⟨bx, ox + i' * 6 + 4, none⟩ = some (.slice XA xn xc) := (hb4.cell (p := ⟨bx, ox + i' * 6 + 4, none⟩) hbx).trans (hcl 4 _ rfl)
       have y5 : wr.cell? ⟨bx, ox + i' * 6 + 5, none⟩ = some (.slice XB xn2 xc2) := (hb4.cell (p := ⟨bx, ox + i' * 6 + 5, none⟩) hbx).trans (hcl 5 _ rfl)
       have hrx6 := Lib.hid (RVl.at_ hrx hb4)
       clear hcl hx hrx hd
       have hu2 : fin = if chkV f x ≠ 0 then chkV f x else firstE ((l.drop (i' + 1)).map (chkV f)) := hu
       replace hu2 := Lib.hid hu2
       clear hu
       repeat' (first | go_skip | go_guarded | go_step)
       refine (ih.out (lv + 1) gj x xk xb xi xs XA xn xc XB xn2 xc2 _ (by omega) (by omega) hrx6.out).mono ?_
       rintro e w7 ⟨rfl, hb7⟩
       dsimp only
       have hO8 := hOr.kept hb7
       clear c0_0 c0_1 c0_2 c0_3 c0_4 c0_5 cf0
       have c0_0 := hO8.c 0 0
       have c0_1 := hO8.c 0 1
       have c0_2 := hO8.c 0 2
       have c0_3 := hO8.c 0 3
       have c0_4 := hO8.c 0 4
       have c0_5 := hO8.c 0 5
       have cf0 := hO8.fr 0
       have hb8 := hO8.below
       by_cases hce : chkV f x = 0
       ·have hf : fin = firstE ((l.drop (i' + 1)).map (chkV f)) := by rw [hu2.out, hce, if_neg (by decide)]
        replace hf := Lib.hid hf
        rw [hce]
        clear hce
        repeat' (first | go_skip | go_guarded | go_step)
        go_roundw
        case rel => exact ⟨i' + 1, by omega, by first | rfl | go_num, hO8, hf.out⟩
        case measure => (try go_num); (try simp [intOf]); (try omega)
       ·have hf : fin = chkV f x := by rw [hu2.out, if_pos hce]
        have hce2 : (chkV f x == 0) = false := by simpa using hce
        replace hf := Lib.hid hf
        clear hu2
        generalize chkV f x = ce at *
        repeat' (first | go_skip | go_guarded | go_step)
        go_ret
        exact ⟨ret_i6 hf.out.symm, hb8⟩
      ·obtain rfl : i' = n := by omega
       have i3 : ¬ (i' : Int) < (i' : Int) := by omega
       have hf : fin = 0 := by rw [hu, List.drop_of_length_le (by rw [← hn.out]; exact Nat.le_refl _)]; rfl
       replace hf := Lib.hid hf
       clear hu
       repeat' (first | go_skip | go_guarded | go_step)
       go_ret
       exact ⟨ret_i6 hf.out.symm, hb4⟩
  by_cases hk4 : k = 4
  ·subst hk4
   go_enter Tryz.func56, Tryz.ntmps56
   go_upto_region 1 with (fail)
   generalize hx_ : World.alloc w _ = wo1
   have hO1 : OwnB w wo1 [(w.heap.size, [.int .i64 4, .bool b, .int .i64 i, .string s, .slice A n c, .slice A2 n2 c2])] := by rw [← hx_]; exact (OwnB.refl w).new #[.int .i64 4, .bool b, .int .i64 i, .string s, .slice A n c, .slice A2 n2 c2] _ (g := w.heap.size)
   clear hx_
   have c0_0 := hO1.c 0 0
   have c0_1 := hO1.c 0 1
   have c0_2 := hO1.c 0 2
   have c0_3 := hO1.c 0 3
   have c0_4 := hO1.c 0 4
   have c0_5 := hO1.c 0 5
   have cf0 := hO1.fr 0
   repeat' (first | go_skip | go_guarded | go_step)
   refine (plain_any 4 b i s A n c A2 n2 c2 _).mono ?_
   rintro e w2 ⟨rfl, hb2⟩
   dsimp only
   have hO2 : OwnB w w2 [(w.heap.size, [.int .i64 4, .bool b, .int .i64 i, .string s, .slice A n c, .slice A2 n2 c2])] := hO1.kept hb2
   clear c0_0 c0_1 c0_2 c0_3 c0_4 c0_5 cf0 hO1
   have c0_0 := hO2.c 0 0
   have c0_1 := hO2.c 0 1
   have c0_2 := hO2.c 0 2
   have c0_3 := hO2.c 0 3
   have c0_4 := hO2.c 0 4
   have c0_5 := hO2.c 0 5
   have cf0 := hO2.fr 0
   generalize hun : unusedZ 4 b i s n n2 = un at *
   replace hun := Lib.hid hun
   cases un with
   | false =>
    have ho : ow = 1 := by rw [how.out, if_neg (by omega), if_pos (by right; right; rfl)]
    have hf : fin = 1 := by rw [hu.out, ho]; rfl
    replace hf := Lib.hid hf
    clear hu ho how
    have hb := hO2.below
    repeat' (first | go_skip | go_guarded | go_step)
    go_ret
    exact ⟨ret_i6 hf.out.symm, hb⟩
   | true =>
    by_cases h1 : i < -9007199254740992
    ·have ho : ow = 2 := by rw [how.out, if_neg (by omega), if_neg (by simp), if_pos (by omega)]
     have hf : fin = 2 := by rw [hu.out, ho]; rfl
     replace hf := Lib.hid hf
     clear hu ho how
     have hb := hO2.below
     repeat' (first | go_skip | go_guarded | go_step)
     go_ret
     exact ⟨ret_i6 hf.out.symm, hb⟩
    by_cases h2 : 9007199254740992 < i
    ·have ho : ow = 2 := by rw [how.out, if_neg (by omega), if_neg (by simp), if_pos (by omega)]
     have hf : fin = 2 := by rw [hu.out, ho]; rfl
     replace hf := Lib.hid hf
     clear hu ho how
     have hb := hO2.below
     repeat' (first | go_skip | go_guarded | go_step)
     go_ret
     exact ⟨ret_i6 hf.out.symm, hb⟩
    by_cases h3 : 4096 < s.size
    ·have g3 : (4096 : Int) < (s.size : Int) := by omega
     have ho : ow = 3 := by rw [how.out, if_neg (by omega), if_neg (by simp), if_neg (by omega), if_pos (by omega)]
     have hf : fin = 3 := by rw [hu.out, ho]; rfl
     replace hf := Lib.hid hf
     clear hu ho how
     have hb := hO2.below
     repeat' (first | go_skip | go_guarded | go_step)
     go_ret
     exact ⟨ret_i6 hf.out.symm, hb⟩
    have g3 : ¬ (4096 : Int) < (s.size : Int) := by omega
    by_cases h4 : 1024 < n
    ·have g4 : (1024 : Int) < (n : Int) := by omega
     have ho : ow = 3 := by rw [how.out, if_neg (by omega), if_neg (by simp), if_neg (by omega), if_pos (by omega)]
     have hf : fin = 3 := by rw [hu.out, ho]; rfl
     replace hf := Lib.hid hf
     clear hu ho how
     have hb := hO2.below
     repeat' (first | go_skip | go_guarded | go_step)
     go_ret
     exact ⟨ret_i6 hf.out.symm, hb⟩
    have g4 : ¬ (1024 : Int) < (n : Int) := by omega
    by_cases h5 : 1024 < n2
    ·have g5 : (1024 : Int) < (n2 : Int) := by omega
     have ho : ow = 3 := by rw [how.out, if_neg (by omega), if_neg (by simp), if_neg (by omega), if_pos (by omega)]
     have hf : fin = 3 := by rw [hu.out, ho]; rfl
     replace hf := Lib.hid hf
     clear hu ho how
     have hb := hO2.below
     repeat' (first | go_skip | go_guarded | go_step)
     go_ret
     exact ⟨ret_i6 hf.out.symm, hb⟩
    have g5 : ¬ (1024 : Int) < (n2 : Int) := by omega
    by_cases h0 : n = 0 ∧ f = 0
    ·obtain ⟨h0, h01⟩ := h0
     subst h0
     subst h01
     obtain rfl : lv = 16 := by omega
     have ho : ow = 13 := by rw [how.out, if_neg (by omega), if_neg (by simp), if_neg (by omega), if_neg (by omega), if_neg (by omega), if_pos ⟨by omega, rfl, rfl⟩]
     have hf : fin = 13 := by rw [hu.out, ho]; rfl
     replace hf := Lib.hid hf
     clear hu ho how
     have hb := hO2.below
     repeat' (first | go_skip | go_guarded | go_step)
     go_ret
     exact ⟨ret_i6 hf.out.symm, hb⟩
    by_cases h0 : n = 0
    ·subst h0
     have gl : (lv == 16) = false := by simp; omega
     have ho : ow = 0 := by rw [how.out, if_neg (by omega), if_neg (by simp), if_neg (by omega), if_neg (by omega), if_neg (by omega), if_neg (by omega)]
     have hf : fin = 0 := by
      have hl0 : l = [] := List.eq_nil_of_length_eq_zero hn.out.symm
      rw [hu.out, ho, if_neg (by decide), hl0]
      rfl
     replace hf := Lib.hid hf
     clear hu ho how
     repeat' (first | go_skip | go_guarded | go_step)
     go_loopw [5] (fun u5 wr => u5 = .int .i64 0 ∧ OwnB w wr [(w.heap.size, [.int .i64 4, .bool b, .int .i64 i, .string s, .slice A 0 c, .slice A2 n2 c2])]) (fun _ _ => 0)
     case atStart => exact ⟨rfl, hO2⟩
     case round =>
      clear c0_0 c0_1 c0_2 c0_3 c0_4 c0_5 cf0 hO2
      obtain ⟨rfl, hOr⟩ := hrel
      have c0_0 := hOr.c 0 0
      have c0_1 := hOr.c 0 1
      have c0_2 := hOr.c 0 2
      have c0_3 := hOr.c 0 3
      have c0_4 := hOr.c 0 4
      have c0_5 := hOr.c 0 5
      have cf0 := hOr.fr 0
      have hb4 := hOr.below
      repeat' (first | go_skip | go_guarded | go_step)
      go_ret
      exact ⟨ret_i6 hf.out.symm, hb4⟩
    have g0 : ((n : Int) == 0) = false := by simp; omega
    have ho : ow = 0 := by rw [how.out, if_neg (by omega), if_neg (by simp), if_neg (by omega), if_neg (by omega), if_neg (by omega), if_neg (by omega)]
    have hfl : fin = firstE (l.map (chkV f)) := by rw [hu.out, ho, if_neg (by decide)]
    clear hu ho how
    repeat' (first | go_skip | go_guarded | go_step)
    go_loopw [5] (fun u5 wr => ∃ i' : Nat, i' ≤ n ∧ u5 = .int .i64 (i' : Int) ∧ OwnB w wr [(w.heap.size, [.int .i64 4, .bool b, .int .i64 i, .string s, .slice A n c, .slice A2 n2 c2])] ∧ fin = firstE ((l.drop i').map (chkV f))) (fun u5 _ => n - (intOf u5).toNat)
    case atStart => exact ⟨0, by omega, rfl, hO2, hfl⟩
    case round =>
     clear c0_0 c0_1 c0_2 c0_3 c0_4 c0_5 cf0 hO2 hfl
     obtain ⟨i', hi, rfl, hOr, hu⟩ := hrel
     have c0_0 := hOr.c 0 0
     have c0_1 := hOr.c 0 1
     have c0_2 := hOr.c 0 2
     have c0_3 := hOr.c 0 3
     have c0_4 := hOr.c 0 4
     have c0_5 := hOr.c 0 5
     have cf0 := hOr.fr 0
     have i1 : (0 : Int) ≤ (i' : Int) := by omega
     have i2 : IntKind.i64.wrap ((i' : Int) + 1) = ((i' + 1 : Nat) : Int) := by rw [IntWalk.i64_in _ (by omega)]; omega
     have hb4 := hOr.below
     by_cases hlt : i' < n
     ·have i3 : (i' : Int) < (n : Int) := by omega
      obtain ⟨x, hx⟩ : ∃ x, l[i']? = some x := ⟨_, List.getElem?_eq_getElem (by rw [← hn.out]; exact hlt)⟩
      obtain ⟨bx, ox, cx, rfl, hbx, hlx, hrx, hcl⟩ := hs.out.at_ hx
      obtain ⟨xk, xb, xi, xs, XA, xn, xc, XB, xn2, xc2, rfl⟩ := vl_form hrx
      have hd : l.drop i' = x :: l.drop (i' + 1) := by
       obtain ⟨h1, h2⟩ := List.getElem?_eq_some_iff.1 hx
       rw [List.drop_eq_getElem_cons h1, h2]
      rw [hd, List.map_cons] at hu
      have y0 : wr.cell? ⟨bx, ox + i' * 6, none⟩ = some (.int .i64 xk) := (hb4.cell (p := ⟨bx, ox + i' * 6 + 0, none⟩) hbx).trans (hcl 0 _ rfl)
      have y1 : wr.cell? ⟨bx, ox + i' * 6 + 1, none⟩ = some (.bool xb) := (hb4.cell (p := ⟨bx, ox + i' * 6 + 1, none⟩) hbx).trans (hcl 1 _ rfl)
      have y2 : wr.cell? ⟨bx, ox + i' * 6 + 2, none⟩ = some (.int .i64 xi) := (hb4.cell (p := ⟨bx, ox + i' * 6 + 2, none⟩) hbx).trans (hcl 2 _ rfl)
      have y3 : wr.cell? ⟨bx, ox + i' * 6 + 3, none⟩ = some (.string xs) := (hb4.cell (p := ⟨bx, ox + i' * 6 + 3, none⟩) hbx).trans (hcl 3 _ rfl)
      have y4 : wr.cell? ⟨bx, ox + i' * 6 + 4, none⟩ = some (.slice XA xn xc) := (hb4.cell (p := ⟨bx, ox + i' * 6 + 4, none⟩) hbx).trans (hcl 4 _ rfl)
      have y5 : wr.cell? ⟨bx, ox + i' * 6 + 5, none⟩ = some (.slice XB xn2 xc2) := (hb4.cell (p := ⟨bx, ox + i' * 6 + 5, none⟩) hbx).trans (hcl 5 _ rfl)
      have hrx6 := Lib.hid (RVl.at_ hrx hb4)
      clear hcl hx hrx hd
      have hu2 : fin = if chkV f x ≠ 0 then chkV f x else firstE ((l.drop (i' + 1)).map (chkV f)) := hu
      replace hu2 := Lib.hid hu2
      clear hu
      repeat' (first | go_skip | go_guarded | go_step)
      refine (ih.out (lv + 1) gj x xk xb xi xs XA xn xc XB xn2 xc2 _ (by omega) (by omega) hrx6.out).mono ?_
      rintro e w7 ⟨rfl, hb7⟩
      dsimp only
      have hO8 := hOr.kept hb7
      clear c0_0 c0_1 c0_2 c0_3 c0_4 c0_5 cf0
      have c0_0 := hO8.c 0 0
      have c0_1 := hO8.c 0 1
      have c0_2 := hO8.c 0 2
      have c0_3 := hO8.c 0 3
      have c0_4 := hO8.c 0 4
      have c0_5 := hO8.c 0 5
      have cf0 := hO8.fr 0
      have hb8 := hO8.below
      by_cases hce : chkV f x = 0
      ·have hf : fin = firstE ((l.drop (i' + 1)).map (chkV f)) := by rw [hu2.out, hce, if_neg (by decide)]
       replace hf := Lib.hid hf
       rw [hce]
       clear hce
       repeat' (first | go_skip | go_guarded | go_step)
       go_roundw
       case rel => exact ⟨i' + 1, by omega, by first | rfl | go_num, hO8, hf.out⟩
       case measure => (try go_num); (try simp [intOf]); (try omega)
      ·have hf : fin = chkV f x := by rw [hu2.out, if_pos hce]
       have hce2 : (chkV f x == 0) = false := by simpa using hce
       replace hf := Lib.hid hf
       clear hu2
       generalize chkV f x = ce at *
       repeat' (first | go_skip | go_guarded | go_step)
       go_ret
       exact ⟨ret_i6 hf.out.symm, hb8⟩
     ·obtain rfl : i' = n := by omega
      have i3 : ¬ (i' : Int) < (i' : Int) := by omega
      have hf : fin = 0 := by rw [hu, List.drop_of_length_le (by rw [← hn.out]; exact Nat.le_refl _)]; rfl
      replace hf := Lib.hid hf
      clear hu
      repeat' (first | go_skip | go_guarded | go_step)
      go_ret
      exact ⟨ret_i6 hf.out.symm, hb4⟩
  go_enter Tryz.func56, Tryz.ntmps56
  go_upto_region 1 with (fail)
  generalize hx_ : World.alloc w _ = wo1
  have hO1 : OwnB w wo1 [(w.heap.size, [.int .i64 k, .bool b, .int .i64 i, .string s, .slice A n c, .slice A2 n2 c2])] := by rw [← hx_]; exact (OwnB.refl w).new #[.int .i64 k, .bool b, .int .i64 i, .string s, .slice A n c, .slice A2 n2 c2] _ (g := w.heap.size)
  clear hx_
  have c0_0 := hO1.c 0 0
  have c0_1 := hO1.c 0 1
  have c0_2 := hO1.c 0 2
  have c0_3 := hO1.c 0 3
  have c0_4 := hO1.c 0 4
  have c0_5 := hO1.c 0 5
  have cf0 := hO1.fr 0
  by_cases hk0 : k < 0
  ·have ho : ow = 1 := by rw [how.out, if_neg (by omega), if_pos (by omega)]
   have hf : fin = 1 := by rw [hu.out, ho]; rfl
   replace hf := Lib.hid hf
   clear hu ho how
   have hb := hO1.below
   repeat' (first | go_skip | go_guarded | go_step)
   go_ret
   exact ⟨ret_i6 hf.out.symm, hb⟩
  by_cases hk6 : 5 < k
  ·have ho : ow = 1 := by rw [how.out, if_neg (by omega), if_pos (by omega)]
   have hf : fin = 1 := by rw [hu.out, ho]; rfl
   replace hf := Lib.hid hf
   clear hu ho how
   have hb := hO1.below
   repeat' (first | go_skip | go_guarded | go_step)
   go_ret
   exact ⟨ret_i6 hf.out.symm, hb⟩
  have hk7 : ¬ 4 ≤ k := by omega
  repeat' (first | go_skip | go_guarded | go_step)
  refine (plain_any k b i s A n c A2 n2 c2 _).mono ?_
  rintro e w2 ⟨rfl, hb2⟩
  dsimp only
  have hO2 : OwnB w w2 [(w.heap.size, [.int .i64 k, .bool b, .int .i64 i, .string s, .slice A n c, .slice A2 n2 c2])] := hO1.kept hb2
  clear c0_0 c0_1 c0_2 c0_3 c0_4 c0_5 cf0 hO1
  have c0_0 := hO2.c 0 0
  have c0_1 := hO2.c 0 1
  have c0_2 := hO2.c 0 2
  have c0_3 := hO2.c 0 3
  have c0_4 := hO2.c 0 4
  have c0_5 := hO2.c 0 5
  have cf0 := hO2.fr 0
  generalize hun : unusedZ k b i s n n2 = un at *
  replace hun := Lib.hid hun
  cases un with
  | false =>
   have ho : ow = 1 := by rw [how.out, if_neg (by omega), if_pos (by right; right; rfl)]
   have hf : fin = 1 := by rw [hu.out, ho]; rfl
   replace hf := Lib.hid hf
   clear hu ho how
   have hb := hO2.below
   repeat' (first | go_skip | go_guarded | go_step)
   go_ret
   exact ⟨ret_i6 hf.out.symm, hb⟩
  | true =>
   by_cases h1 : i < -9007199254740992
   ·have ho : ow = 2 := by rw [how.out, if_neg (by omega), if_neg (by simp; omega), if_pos (by omega)]
    have hf : fin = 2 := by rw [hu.out, ho]; rfl
    replace hf := Lib.hid hf
    clear hu ho how
    have hb := hO2.below
    repeat' (first | go_skip | go_guarded | go_step)
    go_ret
    exact ⟨ret_i6 hf.out.symm, hb⟩
   by_cases h2 : 9007199254740992 < i
   ·have ho : ow = 2 := by rw [how.out, if_neg (by omega), if_neg (by simp; omega), if_pos (by omega)]
    have hf : fin = 2 := by rw [hu.out, ho]; rfl
    replace hf := Lib.hid hf
    clear hu ho how
    have hb := hO2.below
    repeat' (first | go_skip | go_guarded | go_step)
    go_ret
    exact ⟨ret_i6 hf.out.symm, hb⟩
   by_cases h3 : 4096 < s.size
   ·have g3 : (4096 : Int) < (s.size : Int) := by omega
    have ho : ow = 3 := by rw [how.out, if_neg (by omega), if_neg (by simp; omega), if_neg (by omega), if_pos (by omega)]
    have hf : fin = 3 := by rw [hu.out, ho]; rfl
    replace hf := Lib.hid hf
    clear hu ho how
    have hb := hO2.below
    repeat' (first | go_skip | go_guarded | go_step)
    go_ret
    exact ⟨ret_i6 hf.out.symm, hb⟩
   have g3 : ¬ (4096 : Int) < (s.size : Int) := by omega
   by_cases h4 : 1024 < n
   ·have g4 : (1024 : Int) < (n : Int) := by omega
    have ho : ow = 3 := by rw [how.out, if_neg (by omega), if_neg (by simp; omega), if_neg (by omega), if_pos (by omega)]
    have hf : fin = 3 := by rw [hu.out, ho]; rfl
    replace hf := Lib.hid hf
    clear hu ho how
    have hb := hO2.below
    repeat' (first | go_skip | go_guarded | go_step)
    go_ret
    exact ⟨ret_i6 hf.out.symm, hb⟩
   have g4 : ¬ (1024 : Int) < (n : Int) := by omega
   by_cases h5 : 1024 < n2
   ·have g5 : (1024 : Int) < (n2 : Int) := by omega
    have ho : ow = 3 := by rw [how.out, if_neg (by omega), if_neg (by simp; omega), if_neg (by omega), if_pos (by omega)]
    have hf : fin = 3 := by rw [hu.out, ho]; rfl
    replace hf := Lib.hid hf
    clear hu ho how
    have hb := hO2.below
    repeat' (first | go_skip | go_guarded | go_step)
    go_ret
    exact ⟨ret_i6 hf.out.symm, hb⟩
   have g5 : ¬ (1024 : Int) < (n2 : Int) := by omega
   have ho : ow = 0 := by rw [how.out, if_neg (by omega), if_neg (by simp; omega), if_neg (by omega), if_neg (by omega), if_neg (by omega), if_neg (by omega)]
   have hfl : fin = firstE (l.map (chkV f)) := by rw [hu.out, ho, if_neg (by decide)]
   clear hu ho how
   repeat' (first | go_skip | go_guarded | go_step)
   go_loopw [5] (fun u5 wr => ∃ i' : Nat, i' ≤ n ∧ u5 = .int .i64 (i' : Int) ∧ OwnB w wr [(w.heap.size, [.int .i64 k, .bool b, .int .i64 i, .string s, .slice A n c, .slice A2 n2 c2])] ∧ fin = firstE ((l.drop i').map (chkV f))) (fun u5 _ => n - (intOf u5).toNat)
   case atStart => exact ⟨0, by omega, rfl, hO2, hfl⟩
   case round =>
    clear c0_0 c0_1 c0_2 c0_3 c0_4 c0_5 cf0 hO2 hfl
    obtain ⟨i', hi, rfl, hOr, hu⟩ := hrel
    have c0_0 := hOr.c 0 0
    have c0_1 := hOr.c 0 1
    have c0_2 := hOr.c 0 2
    have c0_3 := hOr.c 0 3
    have c0_4 := hOr.c 0 4
    have c0_5 := hOr.c 0 5
    have cf0 := hOr.fr 0
    have i1 : (0 : Int) ≤ (i' : Int) := by omega
    have i2 : IntKind.i64.wrap ((i' : Int) + 1) = ((i' + 1 : Nat) : Int) := by rw [IntWalk.i64_in _ (by omega)]; omega
    have hb4 := hOr.below
    by_cases hlt : i' < n
    ·have i3 : (i' : Int) < (n : Int) := by omega
     obtain ⟨x, hx⟩ : ∃ x, l[i']? = some x := ⟨_, List.getElem?_eq_getElem (by rw [← hn.out]; exact hlt)⟩
     obtain ⟨bx, ox, cx, rfl, hbx, hlx, hrx, hcl⟩ := hs.out.at_ hx
     obtain ⟨xk, xb, xi, xs, XA, xn, xc, XB, xn2, xc2, rfl⟩ := vl_form hrx
     have hd : l.drop i' = x :: l.drop (i' + 1) := by
      obtain ⟨h1, h2⟩ := List.getElem?_eq_some_iff.1 hx
      rw [List.drop_eq_getElem_cons h1, h2]
     rw [hd, List.map_cons] at hu
     have y0 : wr.cell? ⟨bx, ox + i' * 6, none⟩ = some (.int .i64 xk) := (hb4.cell (p := ⟨bx, ox + i' * 6 + 0, none⟩) hbx).trans (hcl 0 _ rfl)
     have y1 : wr.cell? ⟨bx, ox + i' * 6 + 1, none⟩ = some (.bool xb) := (hb4.cell (p := ⟨bx, ox + i' * 6 + 1, none⟩) hbx).trans (hcl 1 _ rfl)
     have y2 : wr.cell? ⟨bx, ox + i' * 6 + 2, none⟩ = some (.int .i64 xi) := (hb4.cell (p := ⟨bx, ox + i' * 6 + 2, none⟩) hbx).trans (hcl 2 _ rfl)
     have y3 : wr.cell? ⟨bx, ox + i' * 6 + 3, none⟩ = some (.string xs) := (hb4.cell (p := ⟨bx, ox + i' * 6 + 3, none⟩) hbx).trans (hcl 3 _ rfl)
     have y4 : wr.cell? ⟨bx, ox + i' * 6 + 4, none⟩ = some (.slice XA xn xc) := (hb4.cell (p := ⟨bx, ox + i' * 6 + 4, none⟩) hbx).trans (hcl 4 _ rfl)
     have y5 : wr.cell? ⟨bx, ox + i' * 6 + 5, none⟩ = some (.slice XB xn2 xc2) := (hb4.cell (p := ⟨bx, ox + i' * 6 + 5, none⟩) hbx).trans (hcl 5 _ rfl)
     have hrx6 := Lib.hid (RVl.at_ hrx hb4)
     clear hcl hx hrx hd
     have hu2 : fin = if chkV f x ≠ 0 then chkV f x else firstE ((l.drop (i' + 1)).map (chkV f)) := hu
     replace hu2 := Lib.hid hu2
     clear hu
     repeat' (first | go_skip | go_guarded | go_step)
     refine (ih.out (lv + 1) gj x xk xb xi xs XA xn xc XB xn2 xc2 _ (by omega) (by omega) hrx6.out).mono ?_
     rintro e w7 ⟨rfl, hb7⟩
     dsimp only
     have hO8 := hOr.kept hb7
     clear c0_0 c0_1 c0_2 c0_3 c0_4 c0_5 cf0
     have c0_0 := hO8.c 0 0
     have c0_1 := hO8.c 0 1
     have c0_2 := hO8.c 0 2
     have c0_3 := hO8.c 0 3
     have c0_4 := hO8.c 0 4
     have c0_5 := hO8.c 0 5
     have cf0 := hO8.fr 0
     have hb8 := hO8.below
     by_cases hce : chkV f x = 0
     ·have hf : fin = firstE ((l.drop (i' + 1)).map (chkV f)) := by rw [hu2.out, hce, if_neg (by decide)]
      replace hf := Lib.hid hf
      rw [hce]
      clear hce
      repeat' (first | go_skip | go_guarded | go_step)
      go_roundw
      case rel => exact ⟨i' + 1, by omega, by first | rfl | go_num, hO8, hf.out⟩
      case measure => (try go_num); (try simp [intOf]); (try omega)
     ·have hf : fin = chkV f x := by rw [hu2.out, if_pos hce]
      have hce2 : (chkV f x == 0) = false := by simpa using hce
      replace hf := Lib.hid hf
      clear hu2
      generalize chkV f x = ce at *
      repeat' (first | go_skip | go_guarded | go_step)
      go_ret
      exact ⟨ret_i6 hf.out.symm, hb8⟩
    ·obtain rfl : i' = n := by omega
     have i3 : ¬ (i' : Int) < (i' : Int) := by omega
     have hf : fin = 0 := by rw [hu, List.drop_of_length_le (by rw [← hn.out]; exact Nat.le_refl _)]; rfl
     replace hf := Lib.hid hf
     clear hu
     repeat' (first | go_skip | go_guarded | go_step)
     go_ret
     exact ⟨ret_i6 hf.out.symm, hb4⟩
theorem rvalidV_any (g : Nat) (v : Vl) (k : Int) (b : Bool) (i : Int) (s : ByteArray) (A : Option Addr) (n c : Nat) (A2 : Option Addr) (n2 c2 : Nat) (w : World) (h : RVl g w (fun b => b < w.heap.size) v [.int .i64 k, .bool b, .int .i64 i, .string s, .slice A n c, .slice A2 n2 c2]) :
  Calls Tryz.prog 26 #[.agg #[.int .i64 k, .bool b, .int .i64 i, .string s, .slice A n c, .slice A2 n2 c2]] w fun e w' => e = .returned (.int .i64 (validV v)) ∧ Below w.heap.size w w' := by
 go_enter Tryz.func26, Tryz.ntmps26
 go_upto_region 1 with (fail)
 generalize hx_ : World.alloc w _ = wo1
 have hO1 : OwnB w wo1 [(w.heap.size, [.int .i64 k, .bool b, .int .i64 i, .string s, .slice A n c, .slice A2 n2 c2])] := by rw [← hx_]; exact (OwnB.refl w).new #[.int .i64 k, .bool b, .int .i64 i, .string s, .slice A n c, .slice A2 n2 c2] _ (g := w.heap.size)
 clear hx_
 have c0_0 := hO1.c 0 0
 have c0_1 := hO1.c 0 1
 have c0_2 := hO1.c 0 2
 have c0_3 := hO1.c 0 3
 have c0_4 := hO1.c 0 4
 have c0_5 := hO1.c 0 5
 have cf0 := hO1.fr 0
 have hb := hO1.below
 have h1 := Lib.hid (RVl.at_ h hb)
 repeat' (first | go_skip | go_guarded | go_step)
 refine (rcheckV_any 16 1 g v k b i s A n c A2 n2 c2 _ (by decide) (by decide) h1.out).mono ?_
 rintro e w2 ⟨rfl, hb2⟩
 dsimp only
 have hb3 := hb.trans (hb2.mono hb.size)
 repeat' (first | go_skip | go_guarded | go_step)
 go_ret
 exact ⟨rfl, hb3⟩
theorem rvalid_ev (fs : List FV) (E : List Value) (w : World) (h : EvR w fs E) (hs9 : lsz fs ≤ 900000000) : Calls Tryz.prog 11 #[.agg E.toArray] w fun e w' => e = .returned (.int .i64 (validF fs)) ∧ Below w.heap.size w w' := by
 obtain ⟨k, t, m, A, c, hk, ht, hf0, g0, g1, g10, hms, e0, e1, e12, hR⟩ := ev_parts h
 rw [fsz_fL] at hms
 have hml := lsz_length m
 have hl := h.len
 have hi := ev_info hl
 by_cases k0 : k < 1
 ·skip
  go_enter Tryz.func11, Tryz.ntmps11
  go_upto_region 1 with (fail)
  have hA : (w.alloc (.cells E.toArray 43)).rangeAt w.heap.size 0 E := at_new w E 43
  have hlt0 : w.heap.size < (w.alloc (.cells E.toArray 43)).heap.size := by simp
  have hb0 := (Below.refl w.heap.size w).alloc (Nat.le_refl _) (.cells E.toArray 43)
  generalize World.alloc w _ = w1 at *
  have c0 : w1.cell? ⟨w.heap.size, 0, none⟩ = some (.int .i64 k) := hA 0 _ e0
  have c1 : w1.cell? ⟨w.heap.size, 1, none⟩ = some (.int .i64 t) := hA 1 _ e1
  have c12 : w1.cell? ⟨w.heap.size, 12, none⟩ = some (.slice A m.length c) := hA 12 _ e12
  repeat' (first | go_skip | go_guarded | go_step)
  go_ret
  have hv : validF fs = 1 := by unfold validF; rw [g0, g1]; rw [if_pos (Or.inl k0)]
  exact ⟨by rw [hv] <;> rfl, hb0⟩
 by_cases k1 : 15 < k
 ·skip
  go_enter Tryz.func11, Tryz.ntmps11
  go_upto_region 1 with (fail)
  have hA : (w.alloc (.cells E.toArray 43)).rangeAt w.heap.size 0 E := at_new w E 43
  have hlt0 : w.heap.size < (w.alloc (.cells E.toArray 43)).heap.size := by simp
  have hb0 := (Below.refl w.heap.size w).alloc (Nat.le_refl _) (.cells E.toArray 43)
  generalize World.alloc w _ = w1 at *
  have c0 : w1.cell? ⟨w.heap.size, 0, none⟩ = some (.int .i64 k) := hA 0 _ e0
  have c1 : w1.cell? ⟨w.heap.size, 1, none⟩ = some (.int .i64 t) := hA 1 _ e1
  have c12 : w1.cell? ⟨w.heap.size, 12, none⟩ = some (.slice A m.length c) := hA 12 _ e12
  repeat' (first | go_skip | go_guarded | go_step)
  go_ret
  have hv : validF fs = 1 := by unfold validF; rw [g0, g1]; rw [if_pos (Or.inr k1)]
  exact ⟨by rw [hv] <;> rfl, hb0⟩
 by_cases t0 : t < 0
 ·skip
  go_enter Tryz.func11, Tryz.ntmps11
  go_upto_region 1 with (fail)
  have hA : (w.alloc (.cells E.toArray 43)).rangeAt w.heap.size 0 E := at_new w E 43
  have hlt0 : w.heap.size < (w.alloc (.cells E.toArray 43)).heap.size := by simp
  have hb0 := (Below.refl w.heap.size w).alloc (Nat.le_refl _) (.cells E.toArray 43)
  generalize World.alloc w _ = w1 at *
  have c0 : w1.cell? ⟨w.heap.size, 0, none⟩ = some (.int .i64 k) := hA 0 _ e0
  have c1 : w1.cell? ⟨w.heap.size, 1, none⟩ = some (.int .i64 t) := hA 1 _ e1
  have c12 : w1.cell? ⟨w.heap.size, 12, none⟩ = some (.slice A m.length c) := hA 12 _ e12
  repeat' (first | go_skip | go_guarded | go_step)
  go_ret
  have hv : validF fs = 2 := by unfold validF; rw [g0, g1]; rw [if_neg (show ¬ (k < 1 ∨ 15 < k) from fun h => h.elim k0 k1), if_pos (Or.inl t0)]
  exact ⟨by rw [hv] <;> rfl, hb0⟩
 by_cases t1 : 1125899906842624 < t
 ·skip
  go_enter Tryz.func11, Tryz.ntmps11
  go_upto_region 1 with (fail)
  have hA : (w.alloc (.cells E.toArray 43)).rangeAt w.heap.size 0 E := at_new w E 43
  have hlt0 : w.heap.size < (w.alloc (.cells E.toArray 43)).heap.size := by simp
  have hb0 := (Below.refl w.heap.size w).alloc (Nat.le_refl _) (.cells E.toArray 43)
  generalize World.alloc w _ = w1 at *
  have c0 : w1.cell? ⟨w.heap.size, 0, none⟩ = some (.int .i64 k) := hA 0 _ e0
  have c1 : w1.cell? ⟨w.heap.size, 1, none⟩ = some (.int .i64 t) := hA 1 _ e1
  have c12 : w1.cell? ⟨w.heap.size, 12, none⟩ = some (.slice A m.length c) := hA 12 _ e12
  repeat' (first | go_skip | go_guarded | go_step)
  go_ret
  have hv : validF fs = 2 := by unfold validF; rw [g0, g1]; rw [if_neg (show ¬ (k < 1 ∨ 15 < k) from fun h => h.elim k0 k1), if_pos (Or.inr t1)]
  exact ⟨by rw [hv] <;> rfl, hb0⟩
 obtain ⟨K, rfl⟩ : ∃ K : Nat, k = (K : Int) := ⟨k.toNat, by omega⟩
 have hV : validF fs = if eqF (ofL (restF K fs)) (ofL zeroFs) = false then 1 else firstE (m.map varV) := by
  unfold validF argsV
  rw [g0, g1, g10, if_neg (show ¬ ((K : Int) < 1 ∨ 15 < (K : Int)) from fun h => h.elim k0 k1), if_neg (show ¬ (t < 0 ∨ 1125899906842624 < t) from fun h => h.elim t0 t1)]
  simp only [toL_ofL, Int.toNat_natCast]
 go_enter Tryz.func11, Tryz.ntmps11
 go_upto_region 1 with (fail)
 have hA : (w.alloc (.cells E.toArray 43)).rangeAt w.heap.size 0 E := at_new w E 43
 have hlt0 : w.heap.size < (w.alloc (.cells E.toArray 43)).heap.size := by simp
 have hb0 := (Below.refl w.heap.size w).alloc (Nat.le_refl _) (.cells E.toArray 43)
 generalize World.alloc w _ = w1 at *
 have c0 : w1.cell? ⟨w.heap.size, 0, none⟩ = some (.int .i64 (K : Int)) := hA 0 _ e0
 have c1 : w1.cell? ⟨w.heap.size, 1, none⟩ = some (.int .i64 t) := hA 1 _ e1
 have c12 : w1.cell? ⟨w.heap.size, 12, none⟩ = some (.slice A m.length c) := hA 12 _ e12
 replace hR := Lib.hid hR
 replace hV := Lib.hid hV
 repeat' (first | (refine wpList_load_mid rfl 43 _ rfl w.heap.size 0 rfl E _ hA Tryz.underlying43 rfl hi ?_) | (refine wpList_build1 rfl 43 _ rfl (cells := evZ.toArray) (by kernel_rfl) ?_) | go_skip | go_guarded | go_step)
 refine (runused_any K (by omega) (by omega) fs E w1 (h.up hb0) hf0).mono ?_
 rintro e w2 ⟨E2, rfl, hr2, hb2⟩
 dsimp only
 have hA2 := range_up hA hb2 hlt0
 repeat' (first | (refine wpList_load_mid rfl 43 _ rfl w.heap.size 0 rfl E _ hA2 Tryz.underlying43 rfl hi ?_) | (refine wpList_build1 rfl 43 _ rfl (cells := evZ.toArray) (by kernel_rfl) ?_) | go_skip | go_guarded | go_step)
 refine (rsame_ev (restF K fs) zeroFs E2 evZ w2 ⟨hr2, by have := restF_sz fs K; omega⟩ (zero_ev w2)).mono ?_
 rintro e w3 ⟨rfl, hb3⟩
 dsimp only
 have hA3 := range_up hA2 hb3 (Nat.lt_of_lt_of_le hlt0 hb2.size)
 have hbw : Below w.heap.size w w3 := hb0.trans ((hb2.trans (hb3.mono hb2.size)).mono hb0.size)
 have hlt3 : w.heap.size < w3.heap.size := Nat.lt_of_lt_of_le hlt0 (Nat.le_trans hb2.size hb3.size)
 clear c0 c1 c12 hA2 hb2 hb3 hr2 hA
 have c12 : w3.cell? ⟨w.heap.size, 12, none⟩ = some (.slice A m.length c) := hA3 12 _ e12
 cases hq : eqF (ofL (restF K fs)) (ofL zeroFs) with
 | false =>
  repeat' (first | go_skip | go_guarded | go_step)
  go_ret
  exact ⟨by rw [hV.out, if_pos hq] <;> rfl, hbw⟩
 | true =>
  have hV2 : validF fs = firstE (m.map varV) := by rw [hV.out, if_neg (by rw [hq]; decide)]
  clear hV hq
  replace hV2 := Lib.hid hV2
  repeat' (first | go_skip | go_guarded | go_step)
  go_loopw [3] (fun u3 wr => ∃ i : Nat, i ≤ m.length ∧ u3 = .int .i64 (i : Int) ∧ Below w3.heap.size w3 wr ∧ validF fs = firstE ((m.map varV).drop i)) (fun u3 _ => m.length - (intOf u3).toNat)
  case atStart => exact ⟨0, Nat.zero_le _, rfl, Below.refl _ _, by rw [List.drop_zero]; exact hV2.out⟩
  case round =>
   clear hV2
   obtain ⟨i, hi2, rfl, hbr, hu⟩ := hrel
   have hbx : Below w.heap.size w wr := hbw.trans (hbr.mono hbw.size)
   replace c12 := (hbr.cell (p := ⟨w.heap.size, 12, none⟩) hlt3).trans c12
   by_cases hlt : i < m.length
   ·obtain ⟨x, hx⟩ : ∃ x, m[i]? = some x := ⟨_, List.getElem?_eq_getElem hlt⟩
    obtain ⟨b, o, c1_, rfl, hb, hcl, hrx, hat⟩ := hR.out.at_ hx
    have hat' : wr.rangeAt b (o + i * 7) c1_ := fun j u hj => (hbx.cell (p := ⟨b, o + i * 7 + j, none⟩) hb).trans (hat j u hj)
    clear hat
    have hsx : fsz x ≤ 1000000000 := by have := fsz_mem (List.mem_of_getElem? hx); omega
    obtain ⟨ff, rfl, hrr⟩ := hrx
    obtain ⟨f1, r1, q1, d1, rfl, rfl, ⟨s1, rfl, rfl⟩, hrr⟩ := hrr
    obtain ⟨f2, r2, q2, d2, rfl, rfl, ⟨gg, hv2⟩, hrr⟩ := hrr
    obtain ⟨rfl, rfl⟩ := hrr
    rw [fsz_fL] at hsx
    have hs2 : fsz f2 ≤ 1000000000 := by have := fsz_mem (l := [fS s1, f2]) (f := f2) (by simp); omega
    have hvl := val_rvl gg _ _ _ _ hv2 hs2
    clear hv2
    have hu2 := firstE_drop (l := m.map varV) (i := i) (x := varV (fL [fS s1, f2])) (by rw [List.getElem?_map, hx]; rfl)
    rw [varV_mk] at hu2
    obtain ⟨vk, vb, vi, vs, VA, vn, vc, VA2, vn2, vc2, rfl⟩ := vl_form hvl
    have hvl2 : RVl gg wr (fun b => b < wr.heap.size) (vl1 f2) _ := RVl_ok gg _ _ _ _ _ _ (fun p hp => hbx.cell hp) (fun b hb => Nat.lt_of_lt_of_le hb hbx.size) hvl
    clear hvl
    have y0 : wr.cell? ⟨b, o + i * 7, none⟩ = some (.string s1) := hat' 0 _ rfl
    have y1 : wr.cell? ⟨b, o + i * 7 + 1, none⟩ = some (.int .i64 vk) := hat' 1 _ rfl
    have y2 : wr.cell? ⟨b, o + i * 7 + 2, none⟩ = some (.bool vb) := hat' 2 _ rfl
    have y3 : wr.cell? ⟨b, o + i * 7 + 3, none⟩ = some (.int .i64 vi) := hat' 3 _ rfl
    have y4 : wr.cell? ⟨b, o + i * 7 + 4, none⟩ = some (.string vs) := hat' 4 _ rfl
    have y5 : wr.cell? ⟨b, o + i * 7 + 5, none⟩ = some (.slice VA vn vc) := hat' 5 _ rfl
    have y6 : wr.cell? ⟨b, o + i * 7 + 6, none⟩ = some (.slice VA2 vn2 vc2) := hat' 6 _ rfl
    clear hat'
    rw [hu2] at hu
    clear hu2
    generalize hcode : validV (vl1 f2) = code at hu
    replace hcode := Lib.hid hcode
    have i1 : (0 : Int) ≤ (i : Int) := by omega
    have i2 : (i : Int) < (m.length : Int) := by omega
    repeat' (first | go_skip | go_guarded | go_step)
    refine (rvalidV_any gg (vl1 f2) vk vb vi vs VA vn vc VA2 vn2 vc2 wr hvl2).mono ?_
    rintro e w6 ⟨rfl, hb6⟩
    dsimp only
    rw [hcode.out]
    have hbz : Below w3.heap.size w3 w6 := hbr.trans (hb6.mono hbr.size)
    clear hb6 hvl2 y0 y1 y2 y3 y4 y5 y6
    by_cases hz : code = 0
    ·subst hz
     rw [if_neg (by decide)] at hu
     have c12' : w6.cell? ⟨w.heap.size, 12, none⟩ = some (.slice (some ⟨b, o, none⟩) m.length c) := (same_at hbr hbz (p := ⟨w.heap.size, 12, none⟩) hlt3).trans c12
     clear c12
     have i3 : IntKind.i64.wrap ((i : Int) + 1) = (i : Int) + 1 := IntWalk.i64_in _ (by omega)
     repeat' (first | go_skip | go_guarded | go_step)
     go_roundw
     case rel => exact ⟨i + 1, by omega, by congr 1, hbz, hu⟩
     case measure => simp [intOf]; omega
    ·rw [if_pos hz] at hu
     have z1 : (code == 0) = false := by simpa using hz
     have z2 : (code != 0) = true := by simpa using hz
     clear hz
     repeat' (first | go_skip | go_guarded | go_step)
     go_ret
     exact ⟨by rw [hu] <;> rfl, hbw.trans (hbz.mono hbw.size)⟩
   ·rw [List.drop_of_length_le (by rw [List.length_map]; omega)] at hu
    repeat' (first | go_skip | go_guarded | go_step)
    go_ret
    exact ⟨by rw [hu] <;> rfl, hbx⟩
def FieldOK (k x : Int) (s : ByteArray) (sub : Flds) : Prop :=
 ∀ (A : Option Addr) (c : Nat) (csub : List Value) (w : World) (B d : Nat), B ≤ w.heap.size → Seq w B 4 A sub.length csub → RepF w B sub csub → s.size + sub.size ≤ 1000000000 → IsInt x → vone d k x s sub = 0 →
  Calls Tryz.prog 63 #[.agg (fcells k x s A sub.length c)] w (RetBytes w (enc1 k x s sub))
theorem field_body (k x : Int) (s : ByteArray) (sub : Flds) (ih : ∀ i k' x' s' sub', sub.get? i = some (k', x', s', sub') → FieldOK k' x' s' sub') : FieldOK k x s sub := by
 intro A c csub w B d hB hseq hrep hsz hx hfine
 have Ih := Lib.hid ih; clear ih
 have hlen := Flds.length_le_size sub
 have hel := encs_le hrep (by omega)
 have hul := Lib.uvarint_length64 (x := sub.length) (by omega)
 have Hel := Lib.hid hel; clear hel
 have Hul := Lib.hid hul; clear hul
 have hn : IntKind.u64.wrap (sub.length : Int) = (sub.length : Int) := IntWalk.u64_in _ (by omega)
 have hvf := vone_fine hfine
 have hkk := clean_kind hvf.2.1
 have Hvf := Lib.hid hvf; clear hvf hfine
 have Hx := Lib.hid hx; clear hx
 have Hkk := Lib.hid hkk; clear hkk
 have hba := (Below.refl w.heap.size w).alloc (Nat.le_refl _) (.cells (fcells k x s A sub.length c) 98)
 have Hba := Lib.hid hba; clear hba
 have hlit := fun b => Own.lit (cs := #[.int .u8 b]) (e := 5) (sz := 1) (n := 1) (Below.refl _ (w.alloc (.cells (fcells k x s A sub.length c) 98))) rfl (by omega)
 simp only [World.size_alloc] at hlit
 have Hlit := Lib.hid hlit; clear hlit
 rcases Hkk.out with rfl | rfl | rfl
 ·go_enter Tryz.func63, Tryz.ntmps63
  repeat' (first | go_skip | go_guarded | go_step)
  refine (rPutInt_any x _ Hx.out.1 Hx.out.2).mono ?_
  rintro e w3 ⟨A3, c3, rfl, h3⟩
  dsimp only
  repeat' ((fail_if_success at_builtin); first | go_skip | go_guarded | go_step)
  refine wp_appS ((Hlit.out 0).below h3.2) Tryz.underlying47 u8_info h3.seq (bv_one _) ?_ ?_
  ·have := Lib.uvarint_length64 (Lib.zigzag_lt Hx.out.1 Hx.out.2)
   omega
  intro v4 w4 hown4 _
  repeat' (first | go_skip | go_guarded | go_step)
  go_ret
  have := Bytes.app (l := [0]) (m := Lib.uvarint (Lib.zigzag x)) hown4 rfl
  exact Bytes.ret (Own.up Hba.out this)
 ·go_enter Tryz.func63, Tryz.ntmps63
  repeat' (first | go_skip | go_guarded | go_step)
  refine (rPutStr_any s _ (by omega)).mono ?_
  rintro e w3 ⟨A3, c3, rfl, h3⟩
  dsimp only
  repeat' ((fail_if_success at_builtin); first | go_skip | go_guarded | go_step)
  refine wp_appS ((Hlit.out 1).below h3.2) Tryz.underlying47 u8_info h3.seq (bv_one _) ?_ ?_
  ·have h4 : s.data.toList.length = s.size := by simp
   have := Lib.uvarint_length64 (x := s.size) (by omega)
   simp only [List.length_append, h4]
   omega
  intro v4 w4 hown4 _
  repeat' (first | go_skip | go_guarded | go_step)
  go_ret
  have := Bytes.app (l := [1]) (m := Lib.uvarint s.size ++ s.data.toList) hown4 rfl
  exact Bytes.ret (Own.up Hba.out this)
 ·go_enter Tryz.func63, Tryz.ntmps63
  repeat' (first | go_skip | go_guarded | go_step)
  refine (rPutUint_any sub.length _ (U64.mk (by omega))).mono ?_
  rintro e w3 ⟨A3, c3, rfl, h3⟩
  dsimp only
  repeat' ((fail_if_success at_builtin); first | go_skip | go_guarded | go_step)
  refine wp_appS ((Hlit.out 2).below h3.2) Tryz.underlying47 u8_info h3.seq (bv_one _) ?_ ?_
  ·have := Hul.out
   omega
  intro v4 w4 hown4 _
  have h4 := Bytes.app (l := [2]) (m := Lib.uvarint sub.length) hown4 rfl
  clear hown4
  have hc4 := fun o => h4.2.cell (p := ⟨w.heap.size, o, none⟩) (by simp)
  have hbox4 : w4.cell? ⟨w.heap.size, 3, none⟩ = some (.slice A sub.length c) := by rw [hc4]; simp [go_sem]
  clear hc4
  repeat' (first | go_skip | go_guarded | go_step)
  go_loopw [3, 4] (fun u3 u4 wr => ∃ i : Nat, i ≤ sub.length ∧ u4 = .int .i64 (i : Int) ∧ Bytes (w.alloc (.cells (fcells 2 x s A sub.length c) 98)) wr u3 (([2] ++ Lib.uvarint sub.length) ++ encs (sub.take i))) (fun _ u4 _ => sub.length - (intOf u4).toNat)
  case atStart => exact ⟨0, by omega, rfl, by rw [take_zero]; simpa [encs] using h4⟩
  case round =>
   obtain ⟨i, hi, rfl, hown⟩ := hrel
   clear h4 hbox4 h3
   have hcb := fun o => hown.2.cell (p := ⟨w.heap.size, o, none⟩) (by simp)
   have hbox : wr.cell? ⟨w.heap.size, 3, none⟩ = some (.slice A sub.length c) := by rw [hcb]; simp [go_sem]
   clear hcb
   by_cases hlt : i < sub.length
   ·obtain ⟨⟨k', x', s', sub'⟩, hg⟩ := Flds.get?_lt sub i hlt
    obtain ⟨b, o, hA, hbB, hcell⟩ := hseq.2 (by omega)
    rw [hA] at hbox
    obtain ⟨A', c', csub', g1, g2, g3, g4, hk', hx', hseq', hrep'⟩ := hrep.at_ hg
    have hbw := Hba.out.trans (hown.2.mono (by simp))
    have hcell' := fun j u hu => (hbw.cell (p := ⟨b, o + j, none⟩) (by simp; omega)).trans (hcell j u hu)
    have e1 := hcell' _ _ g1
    have e2 := hcell' _ _ g2
    rw [← Nat.add_assoc] at e2
    have e3 := hcell' _ _ g3
    rw [← Nat.add_assoc] at e3
    have e4 := hcell' _ _ g4
    rw [← Nat.add_assoc] at e4
    clear hcell hcell' g1 g2 g3 g4
    have hsz' := Flds.get?_size sub i hg
    have C := Ih.out i k' x' s' sub' hg A' c' csub' wr B (d + 1) (Nat.le_trans hB hbw.size) (hseq'.below (hbw.mono hB)) (hrep'.below (hbw.mono hB)) (by omega) hx' (Hvf.out.2.2.one hg)
    have Hc := Lib.hid C; clear C
    have Htake := Lib.hid (encs_take hg)
    have Hg := Lib.hid hg; clear hg
    have HA := Lib.hid hA; clear hA
    repeat' (first | go_skip | go_guarded | go_step)
    refine Hc.out.mono ?_
    rintro e w5 ⟨A5, c5, rfl, h5⟩
    dsimp only
    repeat' ((fail_if_success at_builtin); first | go_skip | go_guarded | go_step)
    refine wp_appS (hown.below h5.2) Tryz.underlying47 u8_info h5.seq (bv_one _) ?_ ?_
    ·have h1 := Hul.out
     have h2 := Hel.out
     have h4 := encs_take_le sub (i + 1)
     rw [Htake.out] at h4
     simp only [List.length_append, List.length_cons, List.length_nil] at h1 h2 h4 ⊢
     omega
    intro v6 w6 hown6 _
    repeat' (first | go_skip | go_guarded | go_step)
    go_roundw
    case rel =>
     refine ⟨i + 1, by omega, by go_num, ?_⟩
     rw [Htake.out, ← List.append_assoc]
     exact Bytes.app hown6 rfl
    case measure => simp [intOf]; omega
   ·repeat' (first | go_skip | go_guarded | go_step)
    go_ret
    rw [take_all sub i (by omega)] at hown
    exact Bytes.ret (Own.up Hba.out hown)
theorem field_sub : ∀ (f : Flds) (i : Nat) (k x : Int) (s : ByteArray) (sub : Flds), f.get? i = some (k, x, s, sub) → FieldOK k x s sub
 | .nil, i, _, _, _, _, h => by simp [Flds.get?] at h
 | .cons k x s sub r, 0, _, _, _, _, h => by
  simp only [Flds.get?, Option.some.injEq, Prod.mk.injEq] at h
  obtain ⟨rfl, rfl, rfl, rfl⟩ := h
  exact field_body k x s sub (field_sub sub)
 | .cons _ _ _ _ r, i + 1, k, x, s, sub, h => field_sub r i k x s sub h
theorem field_any (k x : Int) (s : ByteArray) (sub : Flds) : FieldOK k x s sub := field_body k x s sub (field_sub sub)
theorem fix_at : ∀ (f : Flds) (n i : Nat) {k x : Int} {s : ByteArray} {sub : Flds}, i < n → f.get? i = some (k, x, s, sub) →
  (f.fix n).get? i = if vone 1 k x s sub = 0 then some (k, x, s, sub) else some (0, 0, ByteArray.empty, .nil)
 | _, 0, i, _, _, _, _, h, _ => by omega
 | .nil, _ + 1, i, _, _, _, _, _, h => by simp [Flds.get?] at h
 | .cons k x s sub r, n + 1, 0, _, _, _, _, _, h => by
  simp only [Flds.get?, Option.some.injEq, Prod.mk.injEq] at h
  obtain ⟨rfl, rfl, rfl, rfl⟩ := h
  simp only [Flds.fix]
  split <;> rfl
 | .cons k x s sub r, n + 1, i + 1, _, _, _, _, hi, h => by
  have := fix_at r n i (by omega) h
  simp only [Flds.fix]
  split <;> simpa only [Flds.get?] using this
theorem enc_fix {f : Flds} {n i : Nat} {k x : Int} {s : ByteArray} {sub : Flds} (hi : i < n) (h : f.get? i = some (k, x, s, sub)) :
  encs ((f.fix n).take (i + 1)) = encs ((f.fix n).take i) ++ (if vone 1 k x s sub = 0 then enc1 k x s sub else [0, 0]) := by
 have := fix_at f n i hi h
 by_cases hv : vone 1 k x s sub = 0
 ·rw [if_pos hv] at this ⊢
  exact encs_take this
 ·rw [if_neg hv] at this ⊢
  rw [encs_take this]
  congr 1
  have h0 : Lib.uvarint (Lib.zigzag 0) = [0] := by
   rw [show Lib.zigzag 0 = 0 from rfl, Lib.uvarint_small (by omega)]; rfl
  unfold enc1
  rw [if_pos rfl, h0]
theorem encs_fix_le {w : World} {B : Nat} : ∀ {f : Flds} {cs : List Value} (n : Nat), RepF w B f cs → f.size < 18446744073709551616 → (encs (f.fix n)).length ≤ 11 * f.size
 | f, _, 0, h, hs => by rw [fix_zero]; exact encs_le h hs
 | .nil, _, _ + 1, _, _ => by simp [Flds.fix, encs]
 | .cons k x s sub r, cs, n + 1, h, hsz => by
  obtain ⟨A, c, cs', csub, rfl, hk, hx, hs, hsub, hr⟩ := h
  simp only [Flds.size] at hsz ⊢
  have hl := Flds.length_le_size sub
  have h1 := encs_le hsub (by omega)
  have h2 := encs_fix_le n hr (by omega)
  have h3 := enc1_le (k := k) (s := s) (sub := sub) hx (by omega) (by omega)
  simp only [Flds.fix]
  split
  ·rw [encs_cons, List.length_append]
   omega
  ·rw [encs_cons, List.length_append]
   have := enc1_le (k := 0) (x := 0) (s := ByteArray.empty) (sub := .nil) ⟨by omega, by omega⟩ (by decide) (by decide)
   have h0 : ByteArray.empty.size = 0 := rfl
   have h0' : (encs .nil).length = 0 := rfl
   rw [h0, h0'] at this
   have := Flds.length_le_size sub
   omega
theorem rRecord_any (f : Flds) (A : Option Addr) (c : Nat) (cs : List Value) (w : World) (B : Nat) (hB : B ≤ w.heap.size) (hseq : Seq w B 4 A f.length cs) (hrep : RepF w B f cs) (hsz : f.size ≤ 1000000000) :
  Calls Tryz.prog 31 #[.slice A f.length c] w (RetBytes w (Lib.uvarint f.length ++ encs (f.fix f.length))) := by
 have hlen := Flds.length_le_size f
 have hel := encs_fix_le f.length hrep (by omega)
 have hul := Lib.uvarint_length64 (x := f.length) (by omega)
 have Hel := Lib.hid hel; clear hel
 have Hul := Lib.hid hul; clear hul
 have hn : IntKind.u64.wrap (f.length : Int) = (f.length : Int) := IntWalk.u64_in _ (by omega)
 obtain ⟨F, hF⟩ : ∃ F, F = f.fix f.length := ⟨_, rfl⟩
 have HF := Lib.hid hF; clear hF
 rw [← HF.out] at Hel ⊢
 go_enter Tryz.func31, Tryz.ntmps31
 repeat' (first | go_skip | go_guarded | go_step)
 refine (rPutUint_any f.length _ (U64.mk (by omega))).mono ?_
 rintro e w1 ⟨A1, c1, rfl, h⟩
 dsimp only
 repeat' (first | go_skip | go_guarded | go_step)
 go_loopw [3, 4] (fun u3 u4 wr => ∃ i : Nat, i ≤ f.length ∧ u4 = .int .i64 (i : Int) ∧ Bytes w wr u3 (Lib.uvarint f.length ++ encs (F.take i))) (fun _ u4 _ => f.length - (intOf u4).toNat)
 case atStart => exact ⟨0, by omega, rfl, by rw [take_zero]; simpa [encs] using h⟩
 case round =>
  obtain ⟨i, hi, rfl, hown⟩ := hrel
  clear h
  by_cases hlt : i < f.length
  ·obtain ⟨⟨k, x, s, sub⟩, hg⟩ := Flds.get?_lt f i hlt
   obtain ⟨b, o, rfl, hbB, hcell⟩ := hseq.2 (by omega)
   obtain ⟨A', c', csub', g1, g2, g3, g4, hk', hx', hseq', hrep'⟩ := hrep.at_ hg
   have hcell' := fun j u hu => (hown.2.cell (p := ⟨b, o + j, none⟩) (by simp; omega)).trans (hcell j u hu)
   have e1 := hcell' _ _ g1
   have e2 := hcell' _ _ g2
   rw [← Nat.add_assoc] at e2
   have e3 := hcell' _ _ g3
   rw [← Nat.add_assoc] at e3
   have e4 := hcell' _ _ g4
   rw [← Nat.add_assoc] at e4
   clear hcell hcell' g1 g2 g3 g4
   have hsz' := Flds.get?_size f i hg
   have hbw : b < wr.heap.size := by have := hown.2.size; omega
   have He : Hid (vone 1 k x s sub = 0 ↔ ((vone 1 k x s sub : Int) != 0) = false) := by unfold Hid; simp
   have C := rValid_any k x s sub A' c' csub' wr B (Nat.le_trans hB hown.2.size) (hseq'.below (hown.2.mono hB)) (hrep'.below (hown.2.mono hB)) (by omega)
   have Hc := Lib.hid C; clear C
   have C2 := fun (w2 : World) (h : Below wr.heap.size wr w2) hv => field_any k x s sub A' c' csub' w2 B 1 (Nat.le_trans (Nat.le_trans hB hown.2.size) h.size) (hseq'.below ((hown.2.trans (h.mono hown.2.size)).mono hB)) (hrep'.below ((hown.2.trans (h.mono hown.2.size)).mono hB)) (by omega) hx' hv
   have Hc2 := Lib.hid C2; clear C2
   have htake := enc_fix (n := f.length) hlt hg
   rw [← HF.out] at htake
   have Htake := Lib.hid htake; clear htake
   have Hx' := Lib.hid hx'; clear hx' hk'
   have Hg := Lib.hid hg; clear hg
   have hb : ∀ m, m ≤ 10 → ((Lib.uvarint f.length ++ encs (F.take i)).length + m) * 1 ≤ 140737488355328 := by
    intro m hm
    have h1 := Hul.out
    have h2 := Hel.out
    have h3 := encs_take_le F i
    rw [List.length_append]; omega
   have Hb := Lib.hid hb; clear hb
   repeat' (first | go_skip | go_guarded | go_step)
   refine Hc.out.mono ?_
   rintro e w2 ⟨rfl, hb2⟩
   obtain ⟨hc2, hf2⟩ := bcell hb2
   dsimp only
   rcases Bool.eq_false_or_eq_true ((vone 1 k x s sub : Int) != 0) with e0 | e0
   ·repeat' ((fail_if_success at_builtin); first | go_skip | go_guarded | go_step)
    refine wp_appL (m := 2) (hown.below hb2) Tryz.underlying47 u8_info (Hb.out 2 (by omega)) ?_
    intro v3 w3 hown3 _
    repeat' (first | go_skip | go_guarded | go_step)
    go_roundw
    case rel =>
     refine ⟨i + 1, by omega, by go_num, ?_⟩
     have hne : vone 1 k x s sub ≠ 0 := by
      have := He.out
      rw [e0] at this
      simpa using this
     rw [Htake.out, if_neg hne, ← List.append_assoc]
     exact Bytes.app (m := [0, 0]) hown3 rfl
    case measure => simp [intOf]; omega
   ·have he : vone 1 k x s sub = 0 := He.out.2 e0
    have Hhe := Lib.hid he; clear he
    repeat' (first | go_skip | go_guarded | go_step)
    refine (Hc2.out w2 hb2 Hhe.out).mono ?_
    rintro e w4 ⟨A4, c4, rfl, h4⟩
    dsimp only
    repeat' ((fail_if_success at_builtin); first | go_skip | go_guarded | go_step)
    refine wp_appS ((hown.below hb2).below h4.2) Tryz.underlying47 u8_info h4.seq (bv_one _) ?_ ?_
    ·have h1 := Hul.out
     have h2 := Hel.out
     have h4 := encs_take_le F (i + 1)
     rw [Htake.out, if_pos Hhe.out] at h4
     simp only [List.length_append] at h1 h2 h4 ⊢
     omega
    intro v5 w5 hown5 _
    repeat' (first | go_skip | go_guarded | go_step)
    go_roundw
    case rel =>
     refine ⟨i + 1, by omega, by go_num, ?_⟩
     rw [Htake.out, if_pos Hhe.out, ← List.append_assoc]
     exact Bytes.app hown5 rfl
    case measure => simp [intOf]; omega
  ·repeat' (first | go_skip | go_guarded | go_step)
   go_ret
   have hl := fix_length f f.length
   rw [← HF.out] at hl
   rw [take_all F i (by omega)] at hown
   exact hown.ret
end Go.Proofs.YtgdapkglofchjaaGreatDoor
