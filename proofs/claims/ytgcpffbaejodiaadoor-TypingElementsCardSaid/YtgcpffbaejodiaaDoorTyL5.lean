/- Typing: the law about elements. -/
import Derived.Test.YtgcpffbaejodiaaDoorTyL1
import Derived.Test.YtgcpffbaejodiaaDoorTyEl
namespace Go.Proofs.YtgcpffbaejodiaaDoor
open Go.RowKit
set_option maxRecDepth 100000 in
set_option maxHeartbeats 6000000 in
theorem elements_law (gv : Nat) (v : Vl) (k : Int) (b : Bool) (i : Int) (s : ByteArray) (A : Option Addr) (n c : Nat) (A2 : Option Addr) (n2 c2 : Nat) (g : Nat) (t : Ty) (xb : Int) (A3 : Option Addr) (n3 c3 : Nat) (w : World) (hv : RVl gv w (fun b => b < w.heap.size) v [.int .i64 k, .bool b, .int .i64 i, .string s, .slice A n c, .slice A2 n2 c2]) (h : RTf g w (fun b => b < w.heap.size) t [.int .i64 xb, .slice A3 n3 c3]) :
  Calls Tryd.prog 7 #[.agg #[.int .i64 k, .bool b, .int .i64 i, .string s, .slice A n c, .slice A2 n2 c2], .agg #[.int .i64 xb, .slice A3 n3 c3]] w fun e w' => e = .returned (.bool true) ∧ Below w.heap.size w w' := by
 obtain ⟨gj, l, ks, rfl, rfl, hn, hn2, hs, hs2, hl2⟩ := vl_open hv
 clear hn2 hs2
 obtain ⟨vv, hvv⟩ : ∃ vv : Vl, vv = .mk k b i s l ks := ⟨_, rfl⟩
 have hvl : vv.list = l := by rw [hvv]; rfl
 have hvk : vv.kind = k := by rw [hvv]; rfl
 rw [← hvv] at hv
 replace hvv := Lib.hid hvv
 replace hvl := Lib.hid hvl
 replace hvk := Lib.hid hvk
 replace hn := Lib.hid hn
 replace hs := Lib.hid hs
 go_enter Tryd.func7, Tryd.ntmps7
 go_upto_region 1 with (fail)
 generalize hx_ : World.alloc (World.alloc w _) _ = wo1
 have hO1 : OwnB w wo1 [(w.heap.size + 1, [.int .i64 xb, .slice A3 n3 c3]), (w.heap.size, [.int .i64 k, .bool b, .int .i64 i, .string s, .slice A n c, .slice A2 n2 c2])] := by rw [← hx_]; exact ((OwnB.refl w).new #[.int .i64 k, .bool b, .int .i64 i, .string s, .slice A n c, .slice A2 n2 c2] _ (g := w.heap.size)).new #[.int .i64 xb, .slice A3 n3 c3] _ (g := w.heap.size + 1)
 clear hx_
 have c0_0 := hO1.c 0 0
 have c0_1 := hO1.c 0 1
 have cf0 := hO1.fr 0
 have c1_0 := hO1.c 1 0
 have c1_1 := hO1.c 1 1
 have c1_2 := hO1.c 1 2
 have c1_3 := hO1.c 1 3
 have c1_4 := hO1.c 1 4
 have c1_5 := hO1.c 1 5
 have cf1 := hO1.fr 1
 have hv1 := Lib.hid (RVl.at_ hv hO1.below)
 repeat' ((fail_if_success at_builtin); (first | go_skip | go_guarded | go_step))
 refine (rvalidV_any (gj + 1) vv k b i s A n c A2 n2 c2 _ hv1.out).mono ?_
 rintro e w2 ⟨rfl, hb2⟩
 dsimp only
 have hO2 : OwnB w w2 [(w.heap.size + 1, [.int .i64 xb, .slice A3 n3 c3]), (w.heap.size, [.int .i64 k, .bool b, .int .i64 i, .string s, .slice A n c, .slice A2 n2 c2])] := hO1.kept hb2
 clear c0_0 c0_1 cf0 c1_0 c1_1 c1_2 c1_3 c1_4 c1_5 cf1 hO1
 have c0_0 := hO2.c 0 0
 have c0_1 := hO2.c 0 1
 have cf0 := hO2.fr 0
 have c1_0 := hO2.c 1 0
 have c1_1 := hO2.c 1 1
 have c1_2 := hO2.c 1 2
 have c1_3 := hO2.c 1 3
 have c1_4 := hO2.c 1 4
 have c1_5 := hO2.c 1 5
 have cf1 := hO2.fr 1
 obtain ⟨ev, hev⟩ : ∃ ev, ev = validV vv := ⟨_, rfl⟩
 rw [← hev]
 by_cases hz : ev = 0
 ·
  have hok0 : validV vv = 0 := by rw [← hev, hz]
  subst hz
  replace hok0 := Lib.hid hok0
  clear hev
  have ht2 := Lib.hid (RTf.at_ h hO2.below)
  repeat' ((fail_if_success at_builtin); (first | go_skip | go_guarded | go_step))
  refine (tvalid_any g t xb A3 n3 c3 _ ht2.out).mono ?_
  rintro e w3 ⟨rfl, hb3⟩
  dsimp only
  have hO3 : OwnB w w3 [(w.heap.size + 1, [.int .i64 xb, .slice A3 n3 c3]), (w.heap.size, [.int .i64 k, .bool b, .int .i64 i, .string s, .slice A n c, .slice A2 n2 c2])] := hO2.kept hb3
  clear c0_0 c0_1 cf0 c1_0 c1_1 c1_2 c1_3 c1_4 c1_5 cf1 hO2
  have c0_0 := hO3.c 0 0
  have c0_1 := hO3.c 0 1
  have cf0 := hO3.fr 0
  have c1_0 := hO3.c 1 0
  have c1_1 := hO3.c 1 1
  have c1_2 := hO3.c 1 2
  have c1_3 := hO3.c 1 3
  have c1_4 := hO3.c 1 4
  have c1_5 := hO3.c 1 5
  have cf1 := hO3.fr 1
  cases hot : okV t with
  | none =>
   have hz := okV_none hot
   have hz2 : (validT t == 0) = false := by simpa using hz
   have hz3 : (validT t != 0) = true := by simpa using hz
   clear hz hot ht2
   generalize validT t = vt at *
   repeat' ((fail_if_success at_builtin); (first | go_skip | go_guarded | go_step))
   refine (awake_any _).mono ?_
   rintro e w9 ⟨rfl, hb9⟩
   dsimp only
   have hb := hO3.below.trans (hb9.mono hO3.below.size)
   repeat' ((fail_if_success at_builtin); (first | go_skip | go_guarded | go_step))
   go_ret
   exact ⟨rfl, hb⟩
  | some bt =>
   obtain ⟨hz, hbo, hbd, rfl⟩ := okV_some hot
   have hrb := RTf.valid h
   obtain ⟨A', n', c', hcs⟩ := hrb.form
   injection hcs with e1 e2
   injection e1 with _ e1
   injection e2 with e2 _
   injection e2 with e2 e3 e4
   subst e1 e2 e3 e4
   rw [hz]
   replace hrb := Lib.hid hrb
   replace hbo := Lib.hid hbo
   replace hbd := Lib.hid hbd
   clear hz hot ht2
   by_cases hk4 : k = 4
   ·
    subst hk4
    have hkk : (5 = 5 ∧ vv.kind = 4) ∨ (5 = 6 ∧ vv.kind = 5) := by rw [hvk.out]; omega
    replace hkk := Lib.hid hkk
    by_cases hbk : bt.kind = 5
    ·
     obtain ⟨e, rfl⟩ := of_kind hbo.out (by decide) hbk
     have hfs := fits_of hok0.out hkk.out hbo.out hbd.out
     rw [hvl.out] at hfs
     obtain ⟨-, rfl, hc1, be, oe, A4, n4, c4, rfl, hbS, ze0, ze1, hre⟩ := rv_of hrb.out
     have heo := hbo.out.2
     replace hfs := Lib.hid hfs
     replace heo := Lib.hid heo
     clear hbk hbo hbd hkk hrb
     have hO9 : OwnB w w3 [(w.heap.size + 1, [.int .i64 5, .slice (some ⟨be, oe, none⟩) 1 c3]), (w.heap.size, [.int .i64 4, .bool b, .int .i64 i, .string s, .slice A n c, .slice A2 n2 c2])] := hO3
     clear c0_0 c0_1 cf0 c1_0 c1_1 c1_2 c1_3 c1_4 c1_5 cf1 hO3
     have c0_0 := hO9.c 0 0
     have c0_1 := hO9.c 0 1
     have cf0 := hO9.fr 0
     have c1_0 := hO9.c 1 0
     have c1_1 := hO9.c 1 1
     have c1_2 := hO9.c 1 2
     have c1_3 := hO9.c 1 3
     have c1_4 := hO9.c 1 4
     have c1_5 := hO9.c 1 5
     have cf1 := hO9.fr 1
     repeat' ((fail_if_success at_builtin); (first | go_skip | go_guarded | go_step))
     go_loopw [6, 7] (fun u6 u7 wr => ∃ i' : Nat, i' ≤ n ∧ u7 = .int .i64 (i' : Int) ∧ u6 = .bool ((l.take i').all fun x => fitsS x (ofV e)) ∧ OwnB w wr [(w.heap.size + 1, [.int .i64 5, .slice (some ⟨be, oe, none⟩) 1 c3]), (w.heap.size, [.int .i64 4, .bool b, .int .i64 i, .string s, .slice A n c, .slice A2 n2 c2])]) (fun _ u7 _ => n - (intOf u7).toNat)
     case atStart => exact ⟨0, Nat.zero_le _, rfl, rfl, hO9⟩
     case round =>
      clear c0_0 c0_1 cf0 c1_0 c1_1 c1_2 c1_3 c1_4 c1_5 cf1 hO9
      obtain ⟨i', hi, rfl, rfl, hOr⟩ := hrel
      have c0_0 := hOr.c 0 0
      have c0_1 := hOr.c 0 1
      have cf0 := hOr.fr 0
      have c1_0 := hOr.c 1 0
      have c1_1 := hOr.c 1 1
      have c1_2 := hOr.c 1 2
      have c1_3 := hOr.c 1 3
      have c1_4 := hOr.c 1 4
      have c1_5 := hOr.c 1 5
      have cf1 := hOr.fr 1
      have i1 : (0 : Int) ≤ (i' : Int) := by omega
      have hb4 := hOr.below
      generalize hav : ((l.take i').all fun x => fitsS x (ofV e)) = av at *
      replace hav := Lib.hid hav
      by_cases hlt : i' < n
      ·
       have i3 : (i' : Int) < (n : Int) := by omega
       have i2 : IntKind.i64.wrap ((i' : Int) + 1) = ((i' + 1 : Nat) : Int) := by rw [IntWalk.i64_in _ (by omega)]; omega
       obtain ⟨x, hx⟩ : ∃ x, l[i']? = some x := ⟨_, List.getElem?_eq_getElem (by rw [← hn.out]; exact hlt)⟩
       obtain ⟨bx, ox, cx, rfl, hbx, hlx, hrx, hcl⟩ := hs.out.at_ hx
       obtain ⟨xk, xb2, xi, xs, XA, xn, xc, XB, xn2, xc2, rfl⟩ := vl_form hrx
       have hat := all_take (fun x => fitsS x (ofV e)) hx
       rw [hav.out] at hat
       replace hat := Lib.hid hat
       replace hx := Lib.hid hx
       have hS0 : (OwnB w wr [(w.heap.size + 1, [.int .i64 5, .slice (some ⟨be, oe, none⟩) 1 c3]), (w.heap.size, [.int .i64 4, .bool b, .int .i64 i, .string s, .slice (some ⟨bx, ox, none⟩) n c, .slice A2 n2 c2])] ∧ wr.cell? ⟨w.heap.size, 4, none⟩ = some (.slice (some ⟨bx, ox, none⟩) n c) ∧ wr.cell? ⟨w.heap.size + 1, 1, none⟩ = some (.slice (some ⟨be, oe, none⟩) 1 c3) ∧ wr.cell? ⟨bx, ox + i' * 6, none⟩ = some (.int .i64 xk) ∧ wr.cell? ⟨bx, ox + i' * 6 + 1, none⟩ = some (.bool xb2) ∧ wr.cell? ⟨bx, ox + i' * 6 + 2, none⟩ = some (.int .i64 xi) ∧ wr.cell? ⟨bx, ox + i' * 6 + 3, none⟩ = some (.string xs) ∧ wr.cell? ⟨bx, ox + i' * 6 + 4, none⟩ = some (.slice XA xn xc) ∧ wr.cell? ⟨bx, ox + i' * 6 + 5, none⟩ = some (.slice XB xn2 xc2) ∧ wr.cell? ⟨be, oe, none⟩ = some (.int .i64 (e.kind : Int)) ∧ wr.cell? ⟨be, oe + 1, none⟩ = some (.slice A4 n4 c4)) := ⟨hOr, hOr.c 1 4, hOr.c 0 1, (hb4.cell (p := ⟨bx, ox + i' * 6, none⟩) hbx).trans (hcl 0 _ rfl), (hb4.cell (p := ⟨bx, ox + i' * 6 + 1, none⟩) hbx).trans (hcl 1 _ rfl), (hb4.cell (p := ⟨bx, ox + i' * 6 + 2, none⟩) hbx).trans (hcl 2 _ rfl), (hb4.cell (p := ⟨bx, ox + i' * 6 + 3, none⟩) hbx).trans (hcl 3 _ rfl), (hb4.cell (p := ⟨bx, ox + i' * 6 + 4, none⟩) hbx).trans (hcl 4 _ rfl), (hb4.cell (p := ⟨bx, ox + i' * 6 + 5, none⟩) hbx).trans (hcl 5 _ rfl), (hb4.cell (p := ⟨be, oe, none⟩) hbS).trans (ze0), (hb4.cell (p := ⟨be, oe + 1, none⟩) hbS).trans (ze1)⟩
       have keepS : ∀ v1 v2 : World, (OwnB w v1 [(w.heap.size + 1, [.int .i64 5, .slice (some ⟨be, oe, none⟩) 1 c3]), (w.heap.size, [.int .i64 4, .bool b, .int .i64 i, .string s, .slice (some ⟨bx, ox, none⟩) n c, .slice A2 n2 c2])] ∧ v1.cell? ⟨w.heap.size, 4, none⟩ = some (.slice (some ⟨bx, ox, none⟩) n c) ∧ v1.cell? ⟨w.heap.size + 1, 1, none⟩ = some (.slice (some ⟨be, oe, none⟩) 1 c3) ∧ v1.cell? ⟨bx, ox + i' * 6, none⟩ = some (.int .i64 xk) ∧ v1.cell? ⟨bx, ox + i' * 6 + 1, none⟩ = some (.bool xb2) ∧ v1.cell? ⟨bx, ox + i' * 6 + 2, none⟩ = some (.int .i64 xi) ∧ v1.cell? ⟨bx, ox + i' * 6 + 3, none⟩ = some (.string xs) ∧ v1.cell? ⟨bx, ox + i' * 6 + 4, none⟩ = some (.slice XA xn xc) ∧ v1.cell? ⟨bx, ox + i' * 6 + 5, none⟩ = some (.slice XB xn2 xc2) ∧ v1.cell? ⟨be, oe, none⟩ = some (.int .i64 (e.kind : Int)) ∧ v1.cell? ⟨be, oe + 1, none⟩ = some (.slice A4 n4 c4)) → Below v1.heap.size v1 v2 → (OwnB w v2 [(w.heap.size + 1, [.int .i64 5, .slice (some ⟨be, oe, none⟩) 1 c3]), (w.heap.size, [.int .i64 4, .bool b, .int .i64 i, .string s, .slice (some ⟨bx, ox, none⟩) n c, .slice A2 n2 c2])] ∧ v2.cell? ⟨w.heap.size, 4, none⟩ = some (.slice (some ⟨bx, ox, none⟩) n c) ∧ v2.cell? ⟨w.heap.size + 1, 1, none⟩ = some (.slice (some ⟨be, oe, none⟩) 1 c3) ∧ v2.cell? ⟨bx, ox + i' * 6, none⟩ = some (.int .i64 xk) ∧ v2.cell? ⟨bx, ox + i' * 6 + 1, none⟩ = some (.bool xb2) ∧ v2.cell? ⟨bx, ox + i' * 6 + 2, none⟩ = some (.int .i64 xi) ∧ v2.cell? ⟨bx, ox + i' * 6 + 3, none⟩ = some (.string xs) ∧ v2.cell? ⟨bx, ox + i' * 6 + 4, none⟩ = some (.slice XA xn xc) ∧ v2.cell? ⟨bx, ox + i' * 6 + 5, none⟩ = some (.slice XB xn2 xc2) ∧ v2.cell? ⟨be, oe, none⟩ = some (.int .i64 (e.kind : Int)) ∧ v2.cell? ⟨be, oe + 1, none⟩ = some (.slice A4 n4 c4)) := fun v1 v2 h hb => ⟨h.1.kept hb, (h.1.kept hb).c 1 4, (h.1.kept hb).c 0 1, ((h.1.kept hb).below.cell (p := ⟨bx, ox + i' * 6, none⟩) hbx).trans (hcl 0 _ rfl), ((h.1.kept hb).below.cell (p := ⟨bx, ox + i' * 6 + 1, none⟩) hbx).trans (hcl 1 _ rfl), ((h.1.kept hb).below.cell (p := ⟨bx, ox + i' * 6 + 2, none⟩) hbx).trans (hcl 2 _ rfl), ((h.1.kept hb).below.cell (p := ⟨bx, ox + i' * 6 + 3, none⟩) hbx).trans (hcl 3 _ rfl), ((h.1.kept hb).below.cell (p := ⟨bx, ox + i' * 6 + 4, none⟩) hbx).trans (hcl 4 _ rfl), ((h.1.kept hb).below.cell (p := ⟨bx, ox + i' * 6 + 5, none⟩) hbx).trans (hcl 5 _ rfl), ((h.1.kept hb).below.cell (p := ⟨be, oe, none⟩) hbS).trans (ze0), ((h.1.kept hb).below.cell (p := ⟨be, oe + 1, none⟩) hbS).trans (ze1)⟩
       have hS1 : (OwnB w wr.drew [(w.heap.size + 1, [.int .i64 5, .slice (some ⟨be, oe, none⟩) 1 c3]), (w.heap.size, [.int .i64 4, .bool b, .int .i64 i, .string s, .slice (some ⟨bx, ox, none⟩) n c, .slice A2 n2 c2])] ∧ wr.drew.cell? ⟨w.heap.size, 4, none⟩ = some (.slice (some ⟨bx, ox, none⟩) n c) ∧ wr.drew.cell? ⟨w.heap.size + 1, 1, none⟩ = some (.slice (some ⟨be, oe, none⟩) 1 c3) ∧ wr.drew.cell? ⟨bx, ox + i' * 6, none⟩ = some (.int .i64 xk) ∧ wr.drew.cell? ⟨bx, ox + i' * 6 + 1, none⟩ = some (.bool xb2) ∧ wr.drew.cell? ⟨bx, ox + i' * 6 + 2, none⟩ = some (.int .i64 xi) ∧ wr.drew.cell? ⟨bx, ox + i' * 6 + 3, none⟩ = some (.string xs) ∧ wr.drew.cell? ⟨bx, ox + i' * 6 + 4, none⟩ = some (.slice XA xn xc) ∧ wr.drew.cell? ⟨bx, ox + i' * 6 + 5, none⟩ = some (.slice XB xn2 xc2) ∧ wr.drew.cell? ⟨be, oe, none⟩ = some (.int .i64 (e.kind : Int)) ∧ wr.drew.cell? ⟨be, oe + 1, none⟩ = some (.slice A4 n4 c4)) := keepS _ _ hS0 ((Below.refl _ _).drew)
       replace keepS := Lib.hid keepS
       clear hS0 hcl
       have hrx3 := fun w' (q : OwnB w w' [(w.heap.size + 1, [.int .i64 5, .slice (some ⟨be, oe, none⟩) 1 c3]), (w.heap.size, [.int .i64 4, .bool b, .int .i64 i, .string s, .slice (some ⟨bx, ox, none⟩) n c, .slice A2 n2 c2])]) => RVl.at_ hrx q.below
       have hre3 := fun w' (q : OwnB w w' [(w.heap.size + 1, [.int .i64 5, .slice (some ⟨be, oe, none⟩) 1 c3]), (w.heap.size, [.int .i64 4, .bool b, .int .i64 i, .string s, .slice (some ⟨bx, ox, none⟩) n c, .slice A2 n2 c2])]) => RV.ty ((RV.imp (hre.map (fun _ hp => q.below.cell hp) (fun _ h => h)) (fun b (hb : b < w.heap.size) => Nat.lt_of_lt_of_le hb q.below.size)))
       replace hrx3 := Lib.hid hrx3
       replace hre3 := Lib.hid hre3
       clear hrx
       cases av with
       | true =>
        go_upto_region 12 with (fail)
        refine wp_region_held_drew (S := fun w' => OwnB w w' [(w.heap.size + 1, [.int .i64 5, .slice (some ⟨be, oe, none⟩) 1 c3]), (w.heap.size, [.int .i64 4, .bool b, .int .i64 i, .string s, .slice (some ⟨bx, ox, none⟩) n c, .slice A2 n2 c2])] ∧ w'.cell? ⟨w.heap.size, 4, none⟩ = some (.slice (some ⟨bx, ox, none⟩) n c) ∧ w'.cell? ⟨w.heap.size + 1, 1, none⟩ = some (.slice (some ⟨be, oe, none⟩) 1 c3) ∧ w'.cell? ⟨bx, ox + i' * 6, none⟩ = some (.int .i64 xk) ∧ w'.cell? ⟨bx, ox + i' * 6 + 1, none⟩ = some (.bool xb2) ∧ w'.cell? ⟨bx, ox + i' * 6 + 2, none⟩ = some (.int .i64 xi) ∧ w'.cell? ⟨bx, ox + i' * 6 + 3, none⟩ = some (.string xs) ∧ w'.cell? ⟨bx, ox + i' * 6 + 4, none⟩ = some (.slice XA xn xc) ∧ w'.cell? ⟨bx, ox + i' * 6 + 5, none⟩ = some (.slice XB xn2 xc2) ∧ w'.cell? ⟨be, oe, none⟩ = some (.int .i64 (e.kind : Int)) ∧ w'.cell? ⟨be, oe + 1, none⟩ = some (.slice A4 n4 c4)) (by kernel_rfl) ?_ (fun hHeld => ?_)
        ·
         (try dsimp only)
         exact hS1
        refine wpAnyH_take (i := 0) (v := ?v54) rfl (by kernel_rfl) (by kernel_rfl) (by kernel_rfl) (fun _ _ _ h => h) (Or.inl ⟨by rfl, ?hy54⟩) (by assumption) ?rest54
        case hy54 => (intro w hSw; (try dsimp only at hSw); go_simp; try with_reducible rfl)
        simp only [Act.put, List.getElem_toArray, List.getElem_cons_zero, List.getElem_cons_succ, List.setIfInBounds_toArray, List.set_cons_zero, List.set_cons_succ]
        refine wpAnyH_take (i := 1) (v := ?v55) rfl (by kernel_rfl) (by kernel_rfl) (by kernel_rfl) (fun _ _ _ h => h) (Or.inl ⟨by rfl, ?hy55⟩) (by assumption) ?rest55
        case hy55 => (intro w hSw; (try dsimp only at hSw); go_simp; try with_reducible rfl)
        simp only [Act.put, List.getElem_toArray, List.getElem_cons_zero, List.getElem_cons_succ, List.setIfInBounds_toArray, List.set_cons_zero, List.set_cons_succ]
        refine wpAnyH_take (i := 2) (v := ?v56) rfl (by kernel_rfl) (by kernel_rfl) (by kernel_rfl) (fun _ _ _ h => h) (Or.inl ⟨by rfl, ?hy56⟩) (by assumption) ?rest56
        case hy56 => (intro w hSw; (try dsimp only at hSw); go_simp; try with_reducible rfl)
        simp only [Act.put, List.getElem_toArray, List.getElem_cons_zero, List.getElem_cons_succ, List.setIfInBounds_toArray, List.set_cons_zero, List.set_cons_succ]
        refine wpAnyH_take (i := 3) (v := ?v57) rfl (by kernel_rfl) (by kernel_rfl) (by kernel_rfl) (fun _ _ _ h => h) (Or.inl ⟨by rfl, ?hy57⟩) (by assumption) ?rest57
        case hy57 => (intro w hSw; (try dsimp only at hSw); go_simp; try with_reducible rfl)
        simp only [Act.put, List.getElem_toArray, List.getElem_cons_zero, List.getElem_cons_succ, List.setIfInBounds_toArray, List.set_cons_zero, List.set_cons_succ]
        refine wpAnyH_take (i := 4) (v := ?v58) rfl (by kernel_rfl) (by kernel_rfl) (by kernel_rfl) (fun _ _ _ h => h) (Or.inl ⟨by rfl, ?hy58⟩) (by assumption) ?rest58
        case hy58 => (intro w hSw; (try dsimp only at hSw); go_simp; try with_reducible rfl)
        simp only [Act.put, List.getElem_toArray, List.getElem_cons_zero, List.getElem_cons_succ, List.setIfInBounds_toArray, List.set_cons_zero, List.set_cons_succ]
        refine wpAnyH_take (i := 5) (v := ?v59) rfl (by kernel_rfl) (by kernel_rfl) (by kernel_rfl) (fun _ _ _ h => h) (Or.inl ⟨by rfl, ?hy59⟩) (by assumption) ?rest59
        case hy59 => (intro w hSw; (try dsimp only at hSw); go_simp; try with_reducible rfl)
        simp only [Act.put, List.getElem_toArray, List.getElem_cons_zero, List.getElem_cons_succ, List.setIfInBounds_toArray, List.set_cons_zero, List.set_cons_succ]
        refine wpAnyH_take (i := 6) (v := ?v60) rfl (by kernel_rfl) (by kernel_rfl) (by kernel_rfl) (fun _ _ _ h => h) (Or.inl ⟨by rfl, ?hy60⟩) (by assumption) ?rest60
        case hy60 => (intro w hSw; (try dsimp only at hSw); go_simp; try with_reducible rfl)
        simp only [Act.put, List.getElem_toArray, List.getElem_cons_zero, List.getElem_cons_succ, List.setIfInBounds_toArray, List.set_cons_zero, List.set_cons_succ]
        refine wpAnyH_take (i := 7) (v := ?v61) rfl (by kernel_rfl) (by kernel_rfl) (by kernel_rfl) (fun _ _ _ h => h) (Or.inl ⟨by rfl, ?hy61⟩) (by assumption) ?rest61
        case hy61 => (intro w hSw; (try dsimp only at hSw); go_simp; try with_reducible rfl)
        simp only [Act.put, List.getElem_toArray, List.getElem_cons_zero, List.getElem_cons_succ, List.setIfInBounds_toArray, List.set_cons_zero, List.set_cons_succ]
        refine wpAnyH_take (i := 8) (v := ?v62) rfl (by kernel_rfl) (by kernel_rfl) (by kernel_rfl) (fun _ _ _ h => h) (Or.inl ⟨by rfl, ?hy62⟩) (by assumption) ?rest62
        case hy62 => (intro w hSw; (try dsimp only at hSw); go_simp; try with_reducible rfl)
        simp only [Act.put, List.getElem_toArray, List.getElem_cons_zero, List.getElem_cons_succ, List.setIfInBounds_toArray, List.set_cons_zero, List.set_cons_succ]
        refine wpAnyH_take (i := 9) (v := ?v63) rfl (by kernel_rfl) (by kernel_rfl) (by kernel_rfl) (fun _ _ _ h => h) (Or.inl ⟨by rfl, ?hy63⟩) (by assumption) ?rest63
        case hy63 => (intro w hSw; (try dsimp only at hSw); go_simp; try with_reducible rfl)
        simp only [Act.put, List.getElem_toArray, List.getElem_cons_zero, List.getElem_cons_succ, List.setIfInBounds_toArray, List.set_cons_zero, List.set_cons_succ]
        refine wpAnyH_take (i := 10) (v := ?v64) rfl (by kernel_rfl) (by kernel_rfl) (by kernel_rfl) (fun _ _ _ h => h) (Or.inl ⟨by rfl, ?hy64⟩) (by assumption) ?rest64
        case hy64 => (intro w hSw; (try dsimp only at hSw); go_simp; try with_reducible rfl)
        simp only [Act.put, List.getElem_toArray, List.getElem_cons_zero, List.getElem_cons_succ, List.setIfInBounds_toArray, List.set_cons_zero, List.set_cons_succ]
        refine wpAnyH_ready (rs := [11]) (by kernel_rfl) (by simp) ?_
        refine AllReadyH.cons rfl (fun K hK => ?_) AllReadyH.nil
        go_simp
        go_at_call 17
        refine (tfits_any gj x xk xb2 xi xs XA xn xc XB xn2 xc2 e.depth (ofV e) _ A4 n4 c4 _ (hrx3.out _ hHeld.1) (hre3.out _ hHeld.1)).mono ?_
        rintro e7 w7 ⟨rfl, hbq⟩
        dsimp only
        refine hK.out _ _ ?_ (fun hHeld => ?_)
        ·
         (try dsimp only)
         exact keepS.out _ _ hHeld hbq
        clear hK K
        try simp only [Act.put, List.getElem_toArray, List.getElem_cons_zero, List.getElem_cons_succ, List.setIfInBounds_toArray, List.set_cons_zero, List.set_cons_succ]
        refine wpAnyH_take (i := 12) (v := ?v65) rfl (by kernel_rfl) (by kernel_rfl) (by kernel_rfl) (fun _ _ _ h => h) (Or.inl ⟨by rfl, ?hy65⟩) (by assumption) ?rest65
        case hy65 => (intro w hSw; (try dsimp only at hSw); go_simp; try with_reducible rfl)
        simp only [Act.put, List.getElem_toArray, List.getElem_cons_zero, List.getElem_cons_succ, List.setIfInBounds_toArray, List.set_cons_zero, List.set_cons_succ]
        refine wpAnyH_take (i := 13) (v := ?v66) rfl (by kernel_rfl) (by kernel_rfl) (by kernel_rfl) (fun _ _ _ h => h) (Or.inl ⟨by rfl, ?hy66⟩) (by assumption) ?rest66
        case hy66 => (intro w hSw; (try dsimp only at hSw); go_simp; try with_reducible rfl)
        simp only [Act.put, List.getElem_toArray, List.getElem_cons_zero, List.getElem_cons_succ, List.setIfInBounds_toArray, List.set_cons_zero, List.set_cons_succ]
        refine wpAnyH_done (by kernel_rfl) ?_ _
        have hO8 := hHeld.1
        repeat' ((fail_if_success at_builtin); (first | go_skip | go_guarded | go_step))
        go_roundw
        case rel => exact ⟨i' + 1, by omega, by first | rfl | go_num, by rw [hat.out]; rfl, hO8⟩
        case measure => (try go_num); (try simp [intOf]); (try omega)
       | false =>
        go_upto_region 12 with (fail)
        refine wp_region_held_drew (S := fun w' => OwnB w w' [(w.heap.size + 1, [.int .i64 5, .slice (some ⟨be, oe, none⟩) 1 c3]), (w.heap.size, [.int .i64 4, .bool b, .int .i64 i, .string s, .slice (some ⟨bx, ox, none⟩) n c, .slice A2 n2 c2])] ∧ w'.cell? ⟨w.heap.size, 4, none⟩ = some (.slice (some ⟨bx, ox, none⟩) n c) ∧ w'.cell? ⟨w.heap.size + 1, 1, none⟩ = some (.slice (some ⟨be, oe, none⟩) 1 c3) ∧ w'.cell? ⟨bx, ox + i' * 6, none⟩ = some (.int .i64 xk) ∧ w'.cell? ⟨bx, ox + i' * 6 + 1, none⟩ = some (.bool xb2) ∧ w'.cell? ⟨bx, ox + i' * 6 + 2, none⟩ = some (.int .i64 xi) ∧ w'.cell? ⟨bx, ox + i' * 6 + 3, none⟩ = some (.string xs) ∧ w'.cell? ⟨bx, ox + i' * 6 + 4, none⟩ = some (.slice XA xn xc) ∧ w'.cell? ⟨bx, ox + i' * 6 + 5, none⟩ = some (.slice XB xn2 xc2) ∧ w'.cell? ⟨be, oe, none⟩ = some (.int .i64 (e.kind : Int)) ∧ w'.cell? ⟨be, oe + 1, none⟩ = some (.slice A4 n4 c4)) (by kernel_rfl) ?_ (fun hHeld => ?_)
        ·
         (try dsimp only)
         exact hS1
        refine wpAnyH_take (i := 0) (v := ?v67) rfl (by kernel_rfl) (by kernel_rfl) (by kernel_rfl) (fun _ _ _ h => h) (Or.inl ⟨by rfl, ?hy67⟩) (by assumption) ?rest67
        case hy67 => (intro w hSw; (try dsimp only at hSw); go_simp; try with_reducible rfl)
        simp only [Act.put, List.getElem_toArray, List.getElem_cons_zero, List.getElem_cons_succ, List.setIfInBounds_toArray, List.set_cons_zero, List.set_cons_succ]
        refine wpAnyH_take (i := 1) (v := ?v68) rfl (by kernel_rfl) (by kernel_rfl) (by kernel_rfl) (fun _ _ _ h => h) (Or.inl ⟨by rfl, ?hy68⟩) (by assumption) ?rest68
        case hy68 => (intro w hSw; (try dsimp only at hSw); go_simp; try with_reducible rfl)
        simp only [Act.put, List.getElem_toArray, List.getElem_cons_zero, List.getElem_cons_succ, List.setIfInBounds_toArray, List.set_cons_zero, List.set_cons_succ]
        refine wpAnyH_take (i := 2) (v := undef) rfl (by kernel_rfl) (by kernel_rfl) (by kernel_rfl) (fun _ _ _ h => h) (Or.inr ⟨by rfl, rfl⟩) (by assumption) ?_
        simp only [Act.put, List.getElem_toArray, List.getElem_cons_zero, List.getElem_cons_succ, List.setIfInBounds_toArray, List.set_cons_zero, List.set_cons_succ]
        refine wpAnyH_take (i := 3) (v := undef) rfl (by kernel_rfl) (by kernel_rfl) (by kernel_rfl) (fun _ _ _ h => h) (Or.inr ⟨by rfl, rfl⟩) (by assumption) ?_
        simp only [Act.put, List.getElem_toArray, List.getElem_cons_zero, List.getElem_cons_succ, List.setIfInBounds_toArray, List.set_cons_zero, List.set_cons_succ]
        refine wpAnyH_take (i := 4) (v := undef) rfl (by kernel_rfl) (by kernel_rfl) (by kernel_rfl) (fun _ _ _ h => h) (Or.inr ⟨by rfl, rfl⟩) (by assumption) ?_
        simp only [Act.put, List.getElem_toArray, List.getElem_cons_zero, List.getElem_cons_succ, List.setIfInBounds_toArray, List.set_cons_zero, List.set_cons_succ]
        refine wpAnyH_take (i := 5) (v := undef) rfl (by kernel_rfl) (by kernel_rfl) (by kernel_rfl) (fun _ _ _ h => h) (Or.inr ⟨by rfl, rfl⟩) (by assumption) ?_
        simp only [Act.put, List.getElem_toArray, List.getElem_cons_zero, List.getElem_cons_succ, List.setIfInBounds_toArray, List.set_cons_zero, List.set_cons_succ]
        refine wpAnyH_take (i := 6) (v := undef) rfl (by kernel_rfl) (by kernel_rfl) (by kernel_rfl) (fun _ _ _ h => h) (Or.inr ⟨by rfl, rfl⟩) (by assumption) ?_
        simp only [Act.put, List.getElem_toArray, List.getElem_cons_zero, List.getElem_cons_succ, List.setIfInBounds_toArray, List.set_cons_zero, List.set_cons_succ]
        refine wpAnyH_take (i := 7) (v := undef) rfl (by kernel_rfl) (by kernel_rfl) (by kernel_rfl) (fun _ _ _ h => h) (Or.inr ⟨by rfl, rfl⟩) (by assumption) ?_
        simp only [Act.put, List.getElem_toArray, List.getElem_cons_zero, List.getElem_cons_succ, List.setIfInBounds_toArray, List.set_cons_zero, List.set_cons_succ]
        refine wpAnyH_take (i := 8) (v := undef) rfl (by kernel_rfl) (by kernel_rfl) (by kernel_rfl) (fun _ _ _ h => h) (Or.inr ⟨by rfl, rfl⟩) (by assumption) ?_
        simp only [Act.put, List.getElem_toArray, List.getElem_cons_zero, List.getElem_cons_succ, List.setIfInBounds_toArray, List.set_cons_zero, List.set_cons_succ]
        refine wpAnyH_take (i := 9) (v := undef) rfl (by kernel_rfl) (by kernel_rfl) (by kernel_rfl) (fun _ _ _ h => h) (Or.inr ⟨by rfl, rfl⟩) (by assumption) ?_
        simp only [Act.put, List.getElem_toArray, List.getElem_cons_zero, List.getElem_cons_succ, List.setIfInBounds_toArray, List.set_cons_zero, List.set_cons_succ]
        refine wpAnyH_take (i := 10) (v := undef) rfl (by kernel_rfl) (by kernel_rfl) (by kernel_rfl) (fun _ _ _ h => h) (Or.inr ⟨by rfl, rfl⟩) (by assumption) ?_
        simp only [Act.put, List.getElem_toArray, List.getElem_cons_zero, List.getElem_cons_succ, List.setIfInBounds_toArray, List.set_cons_zero, List.set_cons_succ]
        refine wpAnyH_take (i := 11) (v := undef) rfl (by kernel_rfl) (by kernel_rfl) (by kernel_rfl) (fun _ _ _ h => h) (Or.inr ⟨by rfl, rfl⟩) (by assumption) ?_
        simp only [Act.put, List.getElem_toArray, List.getElem_cons_zero, List.getElem_cons_succ, List.setIfInBounds_toArray, List.set_cons_zero, List.set_cons_succ]
        refine wpAnyH_take (i := 12) (v := ?v69) rfl (by kernel_rfl) (by kernel_rfl) (by kernel_rfl) (fun _ _ _ h => h) (Or.inl ⟨by rfl, ?hy69⟩) (by assumption) ?rest69
        case hy69 => (intro w hSw; (try dsimp only at hSw); go_simp; try with_reducible rfl)
        simp only [Act.put, List.getElem_toArray, List.getElem_cons_zero, List.getElem_cons_succ, List.setIfInBounds_toArray, List.set_cons_zero, List.set_cons_succ]
        refine wpAnyH_take (i := 13) (v := ?v70) rfl (by kernel_rfl) (by kernel_rfl) (by kernel_rfl) (fun _ _ _ h => h) (Or.inl ⟨by rfl, ?hy70⟩) (by assumption) ?rest70
        case hy70 => (intro w hSw; (try dsimp only at hSw); go_simp; try with_reducible rfl)
        simp only [Act.put, List.getElem_toArray, List.getElem_cons_zero, List.getElem_cons_succ, List.setIfInBounds_toArray, List.set_cons_zero, List.set_cons_succ]
        refine wpAnyH_done (by kernel_rfl) ?_ _
        have hO8 := hHeld.1
        repeat' ((fail_if_success at_builtin); (first | go_skip | go_guarded | go_step))
        go_roundw
        case rel => exact ⟨i' + 1, by omega, by first | rfl | go_num, by rw [hat.out]; rfl, hO8⟩
        case measure => (try go_num); (try simp [intOf]); (try omega)
      ·
       obtain rfl : i' = n := by omega
       have i3 : ¬ (i' : Int) < (i' : Int) := by omega
       have hav2 : (l.all fun x => fitsS x (ofV e)) = av := by rw [← hav.out, List.take_of_length_le (by rw [← hn.out]; exact Nat.le_refl _)]
       have hv4 := Lib.hid (RVl.at_ hv hb4)
       have ht4 := Lib.hid (RTf.at_ h hb4)
       have hfs2 := hfs.out
       rw [hav2] at hfs2
       replace hfs2 := Lib.hid hfs2
       clear hfs
       clear hav2 hav
       repeat' ((fail_if_success at_builtin); (first | go_skip | go_guarded | go_step))
       have CJ := tfits_any (gj + 1) vv 4 b i s A i' c A2 n2 c2 g (ofV (.of 5 e)) 5 (some ⟨be, oe, none⟩) 1 c3 wr hv4.out ht4.out
       rw [hfs2.out] at CJ
       refine CJ.mono ?_
       clear CJ
       rintro e5 w5 ⟨rfl, hb5⟩
       dsimp only
       have hOe := hOr.kept hb5
       repeat' ((fail_if_success at_builtin); (first | go_skip | go_guarded | go_step))
       refine (awake_any _).mono ?_
       rintro e6 w6 ⟨rfl, hb6⟩
       dsimp only
       have hb := (hOe.kept hb6).below
       repeat' ((fail_if_success at_builtin); (first | go_skip | go_guarded | go_step))
       go_ret
       exact ⟨rfl, hb⟩
    ·
     have hfo := fits_other hok0.out hkk.out hbo.out hbd.out hbk
     have hk2 : ((bt.kind : Int) == 5) = false := by simp; omega
     have hk3 : ((bt.kind : Int) != 5) = true := by simp; omega
     replace hfo := Lib.hid hfo
     clear hbk
     have hv3 := Lib.hid (RVl.at_ hv hO3.below)
     have ht3 := Lib.hid (RTf.at_ h hO3.below)
     go_upto_region 7 with (fail)
     have hS0 : (Below w3.heap.size w3 w3 ∧ w3.cell? ⟨w.heap.size + 1, 0, none⟩ = some (.int .i64 (bt.kind : Int)) ∧ w3.cell? ⟨w.heap.size + 1, 1, none⟩ = some (.slice A3 n3 c3) ∧ w3.cell? ⟨w.heap.size, 0, none⟩ = some (.int .i64 4) ∧ w3.cell? ⟨w.heap.size, 1, none⟩ = some (.bool b) ∧ w3.cell? ⟨w.heap.size, 2, none⟩ = some (.int .i64 i) ∧ w3.cell? ⟨w.heap.size, 3, none⟩ = some (.string s) ∧ w3.cell? ⟨w.heap.size, 4, none⟩ = some (.slice A n c) ∧ w3.cell? ⟨w.heap.size, 5, none⟩ = some (.slice A2 n2 c2)) := ⟨Below.refl _ _, hO3.c 0 0, hO3.c 0 1, hO3.c 1 0, hO3.c 1 1, hO3.c 1 2, hO3.c 1 3, hO3.c 1 4, hO3.c 1 5⟩
     have keepS : ∀ v1 v2 : World, (Below w3.heap.size w3 v1 ∧ v1.cell? ⟨w.heap.size + 1, 0, none⟩ = some (.int .i64 (bt.kind : Int)) ∧ v1.cell? ⟨w.heap.size + 1, 1, none⟩ = some (.slice A3 n3 c3) ∧ v1.cell? ⟨w.heap.size, 0, none⟩ = some (.int .i64 4) ∧ v1.cell? ⟨w.heap.size, 1, none⟩ = some (.bool b) ∧ v1.cell? ⟨w.heap.size, 2, none⟩ = some (.int .i64 i) ∧ v1.cell? ⟨w.heap.size, 3, none⟩ = some (.string s) ∧ v1.cell? ⟨w.heap.size, 4, none⟩ = some (.slice A n c) ∧ v1.cell? ⟨w.heap.size, 5, none⟩ = some (.slice A2 n2 c2)) → Below v1.heap.size v1 v2 → (Below w3.heap.size w3 v2 ∧ v2.cell? ⟨w.heap.size + 1, 0, none⟩ = some (.int .i64 (bt.kind : Int)) ∧ v2.cell? ⟨w.heap.size + 1, 1, none⟩ = some (.slice A3 n3 c3) ∧ v2.cell? ⟨w.heap.size, 0, none⟩ = some (.int .i64 4) ∧ v2.cell? ⟨w.heap.size, 1, none⟩ = some (.bool b) ∧ v2.cell? ⟨w.heap.size, 2, none⟩ = some (.int .i64 i) ∧ v2.cell? ⟨w.heap.size, 3, none⟩ = some (.string s) ∧ v2.cell? ⟨w.heap.size, 4, none⟩ = some (.slice A n c) ∧ v2.cell? ⟨w.heap.size, 5, none⟩ = some (.slice A2 n2 c2)) := fun v1 v2 h hb => ⟨h.1.trans (hb.mono h.1.size), (hO3.kept (h.1.trans (hb.mono h.1.size))).c 0 0, (hO3.kept (h.1.trans (hb.mono h.1.size))).c 0 1, (hO3.kept (h.1.trans (hb.mono h.1.size))).c 1 0, (hO3.kept (h.1.trans (hb.mono h.1.size))).c 1 1, (hO3.kept (h.1.trans (hb.mono h.1.size))).c 1 2, (hO3.kept (h.1.trans (hb.mono h.1.size))).c 1 3, (hO3.kept (h.1.trans (hb.mono h.1.size))).c 1 4, (hO3.kept (h.1.trans (hb.mono h.1.size))).c 1 5⟩
     have hS1 : (Below w3.heap.size w3 w3.drew ∧ w3.drew.cell? ⟨w.heap.size + 1, 0, none⟩ = some (.int .i64 (bt.kind : Int)) ∧ w3.drew.cell? ⟨w.heap.size + 1, 1, none⟩ = some (.slice A3 n3 c3) ∧ w3.drew.cell? ⟨w.heap.size, 0, none⟩ = some (.int .i64 4) ∧ w3.drew.cell? ⟨w.heap.size, 1, none⟩ = some (.bool b) ∧ w3.drew.cell? ⟨w.heap.size, 2, none⟩ = some (.int .i64 i) ∧ w3.drew.cell? ⟨w.heap.size, 3, none⟩ = some (.string s) ∧ w3.drew.cell? ⟨w.heap.size, 4, none⟩ = some (.slice A n c) ∧ w3.drew.cell? ⟨w.heap.size, 5, none⟩ = some (.slice A2 n2 c2)) := keepS _ _ hS0 ((Below.refl _ _).drew)
     replace keepS := Lib.hid keepS
     clear hS0
     refine wp_region_held_drew (S := fun w' => Below w3.heap.size w3 w' ∧ w'.cell? ⟨w.heap.size + 1, 0, none⟩ = some (.int .i64 (bt.kind : Int)) ∧ w'.cell? ⟨w.heap.size + 1, 1, none⟩ = some (.slice A3 n3 c3) ∧ w'.cell? ⟨w.heap.size, 0, none⟩ = some (.int .i64 4) ∧ w'.cell? ⟨w.heap.size, 1, none⟩ = some (.bool b) ∧ w'.cell? ⟨w.heap.size, 2, none⟩ = some (.int .i64 i) ∧ w'.cell? ⟨w.heap.size, 3, none⟩ = some (.string s) ∧ w'.cell? ⟨w.heap.size, 4, none⟩ = some (.slice A n c) ∧ w'.cell? ⟨w.heap.size, 5, none⟩ = some (.slice A2 n2 c2)) (by kernel_rfl) ?_ (fun hHeld => ?_)
     ·
      (try dsimp only)
      exact hS1
     refine wpAnyH_take (i := 0) (v := ?v45) rfl (by kernel_rfl) (by kernel_rfl) (by kernel_rfl) (fun _ _ _ h => h) (Or.inl ⟨by rfl, ?hy45⟩) (by assumption) ?rest45
     case hy45 => (intro w hSw; (try dsimp only at hSw); go_simp; try with_reducible rfl)
     simp only [Act.put, List.getElem_toArray, List.getElem_cons_zero, List.getElem_cons_succ, List.setIfInBounds_toArray, List.set_cons_zero, List.set_cons_succ]
     refine wpAnyH_take (i := 1) (v := ?v46) rfl (by kernel_rfl) (by kernel_rfl) (by kernel_rfl) (fun _ _ _ h => h) (Or.inl ⟨by rfl, ?hy46⟩) (by assumption) ?rest46
     case hy46 => (intro w hSw; (try dsimp only at hSw); go_simp; try with_reducible rfl)
     simp only [Act.put, List.getElem_toArray, List.getElem_cons_zero, List.getElem_cons_succ, List.setIfInBounds_toArray, List.set_cons_zero, List.set_cons_succ]
     refine wpAnyH_take (i := 3) (v := ?v47) rfl (by kernel_rfl) (by kernel_rfl) (by kernel_rfl) (fun _ _ _ h => h) (Or.inl ⟨by rfl, ?hy47⟩) (by assumption) ?rest47
     case hy47 => (intro w hSw; (try dsimp only at hSw); go_simp; try with_reducible rfl)
     simp only [Act.put, List.getElem_toArray, List.getElem_cons_zero, List.getElem_cons_succ, List.setIfInBounds_toArray, List.set_cons_zero, List.set_cons_succ]
     refine wpAnyH_take (i := 4) (v := ?v48) rfl (by kernel_rfl) (by kernel_rfl) (by kernel_rfl) (fun _ _ _ h => h) (Or.inl ⟨by rfl, ?hy48⟩) (by assumption) ?rest48
     case hy48 => (intro w hSw; (try dsimp only at hSw); go_simp; try with_reducible rfl)
     simp only [Act.put, List.getElem_toArray, List.getElem_cons_zero, List.getElem_cons_succ, List.setIfInBounds_toArray, List.set_cons_zero, List.set_cons_succ]
     refine wpAnyH_take (i := 5) (v := ?v49) rfl (by kernel_rfl) (by kernel_rfl) (by kernel_rfl) (fun _ _ _ h => h) (Or.inl ⟨by rfl, ?hy49⟩) (by assumption) ?rest49
     case hy49 => (intro w hSw; (try dsimp only at hSw); go_simp; try with_reducible rfl)
     simp only [Act.put, List.getElem_toArray, List.getElem_cons_zero, List.getElem_cons_succ, List.setIfInBounds_toArray, List.set_cons_zero, List.set_cons_succ]
     refine wpAnyH_ready (rs := [2]) (by kernel_rfl) (by simp) ?_
     refine AllReadyH.cons rfl (fun K hK => ?_) AllReadyH.nil
     go_simp
     go_at_call 17
     have CJ := tfits_any (gj + 1) vv 4 b i s A n c A2 n2 c2 g (ofV bt) _ A3 n3 c3 _ (RVl.at_ hv3.out hHeld.1) (RTf.at_ ht3.out hHeld.1)
     rw [hfo.out] at CJ
     refine CJ.mono ?_
     clear CJ
     rintro e r7_2 ⟨rfl, hb7_2⟩
     dsimp only
     have hbq := hb7_2
     refine hK.out _ _ ?_ (fun hHeld => ?_)
     ·
      (try dsimp only)
      exact keepS.out _ _ hHeld hbq
     clear hK K
     try simp only [Act.put, List.getElem_toArray, List.getElem_cons_zero, List.getElem_cons_succ, List.setIfInBounds_toArray, List.set_cons_zero, List.set_cons_succ]
     refine wpAnyH_take (i := 6) (v := ?v50) rfl (by kernel_rfl) (by kernel_rfl) (by kernel_rfl) (fun _ _ _ h => h) (Or.inl ⟨by rfl, ?hy50⟩) (by assumption) ?rest50
     case hy50 => (intro w hSw; (try dsimp only at hSw); go_simp; try with_reducible rfl)
     simp only [Act.put, List.getElem_toArray, List.getElem_cons_zero, List.getElem_cons_succ, List.setIfInBounds_toArray, List.set_cons_zero, List.set_cons_succ]
     refine wpAnyH_take (i := 7) (v := ?v51) rfl (by kernel_rfl) (by kernel_rfl) (by kernel_rfl) (fun _ _ _ h => h) (Or.inl ⟨by rfl, ?hy51⟩) (by assumption) ?rest51
     case hy51 => (intro w hSw; (try dsimp only at hSw); go_simp; try with_reducible rfl)
     simp only [Act.put, List.getElem_toArray, List.getElem_cons_zero, List.getElem_cons_succ, List.setIfInBounds_toArray, List.set_cons_zero, List.set_cons_succ]
     refine wpAnyH_ready (rs := [8]) (by kernel_rfl) (by simp) ?_
     refine AllReadyH.cons rfl (fun K hK => ?_) AllReadyH.nil
     go_simp
     go_at_call 13
     refine (awake_any _).mono ?_
     rintro e r7_8 ⟨rfl, hb7_8⟩
     dsimp only
     have hbq := hb7_8
     refine hK.out _ _ ?_ (fun hHeld => ?_)
     ·
      (try dsimp only)
      exact keepS.out _ _ hHeld hbq
     clear hK K
     try simp only [Act.put, List.getElem_toArray, List.getElem_cons_zero, List.getElem_cons_succ, List.setIfInBounds_toArray, List.set_cons_zero, List.set_cons_succ]
     refine wpAnyH_take (i := 9) (v := ?v52) rfl (by kernel_rfl) (by kernel_rfl) (by kernel_rfl) (fun _ _ _ h => h) (Or.inl ⟨by rfl, ?hy52⟩) (by assumption) ?rest52
     case hy52 => (intro w hSw; (try dsimp only at hSw); go_simp; try with_reducible rfl)
     simp only [Act.put, List.getElem_toArray, List.getElem_cons_zero, List.getElem_cons_succ, List.setIfInBounds_toArray, List.set_cons_zero, List.set_cons_succ]
     refine wpAnyH_take (i := 10) (v := ?v53) rfl (by kernel_rfl) (by kernel_rfl) (by kernel_rfl) (fun _ _ _ h => h) (Or.inl ⟨by rfl, ?hy53⟩) (by assumption) ?rest53
     case hy53 => (intro w hSw; (try dsimp only at hSw); go_simp; try with_reducible rfl)
     simp only [Act.put, List.getElem_toArray, List.getElem_cons_zero, List.getElem_cons_succ, List.setIfInBounds_toArray, List.set_cons_zero, List.set_cons_succ]
     refine wpAnyH_done (by kernel_rfl) ?_ _
     have hb := hO3.below.trans (hHeld.1.mono hO3.below.size)
     repeat' ((fail_if_success at_builtin); (first | go_skip | go_guarded | go_step))
     go_ret
     exact ⟨rfl, hb⟩
   by_cases hk5 : k = 5
   ·
    subst hk5
    have hkk : (6 = 5 ∧ vv.kind = 4) ∨ (6 = 6 ∧ vv.kind = 5) := by rw [hvk.out]; omega
    replace hkk := Lib.hid hkk
    by_cases hbk : bt.kind = 6
    ·
     obtain ⟨e, rfl⟩ := of_kind hbo.out (by decide) hbk
     have hfs := fits_of hok0.out hkk.out hbo.out hbd.out
     rw [hvl.out] at hfs
     obtain ⟨-, rfl, hc1, be, oe, A4, n4, c4, rfl, hbS, ze0, ze1, hre⟩ := rv_of hrb.out
     have heo := hbo.out.2
     replace hfs := Lib.hid hfs
     replace heo := Lib.hid heo
     clear hbk hbo hbd hkk hrb
     have hO9 : OwnB w w3 [(w.heap.size + 1, [.int .i64 6, .slice (some ⟨be, oe, none⟩) 1 c3]), (w.heap.size, [.int .i64 5, .bool b, .int .i64 i, .string s, .slice A n c, .slice A2 n2 c2])] := hO3
     clear c0_0 c0_1 cf0 c1_0 c1_1 c1_2 c1_3 c1_4 c1_5 cf1 hO3
     have c0_0 := hO9.c 0 0
     have c0_1 := hO9.c 0 1
     have cf0 := hO9.fr 0
     have c1_0 := hO9.c 1 0
     have c1_1 := hO9.c 1 1
     have c1_2 := hO9.c 1 2
     have c1_3 := hO9.c 1 3
     have c1_4 := hO9.c 1 4
     have c1_5 := hO9.c 1 5
     have cf1 := hO9.fr 1
     repeat' ((fail_if_success at_builtin); (first | go_skip | go_guarded | go_step))
     go_loopw [6, 7] (fun u6 u7 wr => ∃ i' : Nat, i' ≤ n ∧ u7 = .int .i64 (i' : Int) ∧ u6 = .bool ((l.take i').all fun x => fitsS x (ofV e)) ∧ OwnB w wr [(w.heap.size + 1, [.int .i64 6, .slice (some ⟨be, oe, none⟩) 1 c3]), (w.heap.size, [.int .i64 5, .bool b, .int .i64 i, .string s, .slice A n c, .slice A2 n2 c2])]) (fun _ u7 _ => n - (intOf u7).toNat)
     case atStart => exact ⟨0, Nat.zero_le _, rfl, rfl, hO9⟩
     case round =>
      clear c0_0 c0_1 cf0 c1_0 c1_1 c1_2 c1_3 c1_4 c1_5 cf1 hO9
      obtain ⟨i', hi, rfl, rfl, hOr⟩ := hrel
      have c0_0 := hOr.c 0 0
      have c0_1 := hOr.c 0 1
      have cf0 := hOr.fr 0
      have c1_0 := hOr.c 1 0
      have c1_1 := hOr.c 1 1
      have c1_2 := hOr.c 1 2
      have c1_3 := hOr.c 1 3
      have c1_4 := hOr.c 1 4
      have c1_5 := hOr.c 1 5
      have cf1 := hOr.fr 1
      have i1 : (0 : Int) ≤ (i' : Int) := by omega
      have hb4 := hOr.below
      generalize hav : ((l.take i').all fun x => fitsS x (ofV e)) = av at *
      replace hav := Lib.hid hav
      by_cases hlt : i' < n
      ·
       have i3 : (i' : Int) < (n : Int) := by omega
       have i2 : IntKind.i64.wrap ((i' : Int) + 1) = ((i' + 1 : Nat) : Int) := by rw [IntWalk.i64_in _ (by omega)]; omega
       obtain ⟨x, hx⟩ : ∃ x, l[i']? = some x := ⟨_, List.getElem?_eq_getElem (by rw [← hn.out]; exact hlt)⟩
       obtain ⟨bx, ox, cx, rfl, hbx, hlx, hrx, hcl⟩ := hs.out.at_ hx
       obtain ⟨xk, xb2, xi, xs, XA, xn, xc, XB, xn2, xc2, rfl⟩ := vl_form hrx
       have hat := all_take (fun x => fitsS x (ofV e)) hx
       rw [hav.out] at hat
       replace hat := Lib.hid hat
       replace hx := Lib.hid hx
       have hS0 : (OwnB w wr [(w.heap.size + 1, [.int .i64 6, .slice (some ⟨be, oe, none⟩) 1 c3]), (w.heap.size, [.int .i64 5, .bool b, .int .i64 i, .string s, .slice (some ⟨bx, ox, none⟩) n c, .slice A2 n2 c2])] ∧ wr.cell? ⟨w.heap.size, 4, none⟩ = some (.slice (some ⟨bx, ox, none⟩) n c) ∧ wr.cell? ⟨w.heap.size + 1, 1, none⟩ = some (.slice (some ⟨be, oe, none⟩) 1 c3) ∧ wr.cell? ⟨bx, ox + i' * 6, none⟩ = some (.int .i64 xk) ∧ wr.cell? ⟨bx, ox + i' * 6 + 1, none⟩ = some (.bool xb2) ∧ wr.cell? ⟨bx, ox + i' * 6 + 2, none⟩ = some (.int .i64 xi) ∧ wr.cell? ⟨bx, ox + i' * 6 + 3, none⟩ = some (.string xs) ∧ wr.cell? ⟨bx, ox + i' * 6 + 4, none⟩ = some (.slice XA xn xc) ∧ wr.cell? ⟨bx, ox + i' * 6 + 5, none⟩ = some (.slice XB xn2 xc2) ∧ wr.cell? ⟨be, oe, none⟩ = some (.int .i64 (e.kind : Int)) ∧ wr.cell? ⟨be, oe + 1, none⟩ = some (.slice A4 n4 c4)) := ⟨hOr, hOr.c 1 4, hOr.c 0 1, (hb4.cell (p := ⟨bx, ox + i' * 6, none⟩) hbx).trans (hcl 0 _ rfl), (hb4.cell (p := ⟨bx, ox + i' * 6 + 1, none⟩) hbx).trans (hcl 1 _ rfl), (hb4.cell (p := ⟨bx, ox + i' * 6 + 2, none⟩) hbx).trans (hcl 2 _ rfl), (hb4.cell (p := ⟨bx, ox + i' * 6 + 3, none⟩) hbx).trans (hcl 3 _ rfl), (hb4.cell (p := ⟨bx, ox + i' * 6 + 4, none⟩) hbx).trans (hcl 4 _ rfl), (hb4.cell (p := ⟨bx, ox + i' * 6 + 5, none⟩) hbx).trans (hcl 5 _ rfl), (hb4.cell (p := ⟨be, oe, none⟩) hbS).trans (ze0), (hb4.cell (p := ⟨be, oe + 1, none⟩) hbS).trans (ze1)⟩
       have keepS : ∀ v1 v2 : World, (OwnB w v1 [(w.heap.size + 1, [.int .i64 6, .slice (some ⟨be, oe, none⟩) 1 c3]), (w.heap.size, [.int .i64 5, .bool b, .int .i64 i, .string s, .slice (some ⟨bx, ox, none⟩) n c, .slice A2 n2 c2])] ∧ v1.cell? ⟨w.heap.size, 4, none⟩ = some (.slice (some ⟨bx, ox, none⟩) n c) ∧ v1.cell? ⟨w.heap.size + 1, 1, none⟩ = some (.slice (some ⟨be, oe, none⟩) 1 c3) ∧ v1.cell? ⟨bx, ox + i' * 6, none⟩ = some (.int .i64 xk) ∧ v1.cell? ⟨bx, ox + i' * 6 + 1, none⟩ = some (.bool xb2) ∧ v1.cell? ⟨bx, ox + i' * 6 + 2, none⟩ = some (.int .i64 xi) ∧ v1.cell? ⟨bx, ox + i' * 6 + 3, none⟩ = some (.string xs) ∧ v1.cell? ⟨bx, ox + i' * 6 + 4, none⟩ = some (.slice XA xn xc) ∧ v1.cell? ⟨bx, ox + i' * 6 + 5, none⟩ = some (.slice XB xn2 xc2) ∧ v1.cell? ⟨be, oe, none⟩ = some (.int .i64 (e.kind : Int)) ∧ v1.cell? ⟨be, oe + 1, none⟩ = some (.slice A4 n4 c4)) → Below v1.heap.size v1 v2 → (OwnB w v2 [(w.heap.size + 1, [.int .i64 6, .slice (some ⟨be, oe, none⟩) 1 c3]), (w.heap.size, [.int .i64 5, .bool b, .int .i64 i, .string s, .slice (some ⟨bx, ox, none⟩) n c, .slice A2 n2 c2])] ∧ v2.cell? ⟨w.heap.size, 4, none⟩ = some (.slice (some ⟨bx, ox, none⟩) n c) ∧ v2.cell? ⟨w.heap.size + 1, 1, none⟩ = some (.slice (some ⟨be, oe, none⟩) 1 c3) ∧ v2.cell? ⟨bx, ox + i' * 6, none⟩ = some (.int .i64 xk) ∧ v2.cell? ⟨bx, ox + i' * 6 + 1, none⟩ = some (.bool xb2) ∧ v2.cell? ⟨bx, ox + i' * 6 + 2, none⟩ = some (.int .i64 xi) ∧ v2.cell? ⟨bx, ox + i' * 6 + 3, none⟩ = some (.string xs) ∧ v2.cell? ⟨bx, ox + i' * 6 + 4, none⟩ = some (.slice XA xn xc) ∧ v2.cell? ⟨bx, ox + i' * 6 + 5, none⟩ = some (.slice XB xn2 xc2) ∧ v2.cell? ⟨be, oe, none⟩ = some (.int .i64 (e.kind : Int)) ∧ v2.cell? ⟨be, oe + 1, none⟩ = some (.slice A4 n4 c4)) := fun v1 v2 h hb => ⟨h.1.kept hb, (h.1.kept hb).c 1 4, (h.1.kept hb).c 0 1, ((h.1.kept hb).below.cell (p := ⟨bx, ox + i' * 6, none⟩) hbx).trans (hcl 0 _ rfl), ((h.1.kept hb).below.cell (p := ⟨bx, ox + i' * 6 + 1, none⟩) hbx).trans (hcl 1 _ rfl), ((h.1.kept hb).below.cell (p := ⟨bx, ox + i' * 6 + 2, none⟩) hbx).trans (hcl 2 _ rfl), ((h.1.kept hb).below.cell (p := ⟨bx, ox + i' * 6 + 3, none⟩) hbx).trans (hcl 3 _ rfl), ((h.1.kept hb).below.cell (p := ⟨bx, ox + i' * 6 + 4, none⟩) hbx).trans (hcl 4 _ rfl), ((h.1.kept hb).below.cell (p := ⟨bx, ox + i' * 6 + 5, none⟩) hbx).trans (hcl 5 _ rfl), ((h.1.kept hb).below.cell (p := ⟨be, oe, none⟩) hbS).trans (ze0), ((h.1.kept hb).below.cell (p := ⟨be, oe + 1, none⟩) hbS).trans (ze1)⟩
       have hS1 : (OwnB w wr.drew [(w.heap.size + 1, [.int .i64 6, .slice (some ⟨be, oe, none⟩) 1 c3]), (w.heap.size, [.int .i64 5, .bool b, .int .i64 i, .string s, .slice (some ⟨bx, ox, none⟩) n c, .slice A2 n2 c2])] ∧ wr.drew.cell? ⟨w.heap.size, 4, none⟩ = some (.slice (some ⟨bx, ox, none⟩) n c) ∧ wr.drew.cell? ⟨w.heap.size + 1, 1, none⟩ = some (.slice (some ⟨be, oe, none⟩) 1 c3) ∧ wr.drew.cell? ⟨bx, ox + i' * 6, none⟩ = some (.int .i64 xk) ∧ wr.drew.cell? ⟨bx, ox + i' * 6 + 1, none⟩ = some (.bool xb2) ∧ wr.drew.cell? ⟨bx, ox + i' * 6 + 2, none⟩ = some (.int .i64 xi) ∧ wr.drew.cell? ⟨bx, ox + i' * 6 + 3, none⟩ = some (.string xs) ∧ wr.drew.cell? ⟨bx, ox + i' * 6 + 4, none⟩ = some (.slice XA xn xc) ∧ wr.drew.cell? ⟨bx, ox + i' * 6 + 5, none⟩ = some (.slice XB xn2 xc2) ∧ wr.drew.cell? ⟨be, oe, none⟩ = some (.int .i64 (e.kind : Int)) ∧ wr.drew.cell? ⟨be, oe + 1, none⟩ = some (.slice A4 n4 c4)) := keepS _ _ hS0 ((Below.refl _ _).drew)
       replace keepS := Lib.hid keepS
       clear hS0 hcl
       have hrx3 := fun w' (q : OwnB w w' [(w.heap.size + 1, [.int .i64 6, .slice (some ⟨be, oe, none⟩) 1 c3]), (w.heap.size, [.int .i64 5, .bool b, .int .i64 i, .string s, .slice (some ⟨bx, ox, none⟩) n c, .slice A2 n2 c2])]) => RVl.at_ hrx q.below
       have hre3 := fun w' (q : OwnB w w' [(w.heap.size + 1, [.int .i64 6, .slice (some ⟨be, oe, none⟩) 1 c3]), (w.heap.size, [.int .i64 5, .bool b, .int .i64 i, .string s, .slice (some ⟨bx, ox, none⟩) n c, .slice A2 n2 c2])]) => RV.ty ((RV.imp (hre.map (fun _ hp => q.below.cell hp) (fun _ h => h)) (fun b (hb : b < w.heap.size) => Nat.lt_of_lt_of_le hb q.below.size)))
       replace hrx3 := Lib.hid hrx3
       replace hre3 := Lib.hid hre3
       clear hrx
       cases av with
       | true =>
        go_upto_region 12 with (fail)
        refine wp_region_held_drew (S := fun w' => OwnB w w' [(w.heap.size + 1, [.int .i64 6, .slice (some ⟨be, oe, none⟩) 1 c3]), (w.heap.size, [.int .i64 5, .bool b, .int .i64 i, .string s, .slice (some ⟨bx, ox, none⟩) n c, .slice A2 n2 c2])] ∧ w'.cell? ⟨w.heap.size, 4, none⟩ = some (.slice (some ⟨bx, ox, none⟩) n c) ∧ w'.cell? ⟨w.heap.size + 1, 1, none⟩ = some (.slice (some ⟨be, oe, none⟩) 1 c3) ∧ w'.cell? ⟨bx, ox + i' * 6, none⟩ = some (.int .i64 xk) ∧ w'.cell? ⟨bx, ox + i' * 6 + 1, none⟩ = some (.bool xb2) ∧ w'.cell? ⟨bx, ox + i' * 6 + 2, none⟩ = some (.int .i64 xi) ∧ w'.cell? ⟨bx, ox + i' * 6 + 3, none⟩ = some (.string xs) ∧ w'.cell? ⟨bx, ox + i' * 6 + 4, none⟩ = some (.slice XA xn xc) ∧ w'.cell? ⟨bx, ox + i' * 6 + 5, none⟩ = some (.slice XB xn2 xc2) ∧ w'.cell? ⟨be, oe, none⟩ = some (.int .i64 (e.kind : Int)) ∧ w'.cell? ⟨be, oe + 1, none⟩ = some (.slice A4 n4 c4)) (by kernel_rfl) ?_ (fun hHeld => ?_)
        ·
         (try dsimp only)
         exact hS1
        refine wpAnyH_take (i := 0) (v := ?v80) rfl (by kernel_rfl) (by kernel_rfl) (by kernel_rfl) (fun _ _ _ h => h) (Or.inl ⟨by rfl, ?hy80⟩) (by assumption) ?rest80
        case hy80 => (intro w hSw; (try dsimp only at hSw); go_simp; try with_reducible rfl)
        simp only [Act.put, List.getElem_toArray, List.getElem_cons_zero, List.getElem_cons_succ, List.setIfInBounds_toArray, List.set_cons_zero, List.set_cons_succ]
        refine wpAnyH_take (i := 1) (v := ?v81) rfl (by kernel_rfl) (by kernel_rfl) (by kernel_rfl) (fun _ _ _ h => h) (Or.inl ⟨by rfl, ?hy81⟩) (by assumption) ?rest81
        case hy81 => (intro w hSw; (try dsimp only at hSw); go_simp; try with_reducible rfl)
        simp only [Act.put, List.getElem_toArray, List.getElem_cons_zero, List.getElem_cons_succ, List.setIfInBounds_toArray, List.set_cons_zero, List.set_cons_succ]
        refine wpAnyH_take (i := 2) (v := ?v82) rfl (by kernel_rfl) (by kernel_rfl) (by kernel_rfl) (fun _ _ _ h => h) (Or.inl ⟨by rfl, ?hy82⟩) (by assumption) ?rest82
        case hy82 => (intro w hSw; (try dsimp only at hSw); go_simp; try with_reducible rfl)
        simp only [Act.put, List.getElem_toArray, List.getElem_cons_zero, List.getElem_cons_succ, List.setIfInBounds_toArray, List.set_cons_zero, List.set_cons_succ]
        refine wpAnyH_take (i := 3) (v := ?v83) rfl (by kernel_rfl) (by kernel_rfl) (by kernel_rfl) (fun _ _ _ h => h) (Or.inl ⟨by rfl, ?hy83⟩) (by assumption) ?rest83
        case hy83 => (intro w hSw; (try dsimp only at hSw); go_simp; try with_reducible rfl)
        simp only [Act.put, List.getElem_toArray, List.getElem_cons_zero, List.getElem_cons_succ, List.setIfInBounds_toArray, List.set_cons_zero, List.set_cons_succ]
        refine wpAnyH_take (i := 4) (v := ?v84) rfl (by kernel_rfl) (by kernel_rfl) (by kernel_rfl) (fun _ _ _ h => h) (Or.inl ⟨by rfl, ?hy84⟩) (by assumption) ?rest84
        case hy84 => (intro w hSw; (try dsimp only at hSw); go_simp; try with_reducible rfl)
        simp only [Act.put, List.getElem_toArray, List.getElem_cons_zero, List.getElem_cons_succ, List.setIfInBounds_toArray, List.set_cons_zero, List.set_cons_succ]
        refine wpAnyH_take (i := 5) (v := ?v85) rfl (by kernel_rfl) (by kernel_rfl) (by kernel_rfl) (fun _ _ _ h => h) (Or.inl ⟨by rfl, ?hy85⟩) (by assumption) ?rest85
        case hy85 => (intro w hSw; (try dsimp only at hSw); go_simp; try with_reducible rfl)
        simp only [Act.put, List.getElem_toArray, List.getElem_cons_zero, List.getElem_cons_succ, List.setIfInBounds_toArray, List.set_cons_zero, List.set_cons_succ]
        refine wpAnyH_take (i := 6) (v := ?v86) rfl (by kernel_rfl) (by kernel_rfl) (by kernel_rfl) (fun _ _ _ h => h) (Or.inl ⟨by rfl, ?hy86⟩) (by assumption) ?rest86
        case hy86 => (intro w hSw; (try dsimp only at hSw); go_simp; try with_reducible rfl)
        simp only [Act.put, List.getElem_toArray, List.getElem_cons_zero, List.getElem_cons_succ, List.setIfInBounds_toArray, List.set_cons_zero, List.set_cons_succ]
        refine wpAnyH_take (i := 7) (v := ?v87) rfl (by kernel_rfl) (by kernel_rfl) (by kernel_rfl) (fun _ _ _ h => h) (Or.inl ⟨by rfl, ?hy87⟩) (by assumption) ?rest87
        case hy87 => (intro w hSw; (try dsimp only at hSw); go_simp; try with_reducible rfl)
        simp only [Act.put, List.getElem_toArray, List.getElem_cons_zero, List.getElem_cons_succ, List.setIfInBounds_toArray, List.set_cons_zero, List.set_cons_succ]
        refine wpAnyH_take (i := 8) (v := ?v88) rfl (by kernel_rfl) (by kernel_rfl) (by kernel_rfl) (fun _ _ _ h => h) (Or.inl ⟨by rfl, ?hy88⟩) (by assumption) ?rest88
        case hy88 => (intro w hSw; (try dsimp only at hSw); go_simp; try with_reducible rfl)
        simp only [Act.put, List.getElem_toArray, List.getElem_cons_zero, List.getElem_cons_succ, List.setIfInBounds_toArray, List.set_cons_zero, List.set_cons_succ]
        refine wpAnyH_take (i := 9) (v := ?v89) rfl (by kernel_rfl) (by kernel_rfl) (by kernel_rfl) (fun _ _ _ h => h) (Or.inl ⟨by rfl, ?hy89⟩) (by assumption) ?rest89
        case hy89 => (intro w hSw; (try dsimp only at hSw); go_simp; try with_reducible rfl)
        simp only [Act.put, List.getElem_toArray, List.getElem_cons_zero, List.getElem_cons_succ, List.setIfInBounds_toArray, List.set_cons_zero, List.set_cons_succ]
        refine wpAnyH_take (i := 10) (v := ?v90) rfl (by kernel_rfl) (by kernel_rfl) (by kernel_rfl) (fun _ _ _ h => h) (Or.inl ⟨by rfl, ?hy90⟩) (by assumption) ?rest90
        case hy90 => (intro w hSw; (try dsimp only at hSw); go_simp; try with_reducible rfl)
        simp only [Act.put, List.getElem_toArray, List.getElem_cons_zero, List.getElem_cons_succ, List.setIfInBounds_toArray, List.set_cons_zero, List.set_cons_succ]
        refine wpAnyH_ready (rs := [11]) (by kernel_rfl) (by simp) ?_
        refine AllReadyH.cons rfl (fun K hK => ?_) AllReadyH.nil
        go_simp
        go_at_call 17
        refine (tfits_any gj x xk xb2 xi xs XA xn xc XB xn2 xc2 e.depth (ofV e) _ A4 n4 c4 _ (hrx3.out _ hHeld.1) (hre3.out _ hHeld.1)).mono ?_
        rintro e7 w7 ⟨rfl, hbq⟩
        dsimp only
        refine hK.out _ _ ?_ (fun hHeld => ?_)
        ·
         (try dsimp only)
         exact keepS.out _ _ hHeld hbq
        clear hK K
        try simp only [Act.put, List.getElem_toArray, List.getElem_cons_zero, List.getElem_cons_succ, List.setIfInBounds_toArray, List.set_cons_zero, List.set_cons_succ]
        refine wpAnyH_take (i := 12) (v := ?v91) rfl (by kernel_rfl) (by kernel_rfl) (by kernel_rfl) (fun _ _ _ h => h) (Or.inl ⟨by rfl, ?hy91⟩) (by assumption) ?rest91
        case hy91 => (intro w hSw; (try dsimp only at hSw); go_simp; try with_reducible rfl)
        simp only [Act.put, List.getElem_toArray, List.getElem_cons_zero, List.getElem_cons_succ, List.setIfInBounds_toArray, List.set_cons_zero, List.set_cons_succ]
        refine wpAnyH_take (i := 13) (v := ?v92) rfl (by kernel_rfl) (by kernel_rfl) (by kernel_rfl) (fun _ _ _ h => h) (Or.inl ⟨by rfl, ?hy92⟩) (by assumption) ?rest92
        case hy92 => (intro w hSw; (try dsimp only at hSw); go_simp; try with_reducible rfl)
        simp only [Act.put, List.getElem_toArray, List.getElem_cons_zero, List.getElem_cons_succ, List.setIfInBounds_toArray, List.set_cons_zero, List.set_cons_succ]
        refine wpAnyH_done (by kernel_rfl) ?_ _
        have hO8 := hHeld.1
        repeat' ((fail_if_success at_builtin); (first | go_skip | go_guarded | go_step))
        go_roundw
        case rel => exact ⟨i' + 1, by omega, by first | rfl | go_num, by rw [hat.out]; rfl, hO8⟩
        case measure => (try go_num); (try simp [intOf]); (try omega)
       | false =>
        go_upto_region 12 with (fail)
        refine wp_region_held_drew (S := fun w' => OwnB w w' [(w.heap.size + 1, [.int .i64 6, .slice (some ⟨be, oe, none⟩) 1 c3]), (w.heap.size, [.int .i64 5, .bool b, .int .i64 i, .string s, .slice (some ⟨bx, ox, none⟩) n c, .slice A2 n2 c2])] ∧ w'.cell? ⟨w.heap.size, 4, none⟩ = some (.slice (some ⟨bx, ox, none⟩) n c) ∧ w'.cell? ⟨w.heap.size + 1, 1, none⟩ = some (.slice (some ⟨be, oe, none⟩) 1 c3) ∧ w'.cell? ⟨bx, ox + i' * 6, none⟩ = some (.int .i64 xk) ∧ w'.cell? ⟨bx, ox + i' * 6 + 1, none⟩ = some (.bool xb2) ∧ w'.cell? ⟨bx, ox + i' * 6 + 2, none⟩ = some (.int .i64 xi) ∧ w'.cell? ⟨bx, ox + i' * 6 + 3, none⟩ = some (.string xs) ∧ w'.cell? ⟨bx, ox + i' * 6 + 4, none⟩ = some (.slice XA xn xc) ∧ w'.cell? ⟨bx, ox + i' * 6 + 5, none⟩ = some (.slice XB xn2 xc2) ∧ w'.cell? ⟨be, oe, none⟩ = some (.int .i64 (e.kind : Int)) ∧ w'.cell? ⟨be, oe + 1, none⟩ = some (.slice A4 n4 c4)) (by kernel_rfl) ?_ (fun hHeld => ?_)
        ·
         (try dsimp only)
         exact hS1
        refine wpAnyH_take (i := 0) (v := ?v93) rfl (by kernel_rfl) (by kernel_rfl) (by kernel_rfl) (fun _ _ _ h => h) (Or.inl ⟨by rfl, ?hy93⟩) (by assumption) ?rest93
        case hy93 => (intro w hSw; (try dsimp only at hSw); go_simp; try with_reducible rfl)
        simp only [Act.put, List.getElem_toArray, List.getElem_cons_zero, List.getElem_cons_succ, List.setIfInBounds_toArray, List.set_cons_zero, List.set_cons_succ]
        refine wpAnyH_take (i := 1) (v := ?v94) rfl (by kernel_rfl) (by kernel_rfl) (by kernel_rfl) (fun _ _ _ h => h) (Or.inl ⟨by rfl, ?hy94⟩) (by assumption) ?rest94
        case hy94 => (intro w hSw; (try dsimp only at hSw); go_simp; try with_reducible rfl)
        simp only [Act.put, List.getElem_toArray, List.getElem_cons_zero, List.getElem_cons_succ, List.setIfInBounds_toArray, List.set_cons_zero, List.set_cons_succ]
        refine wpAnyH_take (i := 2) (v := undef) rfl (by kernel_rfl) (by kernel_rfl) (by kernel_rfl) (fun _ _ _ h => h) (Or.inr ⟨by rfl, rfl⟩) (by assumption) ?_
        simp only [Act.put, List.getElem_toArray, List.getElem_cons_zero, List.getElem_cons_succ, List.setIfInBounds_toArray, List.set_cons_zero, List.set_cons_succ]
        refine wpAnyH_take (i := 3) (v := undef) rfl (by kernel_rfl) (by kernel_rfl) (by kernel_rfl) (fun _ _ _ h => h) (Or.inr ⟨by rfl, rfl⟩) (by assumption) ?_
        simp only [Act.put, List.getElem_toArray, List.getElem_cons_zero, List.getElem_cons_succ, List.setIfInBounds_toArray, List.set_cons_zero, List.set_cons_succ]
        refine wpAnyH_take (i := 4) (v := undef) rfl (by kernel_rfl) (by kernel_rfl) (by kernel_rfl) (fun _ _ _ h => h) (Or.inr ⟨by rfl, rfl⟩) (by assumption) ?_
        simp only [Act.put, List.getElem_toArray, List.getElem_cons_zero, List.getElem_cons_succ, List.setIfInBounds_toArray, List.set_cons_zero, List.set_cons_succ]
        refine wpAnyH_take (i := 5) (v := undef) rfl (by kernel_rfl) (by kernel_rfl) (by kernel_rfl) (fun _ _ _ h => h) (Or.inr ⟨by rfl, rfl⟩) (by assumption) ?_
        simp only [Act.put, List.getElem_toArray, List.getElem_cons_zero, List.getElem_cons_succ, List.setIfInBounds_toArray, List.set_cons_zero, List.set_cons_succ]
        refine wpAnyH_take (i := 6) (v := undef) rfl (by kernel_rfl) (by kernel_rfl) (by kernel_rfl) (fun _ _ _ h => h) (Or.inr ⟨by rfl, rfl⟩) (by assumption) ?_
        simp only [Act.put, List.getElem_toArray, List.getElem_cons_zero, List.getElem_cons_succ, List.setIfInBounds_toArray, List.set_cons_zero, List.set_cons_succ]
        refine wpAnyH_take (i := 7) (v := undef) rfl (by kernel_rfl) (by kernel_rfl) (by kernel_rfl) (fun _ _ _ h => h) (Or.inr ⟨by rfl, rfl⟩) (by assumption) ?_
        simp only [Act.put, List.getElem_toArray, List.getElem_cons_zero, List.getElem_cons_succ, List.setIfInBounds_toArray, List.set_cons_zero, List.set_cons_succ]
        refine wpAnyH_take (i := 8) (v := undef) rfl (by kernel_rfl) (by kernel_rfl) (by kernel_rfl) (fun _ _ _ h => h) (Or.inr ⟨by rfl, rfl⟩) (by assumption) ?_
        simp only [Act.put, List.getElem_toArray, List.getElem_cons_zero, List.getElem_cons_succ, List.setIfInBounds_toArray, List.set_cons_zero, List.set_cons_succ]
        refine wpAnyH_take (i := 9) (v := undef) rfl (by kernel_rfl) (by kernel_rfl) (by kernel_rfl) (fun _ _ _ h => h) (Or.inr ⟨by rfl, rfl⟩) (by assumption) ?_
        simp only [Act.put, List.getElem_toArray, List.getElem_cons_zero, List.getElem_cons_succ, List.setIfInBounds_toArray, List.set_cons_zero, List.set_cons_succ]
        refine wpAnyH_take (i := 10) (v := undef) rfl (by kernel_rfl) (by kernel_rfl) (by kernel_rfl) (fun _ _ _ h => h) (Or.inr ⟨by rfl, rfl⟩) (by assumption) ?_
        simp only [Act.put, List.getElem_toArray, List.getElem_cons_zero, List.getElem_cons_succ, List.setIfInBounds_toArray, List.set_cons_zero, List.set_cons_succ]
        refine wpAnyH_take (i := 11) (v := undef) rfl (by kernel_rfl) (by kernel_rfl) (by kernel_rfl) (fun _ _ _ h => h) (Or.inr ⟨by rfl, rfl⟩) (by assumption) ?_
        simp only [Act.put, List.getElem_toArray, List.getElem_cons_zero, List.getElem_cons_succ, List.setIfInBounds_toArray, List.set_cons_zero, List.set_cons_succ]
        refine wpAnyH_take (i := 12) (v := ?v95) rfl (by kernel_rfl) (by kernel_rfl) (by kernel_rfl) (fun _ _ _ h => h) (Or.inl ⟨by rfl, ?hy95⟩) (by assumption) ?rest95
        case hy95 => (intro w hSw; (try dsimp only at hSw); go_simp; try with_reducible rfl)
        simp only [Act.put, List.getElem_toArray, List.getElem_cons_zero, List.getElem_cons_succ, List.setIfInBounds_toArray, List.set_cons_zero, List.set_cons_succ]
        refine wpAnyH_take (i := 13) (v := ?v96) rfl (by kernel_rfl) (by kernel_rfl) (by kernel_rfl) (fun _ _ _ h => h) (Or.inl ⟨by rfl, ?hy96⟩) (by assumption) ?rest96
        case hy96 => (intro w hSw; (try dsimp only at hSw); go_simp; try with_reducible rfl)
        simp only [Act.put, List.getElem_toArray, List.getElem_cons_zero, List.getElem_cons_succ, List.setIfInBounds_toArray, List.set_cons_zero, List.set_cons_succ]
        refine wpAnyH_done (by kernel_rfl) ?_ _
        have hO8 := hHeld.1
        repeat' ((fail_if_success at_builtin); (first | go_skip | go_guarded | go_step))
        go_roundw
        case rel => exact ⟨i' + 1, by omega, by first | rfl | go_num, by rw [hat.out]; rfl, hO8⟩
        case measure => (try go_num); (try simp [intOf]); (try omega)
      ·
       obtain rfl : i' = n := by omega
       have i3 : ¬ (i' : Int) < (i' : Int) := by omega
       have hav2 : (l.all fun x => fitsS x (ofV e)) = av := by rw [← hav.out, List.take_of_length_le (by rw [← hn.out]; exact Nat.le_refl _)]
       have hv4 := Lib.hid (RVl.at_ hv hb4)
       have ht4 := Lib.hid (RTf.at_ h hb4)
       have hfs2 := hfs.out
       rw [hav2] at hfs2
       replace hfs2 := Lib.hid hfs2
       clear hfs
       clear hav2 hav
       repeat' ((fail_if_success at_builtin); (first | go_skip | go_guarded | go_step))
       have CJ := tfits_any (gj + 1) vv 5 b i s A i' c A2 n2 c2 g (ofV (.of 6 e)) 6 (some ⟨be, oe, none⟩) 1 c3 wr hv4.out ht4.out
       rw [hfs2.out] at CJ
       refine CJ.mono ?_
       clear CJ
       rintro e5 w5 ⟨rfl, hb5⟩
       dsimp only
       have hOe := hOr.kept hb5
       repeat' ((fail_if_success at_builtin); (first | go_skip | go_guarded | go_step))
       refine (awake_any _).mono ?_
       rintro e6 w6 ⟨rfl, hb6⟩
       dsimp only
       have hb := (hOe.kept hb6).below
       repeat' ((fail_if_success at_builtin); (first | go_skip | go_guarded | go_step))
       go_ret
       exact ⟨rfl, hb⟩
    ·
     have hfo := fits_other hok0.out hkk.out hbo.out hbd.out hbk
     have hk2 : ((bt.kind : Int) == 6) = false := by simp; omega
     have hk3 : ((bt.kind : Int) != 6) = true := by simp; omega
     replace hfo := Lib.hid hfo
     clear hbk
     have hv3 := Lib.hid (RVl.at_ hv hO3.below)
     have ht3 := Lib.hid (RTf.at_ h hO3.below)
     go_upto_region 7 with (fail)
     have hS0 : (Below w3.heap.size w3 w3 ∧ w3.cell? ⟨w.heap.size + 1, 0, none⟩ = some (.int .i64 (bt.kind : Int)) ∧ w3.cell? ⟨w.heap.size + 1, 1, none⟩ = some (.slice A3 n3 c3) ∧ w3.cell? ⟨w.heap.size, 0, none⟩ = some (.int .i64 5) ∧ w3.cell? ⟨w.heap.size, 1, none⟩ = some (.bool b) ∧ w3.cell? ⟨w.heap.size, 2, none⟩ = some (.int .i64 i) ∧ w3.cell? ⟨w.heap.size, 3, none⟩ = some (.string s) ∧ w3.cell? ⟨w.heap.size, 4, none⟩ = some (.slice A n c) ∧ w3.cell? ⟨w.heap.size, 5, none⟩ = some (.slice A2 n2 c2)) := ⟨Below.refl _ _, hO3.c 0 0, hO3.c 0 1, hO3.c 1 0, hO3.c 1 1, hO3.c 1 2, hO3.c 1 3, hO3.c 1 4, hO3.c 1 5⟩
     have keepS : ∀ v1 v2 : World, (Below w3.heap.size w3 v1 ∧ v1.cell? ⟨w.heap.size + 1, 0, none⟩ = some (.int .i64 (bt.kind : Int)) ∧ v1.cell? ⟨w.heap.size + 1, 1, none⟩ = some (.slice A3 n3 c3) ∧ v1.cell? ⟨w.heap.size, 0, none⟩ = some (.int .i64 5) ∧ v1.cell? ⟨w.heap.size, 1, none⟩ = some (.bool b) ∧ v1.cell? ⟨w.heap.size, 2, none⟩ = some (.int .i64 i) ∧ v1.cell? ⟨w.heap.size, 3, none⟩ = some (.string s) ∧ v1.cell? ⟨w.heap.size, 4, none⟩ = some (.slice A n c) ∧ v1.cell? ⟨w.heap.size, 5, none⟩ = some (.slice A2 n2 c2)) → Below v1.heap.size v1 v2 → (Below w3.heap.size w3 v2 ∧ v2.cell? ⟨w.heap.size + 1, 0, none⟩ = some (.int .i64 (bt.kind : Int)) ∧ v2.cell? ⟨w.heap.size + 1, 1, none⟩ = some (.slice A3 n3 c3) ∧ v2.cell? ⟨w.heap.size, 0, none⟩ = some (.int .i64 5) ∧ v2.cell? ⟨w.heap.size, 1, none⟩ = some (.bool b) ∧ v2.cell? ⟨w.heap.size, 2, none⟩ = some (.int .i64 i) ∧ v2.cell? ⟨w.heap.size, 3, none⟩ = some (.string s) ∧ v2.cell? ⟨w.heap.size, 4, none⟩ = some (.slice A n c) ∧ v2.cell? ⟨w.heap.size, 5, none⟩ = some (.slice A2 n2 c2)) := fun v1 v2 h hb => ⟨h.1.trans (hb.mono h.1.size), (hO3.kept (h.1.trans (hb.mono h.1.size))).c 0 0, (hO3.kept (h.1.trans (hb.mono h.1.size))).c 0 1, (hO3.kept (h.1.trans (hb.mono h.1.size))).c 1 0, (hO3.kept (h.1.trans (hb.mono h.1.size))).c 1 1, (hO3.kept (h.1.trans (hb.mono h.1.size))).c 1 2, (hO3.kept (h.1.trans (hb.mono h.1.size))).c 1 3, (hO3.kept (h.1.trans (hb.mono h.1.size))).c 1 4, (hO3.kept (h.1.trans (hb.mono h.1.size))).c 1 5⟩
     have hS1 : (Below w3.heap.size w3 w3.drew ∧ w3.drew.cell? ⟨w.heap.size + 1, 0, none⟩ = some (.int .i64 (bt.kind : Int)) ∧ w3.drew.cell? ⟨w.heap.size + 1, 1, none⟩ = some (.slice A3 n3 c3) ∧ w3.drew.cell? ⟨w.heap.size, 0, none⟩ = some (.int .i64 5) ∧ w3.drew.cell? ⟨w.heap.size, 1, none⟩ = some (.bool b) ∧ w3.drew.cell? ⟨w.heap.size, 2, none⟩ = some (.int .i64 i) ∧ w3.drew.cell? ⟨w.heap.size, 3, none⟩ = some (.string s) ∧ w3.drew.cell? ⟨w.heap.size, 4, none⟩ = some (.slice A n c) ∧ w3.drew.cell? ⟨w.heap.size, 5, none⟩ = some (.slice A2 n2 c2)) := keepS _ _ hS0 ((Below.refl _ _).drew)
     replace keepS := Lib.hid keepS
     clear hS0
     refine wp_region_held_drew (S := fun w' => Below w3.heap.size w3 w' ∧ w'.cell? ⟨w.heap.size + 1, 0, none⟩ = some (.int .i64 (bt.kind : Int)) ∧ w'.cell? ⟨w.heap.size + 1, 1, none⟩ = some (.slice A3 n3 c3) ∧ w'.cell? ⟨w.heap.size, 0, none⟩ = some (.int .i64 5) ∧ w'.cell? ⟨w.heap.size, 1, none⟩ = some (.bool b) ∧ w'.cell? ⟨w.heap.size, 2, none⟩ = some (.int .i64 i) ∧ w'.cell? ⟨w.heap.size, 3, none⟩ = some (.string s) ∧ w'.cell? ⟨w.heap.size, 4, none⟩ = some (.slice A n c) ∧ w'.cell? ⟨w.heap.size, 5, none⟩ = some (.slice A2 n2 c2)) (by kernel_rfl) ?_ (fun hHeld => ?_)
     ·
      (try dsimp only)
      exact hS1
     refine wpAnyH_take (i := 0) (v := ?v71) rfl (by kernel_rfl) (by kernel_rfl) (by kernel_rfl) (fun _ _ _ h => h) (Or.inl ⟨by rfl, ?hy71⟩) (by assumption) ?rest71
     case hy71 => (intro w hSw; (try dsimp only at hSw); go_simp; try with_reducible rfl)
     simp only [Act.put, List.getElem_toArray, List.getElem_cons_zero, List.getElem_cons_succ, List.setIfInBounds_toArray, List.set_cons_zero, List.set_cons_succ]
     refine wpAnyH_take (i := 1) (v := ?v72) rfl (by kernel_rfl) (by kernel_rfl) (by kernel_rfl) (fun _ _ _ h => h) (Or.inl ⟨by rfl, ?hy72⟩) (by assumption) ?rest72
     case hy72 => (intro w hSw; (try dsimp only at hSw); go_simp; try with_reducible rfl)
     simp only [Act.put, List.getElem_toArray, List.getElem_cons_zero, List.getElem_cons_succ, List.setIfInBounds_toArray, List.set_cons_zero, List.set_cons_succ]
     refine wpAnyH_take (i := 3) (v := ?v73) rfl (by kernel_rfl) (by kernel_rfl) (by kernel_rfl) (fun _ _ _ h => h) (Or.inl ⟨by rfl, ?hy73⟩) (by assumption) ?rest73
     case hy73 => (intro w hSw; (try dsimp only at hSw); go_simp; try with_reducible rfl)
     simp only [Act.put, List.getElem_toArray, List.getElem_cons_zero, List.getElem_cons_succ, List.setIfInBounds_toArray, List.set_cons_zero, List.set_cons_succ]
     refine wpAnyH_take (i := 4) (v := ?v74) rfl (by kernel_rfl) (by kernel_rfl) (by kernel_rfl) (fun _ _ _ h => h) (Or.inl ⟨by rfl, ?hy74⟩) (by assumption) ?rest74
     case hy74 => (intro w hSw; (try dsimp only at hSw); go_simp; try with_reducible rfl)
     simp only [Act.put, List.getElem_toArray, List.getElem_cons_zero, List.getElem_cons_succ, List.setIfInBounds_toArray, List.set_cons_zero, List.set_cons_succ]
     refine wpAnyH_take (i := 5) (v := ?v75) rfl (by kernel_rfl) (by kernel_rfl) (by kernel_rfl) (fun _ _ _ h => h) (Or.inl ⟨by rfl, ?hy75⟩) (by assumption) ?rest75
     case hy75 => (intro w hSw; (try dsimp only at hSw); go_simp; try with_reducible rfl)
     simp only [Act.put, List.getElem_toArray, List.getElem_cons_zero, List.getElem_cons_succ, List.setIfInBounds_toArray, List.set_cons_zero, List.set_cons_succ]
     refine wpAnyH_ready (rs := [2]) (by kernel_rfl) (by simp) ?_
     refine AllReadyH.cons rfl (fun K hK => ?_) AllReadyH.nil
     go_simp
     go_at_call 17
     have CJ := tfits_any (gj + 1) vv 5 b i s A n c A2 n2 c2 g (ofV bt) _ A3 n3 c3 _ (RVl.at_ hv3.out hHeld.1) (RTf.at_ ht3.out hHeld.1)
     rw [hfo.out] at CJ
     refine CJ.mono ?_
     clear CJ
     rintro e r7_2 ⟨rfl, hb7_2⟩
     dsimp only
     have hbq := hb7_2
     refine hK.out _ _ ?_ (fun hHeld => ?_)
     ·
      (try dsimp only)
      exact keepS.out _ _ hHeld hbq
     clear hK K
     try simp only [Act.put, List.getElem_toArray, List.getElem_cons_zero, List.getElem_cons_succ, List.setIfInBounds_toArray, List.set_cons_zero, List.set_cons_succ]
     refine wpAnyH_take (i := 6) (v := ?v76) rfl (by kernel_rfl) (by kernel_rfl) (by kernel_rfl) (fun _ _ _ h => h) (Or.inl ⟨by rfl, ?hy76⟩) (by assumption) ?rest76
     case hy76 => (intro w hSw; (try dsimp only at hSw); go_simp; try with_reducible rfl)
     simp only [Act.put, List.getElem_toArray, List.getElem_cons_zero, List.getElem_cons_succ, List.setIfInBounds_toArray, List.set_cons_zero, List.set_cons_succ]
     refine wpAnyH_take (i := 7) (v := ?v77) rfl (by kernel_rfl) (by kernel_rfl) (by kernel_rfl) (fun _ _ _ h => h) (Or.inl ⟨by rfl, ?hy77⟩) (by assumption) ?rest77
     case hy77 => (intro w hSw; (try dsimp only at hSw); go_simp; try with_reducible rfl)
     simp only [Act.put, List.getElem_toArray, List.getElem_cons_zero, List.getElem_cons_succ, List.setIfInBounds_toArray, List.set_cons_zero, List.set_cons_succ]
     refine wpAnyH_ready (rs := [8]) (by kernel_rfl) (by simp) ?_
     refine AllReadyH.cons rfl (fun K hK => ?_) AllReadyH.nil
     go_simp
     go_at_call 13
     refine (awake_any _).mono ?_
     rintro e r7_8 ⟨rfl, hb7_8⟩
     dsimp only
     have hbq := hb7_8
     refine hK.out _ _ ?_ (fun hHeld => ?_)
     ·
      (try dsimp only)
      exact keepS.out _ _ hHeld hbq
     clear hK K
     try simp only [Act.put, List.getElem_toArray, List.getElem_cons_zero, List.getElem_cons_succ, List.setIfInBounds_toArray, List.set_cons_zero, List.set_cons_succ]
     refine wpAnyH_take (i := 9) (v := ?v78) rfl (by kernel_rfl) (by kernel_rfl) (by kernel_rfl) (fun _ _ _ h => h) (Or.inl ⟨by rfl, ?hy78⟩) (by assumption) ?rest78
     case hy78 => (intro w hSw; (try dsimp only at hSw); go_simp; try with_reducible rfl)
     simp only [Act.put, List.getElem_toArray, List.getElem_cons_zero, List.getElem_cons_succ, List.setIfInBounds_toArray, List.set_cons_zero, List.set_cons_succ]
     refine wpAnyH_take (i := 10) (v := ?v79) rfl (by kernel_rfl) (by kernel_rfl) (by kernel_rfl) (fun _ _ _ h => h) (Or.inl ⟨by rfl, ?hy79⟩) (by assumption) ?rest79
     case hy79 => (intro w hSw; (try dsimp only at hSw); go_simp; try with_reducible rfl)
     simp only [Act.put, List.getElem_toArray, List.getElem_cons_zero, List.getElem_cons_succ, List.setIfInBounds_toArray, List.set_cons_zero, List.set_cons_succ]
     refine wpAnyH_done (by kernel_rfl) ?_ _
     have hb := hO3.below.trans (hHeld.1.mono hO3.below.size)
     repeat' ((fail_if_success at_builtin); (first | go_skip | go_guarded | go_step))
     go_ret
     exact ⟨rfl, hb⟩
   have e4 : (k == 4) = false := by simpa using hk4
   have e5 : (k == 5) = false := by simpa using hk5
   have e6 : (k != 4) = true := by simpa using hk4
   have e7 : (k != 5) = true := by simpa using hk5
   repeat' ((fail_if_success at_builtin); (first | go_skip | go_guarded | go_step))
   refine (awake_any _).mono ?_
   rintro e w9 ⟨rfl, hb9⟩
   dsimp only
   have hb := hO3.below.trans (hb9.mono hO3.below.size)
   repeat' ((fail_if_success at_builtin); (first | go_skip | go_guarded | go_step))
   go_ret
   exact ⟨rfl, hb⟩
 ·
  have hz2 : (ev == 0) = false := by simpa using hz
  have hz3 : (ev != 0) = true := by simpa using hz
  clear hz hev
  repeat' ((fail_if_success at_builtin); (first | go_skip | go_guarded | go_step))
  refine (awake_any _).mono ?_
  rintro e w9 ⟨rfl, hb9⟩
  dsimp only
  have hb := hO2.below.trans (hb9.mono hO2.below.size)
  repeat' ((fail_if_success at_builtin); (first | go_skip | go_guarded | go_step))
  go_ret
  exact ⟨rfl, hb⟩
end Go.Proofs.YtgcpffbaejodiaaDoor
