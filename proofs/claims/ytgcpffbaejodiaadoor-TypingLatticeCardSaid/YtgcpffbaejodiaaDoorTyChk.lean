/- Typing: Valid. Typing: the document's Valid. -/
import Derived.Test.YtgcpffbaejodiaaDoorTyA
namespace Go.Proofs.YtgcpffbaejodiaaDoor
open Go.RowKit
theorem nameZ_bad {k : Int} (h : k < 0 ∨ 7 < k) : nameZ k = [] := by unfold nameZ; rw [if_neg (by omega)]
theorem nameZ_good {k : Int} (h : ¬ (k < 0 ∨ 7 < k)) : nameZ k ≠ [] := by
 unfold nameZ
 rw [if_pos (by omega)]
 have : k.toNat = 0 ∨ k.toNat = 1 ∨ k.toNat = 2 ∨ k.toNat = 3 ∨ k.toNat = 4 ∨ k.toNat = 5 ∨ k.toNat = 6 ∨ k.toNat = 7 := by omega
 rcases this with e | e | e | e | e | e | e | e <;> rw [e] <;> decide
/-- the cells of a type, one level down -/
theorem ty_open {g : Nat} {w : World} {S : Nat → Prop} {k : Int} {es : List Ty} {cs : List Value} (h : RTf g w S (.mk k es) cs) : ∃ j A c, g = j + 1 ∧ cs = [.int .i64 k, .slice A es.length c] ∧ RSlice (RTf j) 2 w S A es.length c es := by
 cases g with
 | zero => exact h.elim
 | succ j =>
  obtain ⟨A, c, h1, h2⟩ := h
  exact ⟨j, A, c, rfl, h1, h2⟩
theorem ty_elem {g : Nat} {w : World} {S : Nat → Prop} {A : Option Addr} {c : Nat} {k : Int} {es : List Ty} (h : RSlice (RTf g) 2 w S A 1 c [.mk k es]) : ∃ b o j A1 c1, g = j + 1 ∧ A = some ⟨b, o, none⟩ ∧ S b ∧ 1 ≤ c ∧ w.cell? ⟨b, o, none⟩ = some (.int .i64 k) ∧ w.cell? ⟨b, o + 1, none⟩ = some (.slice A1 es.length c1) ∧ RTf g w S (.mk k es) [.int .i64 k, .slice A1 es.length c1] := by
 obtain ⟨b, o, cs, hA, hb, _, hr, hc⟩ := h.at_ (i := 0) rfl
 have hr2 := hr
 obtain ⟨j, A1, c1, rfl, rfl, _⟩ := ty_open hr
 refine ⟨b, o, j, A1, c1, rfl, hA, hb, h.2.1, ?_, ?_, hr2⟩
 ·
  have := hc 0 _ rfl
  rwa [Nat.zero_mul] at this
 ·
  have := hc 1 _ rfl
  rwa [Nat.zero_mul] at this
theorem ret_i6 {a b : Int} (h : a = b) : Ending.returned (.int .i64 a) = Ending.returned (.int .i64 b) := by rw [h]
set_option maxRecDepth 100000 in
set_option maxHeartbeats 4000000 in
theorem tvalid_any (g : Nat) (t : Ty) (k : Int) (A : Option Addr) (n c : Nat) (w : World) (h : RTf g w (fun b => b < w.heap.size) t [.int .i64 k, .slice A n c]) :
  Calls Tryd.prog 11 #[.agg #[.int .i64 k, .slice A n c]] w fun e w' => e = .returned (.int .i64 (validT t)) ∧ Below w.heap.size w w' := by
 obtain ⟨fin, hfin⟩ : ∃ fin, fin = validT t := ⟨_, rfl⟩
 replace hfin := Lib.hid hfin
 go_enter Tryd.func11, Tryd.ntmps11
 go_upto_region 1 with (fail)
 generalize hx_ : World.alloc w _ = wo1
 have hO1 : OwnB w wo1 [(w.heap.size, [.int .i64 k, .slice A n c])] := by rw [← hx_]; exact (OwnB.refl w).new #[.int .i64 k, .slice A n c] _ (g := w.heap.size)
 clear hx_
 have c0_0 := hO1.c 0 0
 have c0_1 := hO1.c 0 1
 have cf0 := hO1.fr 0
 clear c0_0 c0_1 cf0
 repeat' ((fail_if_success at_builtin); (first | go_skip | go_guarded | go_step))
 go_loopw [3] (fun u3 wr => ∃ (f lvl g : Nat) (t : Ty) (k : Int) (A : Option Addr) (n c : Nat), lvl + f = 17 ∧ u3 = .int .i64 (lvl : Int) ∧ OwnB w wr [(w.heap.size, [.int .i64 k, .slice A n c])] ∧ RTf g w (fun b => b < w.heap.size) t [.int .i64 k, .slice A n c] ∧ fin = chkT f t) (fun u3 _ => 17 - (intOf u3).toNat)
 case atStart => exact ⟨16, 1, g, t, k, A, n, c, rfl, rfl, hO1, h, hfin.out⟩
 case round =>
  clear hO1 h
  obtain ⟨f, lvl, g, t, k, A, n, c, hlf, rfl, hO, h, hu⟩ := hrel
  have hO1 : OwnB w wr [(w.heap.size, [.int .i64 k, .slice A n c])] := hO
  have c0_0 := hO1.c 0 0
  have c0_1 := hO1.c 0 1
  have cf0 := hO1.fr 0
  cases f with
  | zero =>
   have g16 : (16 : Int) < (lvl : Int) := by omega
   have hf : fin = 13 := hu
   replace hf := Lib.hid hf
   have hbz := hO1.below
   clear hu
   repeat' ((fail_if_success at_builtin); (first | go_skip | go_guarded | go_step))
   go_ret
   exact ⟨ret_i6 (by rw [← hfin.out, hf.out]), hbz⟩
  | succ f =>
   have g16 : ¬ (16 : Int) < (lvl : Int) := by omega
   obtain ⟨k', es⟩ := t
   obtain ⟨j, A', c', rfl, hcs, hs⟩ := ty_open h
   injection hcs with e1 e2
   injection e1 with _ e1
   subst e1
   injection e2 with e2 _
   injection e2 with e2 e3 e4
   subst e2 e4
   have hn : n = es.length := e3
   clear e3
   replace hn := Lib.hid hn
   replace hs := Lib.hid hs
   rw [chkT_mk] at hu
   have i2 : IntKind.i64.wrap ((lvl : Int) + 1) = (lvl : Int) + 1 := IntWalk.i64_in _ (by omega)
   repeat' ((fail_if_success at_builtin); (first | go_skip | go_guarded | go_step))
   refine (name_any k _).mono ?_
   rintro e w2 ⟨rfl, hb2⟩
   dsimp only
   have hO2 : OwnB w w2 [(w.heap.size, [.int .i64 k, .slice A n c])] := hO1.kept hb2
   clear c0_0 c0_1 cf0 hO1
   have c0_0 := hO2.c 0 0
   have c0_1 := hO2.c 0 1
   have cf0 := hO2.fr 0
   by_cases hk : k < 0 ∨ 7 < k
   ·
    rw [if_pos hk] at hu
    have hz := nameZ_bad hk
    generalize nameZ k = nz at *
    subst hz
    have hbz := hO2.below
    have hf := Lib.hid hu
    clear hu hk
    repeat' ((fail_if_success at_builtin); (first | go_skip | go_guarded | go_step))
    go_ret
    exact ⟨ret_i6 (by rw [← hfin.out, hf.out]), hbz⟩
   ·
    rw [if_neg hk] at hu
    have hz : (nameZ k == []) = false := by simpa using nameZ_good hk
    generalize nameZ k = nz at *
    have hz2 : ((strS nz).toList == []) = false := by rw [strS_toList]; exact hz
    clear hk
    repeat' ((fail_if_success at_builtin); (first | go_skip | go_guarded | go_step))
    refine (nested_any k _).mono ?_
    rintro e w3 ⟨rfl, hb3⟩
    dsimp only
    have hO3 : OwnB w w3 [(w.heap.size, [.int .i64 k, .slice A n c])] := hO2.kept hb3
    clear c0_0 c0_1 cf0 hO2
    have c0_0 := hO3.c 0 0
    have c0_1 := hO3.c 0 1
    have cf0 := hO3.fr 0
    cases hh : holdsK k with
    | true =>
     rw [hh] at hu
     rw [if_pos rfl] at hu
     cases es with
     | nil =>
      have hf : fin = 1 := hu
      replace hf := Lib.hid hf
      obtain rfl : n = 0 := hn.out
      have hbz := hO3.below
      clear hu hh hs
      repeat' ((fail_if_success at_builtin); (first | go_skip | go_guarded | go_step))
      go_ret
      exact ⟨ret_i6 (by rw [← hfin.out, hf.out]), hbz⟩
     | cons x r =>
      cases r with
      | nil =>
       have hu2 : fin = chkT f x := hu
       replace hu2 := Lib.hid hu2
       obtain ⟨xk, xes⟩ := x
       obtain rfl : n = 1 := hn.out
       obtain ⟨b, o2, j2, A1, c1, rfl, rfl, hbS, hc1, x0, x1, hr⟩ := ty_elem hs.out
       have hc1i : (1 : Int) ≤ (c : Int) := by omega
       clear hu hs h
       repeat' ((fail_if_success at_builtin); (first | go_skip | go_guarded | go_step))
       refine (nested_any k _).mono ?_
       rintro e w4 ⟨rfl, hb4⟩
       dsimp only
       have hO4 : OwnB w w4 [(w.heap.size, [.int .i64 k, .slice (some ⟨b, o2, none⟩) 1 c])] := hO3.kept hb4
       clear c0_0 c0_1 cf0 hO3
       have c0_0 := hO4.c 0 0
       have c0_1 := hO4.c 0 1
       have cf0 := hO4.fr 0
       rw [hh]
       repeat' ((fail_if_success at_builtin); (first | go_skip | go_guarded | go_step))
       refine (nested_any k _).mono ?_
       rintro e w5 ⟨rfl, hb5⟩
       dsimp only
       have hO5 : OwnB w w5 [(w.heap.size, [.int .i64 k, .slice (some ⟨b, o2, none⟩) 1 c])] := hO4.kept hb5
       clear c0_0 c0_1 cf0 hO4
       have c0_0 := hO5.c 0 0
       have c0_1 := hO5.c 0 1
       have cf0 := hO5.fr 0
       rw [hh]
       have y0 := (hO5.below.cell (p := ⟨b, o2, none⟩) hbS).trans x0
       have y1 := (hO5.below.cell (p := ⟨b, o2 + 1, none⟩) hbS).trans x1
       clear x0 x1 hh
       repeat' ((fail_if_success at_builtin); (first | go_skip | go_guarded | go_step))
       generalize hx_ : World.setCell (World.setCell _ _ _) _ _ = wo6
       have hO6 : OwnB w wo6 [(w.heap.size, [.int .i64 xk, .slice A1 xes.length c1])] := by rw [← hx_]; exact (hO5.store 0 rfl 0 _).store 0 rfl 1 _
       clear hx_ c0_0 c0_1 cf0 hO5
       have c0_0 := hO6.c 0 0
       have c0_1 := hO6.c 0 1
       have cf0 := hO6.fr 0
       go_roundw
       case rel => exact ⟨f, lvl + 1, j2 + 1, .mk xk xes, xk, A1, xes.length, c1, by omega, by go_num, hO6, hr, hu2.out⟩
       case measure => simp [intOf]; omega
      | cons y r =>
       have hf : fin = 1 := hu
       have hn2 : 2 ≤ n := by rw [hn.out]; simp
       have hn1 : ((n : Int) != 1) = true := by simp; omega
       replace hf := Lib.hid hf
       have hbz := hO3.below
       clear hu hh hs
       repeat' ((fail_if_success at_builtin); (first | go_skip | go_guarded | go_step))
       go_ret
       exact ⟨ret_i6 (by rw [← hfin.out, hf.out]), hbz⟩
    | false =>
     rw [hh] at hu
     rw [if_neg (by simp)] at hu
     clear hs
     repeat' ((fail_if_success at_builtin); (first | go_skip | go_guarded | go_step))
     refine (nested_any k _).mono ?_
     rintro e w4 ⟨rfl, hb4⟩
     dsimp only
     have hO4 : OwnB w w4 [(w.heap.size, [.int .i64 k, .slice A n c])] := hO3.kept hb4
     clear c0_0 c0_1 cf0 hO3
     have c0_0 := hO4.c 0 0
     have c0_1 := hO4.c 0 1
     have cf0 := hO4.fr 0
     rw [hh]
     cases es with
     | nil =>
      obtain rfl : n = 0 := hn.out
      have hf : fin = 0 := hu
      replace hf := Lib.hid hf
      clear hu
      repeat' ((fail_if_success at_builtin); (first | go_skip | go_guarded | go_step))
      refine (nested_any k _).mono ?_
      rintro e w5 ⟨rfl, hb5⟩
      dsimp only
      have hO5 : OwnB w w5 [(w.heap.size, [.int .i64 k, .slice A 0 c])] := hO4.kept hb5
      clear c0_0 c0_1 cf0 hO4
      have c0_0 := hO5.c 0 0
      have c0_1 := hO5.c 0 1
      have cf0 := hO5.fr 0
      rw [hh]
      have hbz := hO5.below
      clear hh
      repeat' ((fail_if_success at_builtin); (first | go_skip | go_guarded | go_step))
      go_ret
      exact ⟨ret_i6 (by rw [← hfin.out, hf.out]), hbz⟩
     | cons x r =>
      have hn2 : 1 ≤ n := by rw [hn.out]; simp
      have hn1 : ((n : Int) != 0) = true := by simp; omega
      have hf : fin = 1 := hu
      replace hf := Lib.hid hf
      have hbz := hO4.below
      clear hu hh
      repeat' ((fail_if_success at_builtin); (first | go_skip | go_guarded | go_step))
      go_ret
      exact ⟨ret_i6 (by rw [← hfin.out, hf.out]), hbz⟩
end Go.Proofs.YtgcpffbaejodiaaDoor
namespace Go.Proofs.YtgcpffbaejodiaaDoor
open Go.RowKit
theorem RTf.at_ {g : Nat} {t : Ty} {w w' : World} {cs : List Value} (h : RTf g w (fun b => b < w.heap.size) t cs) (hb : Below w.heap.size w w') : RTf g w' (fun b => b < w'.heap.size) t cs :=
 RTf_ok g _ _ _ _ _ _ (fun _ hp => hb.cell hp) (fun _ hp => Nat.lt_of_lt_of_le hp hb.size) h
set_option maxRecDepth 100000 in
set_option maxHeartbeats 4000000 in
theorem check_any (f : Nat) : ∀ (lvl g : Nat) (t : Ty) (k : Int) (A : Option Addr) (n c : Nat) (w : World), lvl + f = 17 → RTf g w (fun b => b < w.heap.size) t [.int .i64 k, .slice A n c] →
  Calls Tryd.prog 32 #[.agg #[.int .i64 k, .slice A n c], .int .i64 (lvl : Int)] w fun e w' => e = .returned (.int .i64 (chkT f t)) ∧ Below w.heap.size w w' := by
 induction f with
 | zero =>
  intro lvl g t k A n c w hlf h
  have g16 : (16 : Int) < (lvl : Int) := by omega
  clear h
  go_enter Tryd.func32, Tryd.ntmps32
  go_upto_region 1 with (fail)
  generalize hx_ : World.alloc w _ = wo1
  have hO1 : OwnB w wo1 [(w.heap.size, [.int .i64 k, .slice A n c])] := by rw [← hx_]; exact (OwnB.refl w).new #[.int .i64 k, .slice A n c] _ (g := w.heap.size)
  clear hx_
  have c0_0 := hO1.c 0 0
  have c0_1 := hO1.c 0 1
  have cf0 := hO1.fr 0
  have hb := hO1.below
  repeat' ((fail_if_success at_builtin); (first | go_skip | go_guarded | go_step))
  go_ret
  exact ⟨rfl, hb⟩
 | succ f ih =>
  intro lvl g t k A n c w hlf h
  have g16 : ¬ (16 : Int) < (lvl : Int) := by omega
  have i2 : IntKind.i64.wrap ((lvl : Int) + 1) = ((lvl + 1 : Nat) : Int) := by rw [IntWalk.i64_in _ (by omega)]; omega
  obtain ⟨k', es⟩ := t
  obtain ⟨j, A', c', rfl, hcs, hs⟩ := ty_open h
  injection hcs with e1 e2
  injection e1 with _ e1
  subst e1
  injection e2 with e2 _
  injection e2 with e2 e3 e4
  subst e2 e4
  have hn : n = es.length := e3
  clear e3
  replace hn := Lib.hid hn
  replace hs := Lib.hid hs
  replace ih := Lib.hid ih
  obtain ⟨fin, hfin⟩ : ∃ fin, fin = chkT (f + 1) (.mk k es) := ⟨_, rfl⟩
  have hu := hfin
  rw [chkT_mk] at hu
  replace hfin := Lib.hid hfin
  clear h
  by_cases hk : k < 0 ∨ 7 < k
  ·
   rw [if_pos hk] at hu
   replace hu := Lib.hid hu
   rcases hk with hk | hk
   ·
    go_enter Tryd.func32, Tryd.ntmps32
    go_upto_region 1 with (fail)
    generalize hx_ : World.alloc w _ = wo1
    have hO1 : OwnB w wo1 [(w.heap.size, [.int .i64 k, .slice A n c])] := by rw [← hx_]; exact (OwnB.refl w).new #[.int .i64 k, .slice A n c] _ (g := w.heap.size)
    clear hx_
    have c0_0 := hO1.c 0 0
    have c0_1 := hO1.c 0 1
    have cf0 := hO1.fr 0
    have hb := hO1.below
    repeat' ((fail_if_success at_builtin); (first | go_skip | go_guarded | go_step))
    go_ret
    exact ⟨ret_i6 (by rw [← hfin.out, hu.out]), hb⟩
   ·
    have hk0 : ¬ k < 0 := by omega
    go_enter Tryd.func32, Tryd.ntmps32
    go_upto_region 1 with (fail)
    generalize hx_ : World.alloc w _ = wo1
    have hO1 : OwnB w wo1 [(w.heap.size, [.int .i64 k, .slice A n c])] := by rw [← hx_]; exact (OwnB.refl w).new #[.int .i64 k, .slice A n c] _ (g := w.heap.size)
    clear hx_
    have c0_0 := hO1.c 0 0
    have c0_1 := hO1.c 0 1
    have cf0 := hO1.fr 0
    have hb := hO1.below
    repeat' ((fail_if_success at_builtin); (first | go_skip | go_guarded | go_step))
    go_ret
    exact ⟨ret_i6 (by rw [← hfin.out, hu.out]), hb⟩
  ·
   rw [if_neg hk] at hu
   have hk0 : ¬ k < 0 := by omega
   have hk7 : ¬ 7 < k := by omega
   clear hk
   go_enter Tryd.func32, Tryd.ntmps32
   go_upto_region 1 with (fail)
   generalize hx_ : World.alloc w _ = wo1
   have hO1 : OwnB w wo1 [(w.heap.size, [.int .i64 k, .slice A n c])] := by rw [← hx_]; exact (OwnB.refl w).new #[.int .i64 k, .slice A n c] _ (g := w.heap.size)
   clear hx_
   have c0_0 := hO1.c 0 0
   have c0_1 := hO1.c 0 1
   have cf0 := hO1.fr 0
   repeat' ((fail_if_success at_builtin); (first | go_skip | go_guarded | go_step))
   refine (holds_any k _).mono ?_
   rintro e w2 ⟨rfl, hb2⟩
   dsimp only
   have hO2 : OwnB w w2 [(w.heap.size, [.int .i64 k, .slice A n c])] := hO1.kept hb2
   clear c0_0 c0_1 cf0 hO1
   have c0_0 := hO2.c 0 0
   have c0_1 := hO2.c 0 1
   have cf0 := hO2.fr 0
   have hb := hO2.below
   cases hh : holdsK k with
   | false =>
    rw [hh, if_neg (by simp)] at hu
    clear hs
    cases es with
    | nil =>
     obtain rfl : n = 0 := hn.out
     have hf : fin = 0 := hu
     replace hf := Lib.hid hf
     clear hu hh
     repeat' ((fail_if_success at_builtin); (first | go_skip | go_guarded | go_step))
     go_ret
     exact ⟨ret_i6 (by rw [← hfin.out, hf.out]), hb⟩
    | cons x r =>
     have hn2 : 1 ≤ n := by rw [hn.out]; simp
     have hn1 : (0 : Int) < (n : Int) := by omega
     have hf : fin = 1 := hu
     replace hf := Lib.hid hf
     clear hu hh
     repeat' ((fail_if_success at_builtin); (first | go_skip | go_guarded | go_step))
     go_ret
     exact ⟨ret_i6 (by rw [← hfin.out, hf.out]), hb⟩
   | true =>
    rw [hh, if_pos rfl] at hu
    cases es with
    | nil =>
     obtain rfl : n = 0 := hn.out
     have hf : fin = 1 := hu
     replace hf := Lib.hid hf
     clear hu hh hs
     repeat' ((fail_if_success at_builtin); (first | go_skip | go_guarded | go_step))
     go_ret
     exact ⟨ret_i6 (by rw [← hfin.out, hf.out]), hb⟩
    | cons x r =>
     cases r with
     | nil =>
      have hu2 : fin = chkT f x := hu
      replace hu2 := Lib.hid hu2
      obtain ⟨xk, xes⟩ := x
      obtain rfl : n = 1 := hn.out
      obtain ⟨b, o2, j2, A1, c1, rfl, rfl, hbS, hc1, x0, x1, hr⟩ := ty_elem hs.out
      have y0 := (hb.cell (p := ⟨b, o2, none⟩) hbS).trans x0
      have y1 := (hb.cell (p := ⟨b, o2 + 1, none⟩) hbS).trans x1
      have hc1i : (1 : Int) ≤ (c : Int) := by omega
      have hr2 := Lib.hid (RTf.at_ hr hb)
      clear hu hs hh hr x0 x1
      repeat' ((fail_if_success at_builtin); (first | go_skip | go_guarded | go_step))
      refine (ih.out (lvl + 1) _ (.mk xk xes) xk A1 xes.length c1 w2 (by omega) hr2.out).mono ?_
      rintro e w3 ⟨rfl, hb3⟩
      dsimp only
      have hb4 := hb.trans (hb3.mono hb.size)
      rw [← hu2.out]
      repeat' ((fail_if_success at_builtin); (first | go_skip | go_guarded | go_step))
      go_ret
      exact ⟨ret_i6 (by rw [← hfin.out]), hb4⟩
     | cons y r =>
      have hn2 : 2 ≤ n := by rw [hn.out]; simp
      have hn1 : ((n : Int) != 1) = true := by simp; omega
      have hf : fin = 1 := hu
      replace hf := Lib.hid hf
      clear hu hh hs
      repeat' ((fail_if_success at_builtin); (first | go_skip | go_guarded | go_step))
      go_ret
      exact ⟨ret_i6 (by rw [← hfin.out, hf.out]), hb⟩
set_option maxRecDepth 100000 in
set_option maxHeartbeats 2000000 in
theorem rvalid_any (g : Nat) (t : Ty) (k : Int) (A : Option Addr) (n c : Nat) (w : World) (h : RTf g w (fun b => b < w.heap.size) t [.int .i64 k, .slice A n c]) :
  Calls Tryd.prog 12 #[.agg #[.int .i64 k, .slice A n c]] w fun e w' => e = .returned (.int .i64 (validT t)) ∧ Below w.heap.size w w' := by
 go_enter Tryd.func12, Tryd.ntmps12
 go_upto_region 1 with (fail)
 generalize hx_ : World.alloc w _ = wo1
 have hO1 : OwnB w wo1 [(w.heap.size, [.int .i64 k, .slice A n c])] := by rw [← hx_]; exact (OwnB.refl w).new #[.int .i64 k, .slice A n c] _ (g := w.heap.size)
 clear hx_
 have c0_0 := hO1.c 0 0
 have c0_1 := hO1.c 0 1
 have cf0 := hO1.fr 0
 have hb := hO1.below
 have h2 := Lib.hid (RTf.at_ h hb)
 repeat' ((fail_if_success at_builtin); (first | go_skip | go_guarded | go_step))
 refine (check_any 16 1 g t k A n c _ rfl h2.out).mono ?_
 rintro e w3 ⟨rfl, hb3⟩
 dsimp only
 have hb4 := hb.trans (hb3.mono hb.size)
 repeat' ((fail_if_success at_builtin); (first | go_skip | go_guarded | go_step))
 go_ret
 exact ⟨rfl, hb4⟩
end Go.Proofs.YtgcpffbaejodiaaDoor
