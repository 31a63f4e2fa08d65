/- Typing: the document's meet. -/
import Derived.Test.YtgcpffbaejodiaaDoorTyD
namespace Go.Proofs.YtgcpffbaejodiaaDoor
open Go.RowKit
set_option maxRecDepth 100000 in
set_option maxHeartbeats 6000000 in
theorem rmeet_any (a : VT) : ∀ (b : VT) (xa : Int) (A : Option Addr) (n c : Nat) (xb : Int) (A2 : Option Addr) (n2 c2 : Nat) (w : World) (S : Nat → Prop), a.Ok → b.Ok → (∀ b, S b → b < w.heap.size) → RV w S a [.int .i64 xa, .slice A n c] → RV w S b [.int .i64 xb, .slice A2 n2 c2] →
  Calls Tryd.prog 46 #[.agg #[.int .i64 xa, .slice A n c], .agg #[.int .i64 xb, .slice A2 n2 c2]] w fun e w' => RetT w S (VT.meet a b) e w' := by
 induction a with
 | base k =>
  intro b xa A n c xb A2 n2 c2 w S hoa hob hSb ha hb0
  have ha2 := ha
  obtain ⟨rfl, rfl, _⟩ := rv_base ha
  by_cases hk : k = 0
  ·
   have hv : VT.meet (VT.base k) b = b := by rw [VT.meet_base, if_pos hk]
   rw [hv]
   clear hv
   obtain ⟨b1, b2, b3, hbf⟩ := hb0.form
   have hxb : xb = (b.kind : Int) := by injection hbf with e1 _; injection e1
   subst hxb
   subst hk
   clear ha hbf
   go_enter Tryd.func46, Tryd.ntmps46
   go_upto_region 1 with (fail)
   generalize hx_ : World.alloc (World.alloc (World.alloc w _) _) _ = wo1
   have hO1 : OwnB w wo1 [(w.heap.size + 2, [.int .i64 0, .slice none 0 0]), (w.heap.size + 1, [.int .i64 (b.kind : Int), .slice A2 n2 c2]), (w.heap.size, [.int .i64 0, .slice A 0 c])] := by rw [← hx_]; exact (((OwnB.refl w).new #[.int .i64 0, .slice A 0 c] _ (g := w.heap.size)).new #[.int .i64 (b.kind : Int), .slice A2 n2 c2] _ (g := w.heap.size + 1)).new #[.int .i64 0, .slice none 0 0] _ (g := w.heap.size + 2)
   clear hx_
   have c0_0 := hO1.c 0 0
   have c0_1 := hO1.c 0 1
   have cf0 := hO1.fr 0
   have c1_0 := hO1.c 1 0
   have c1_1 := hO1.c 1 1
   have cf1 := hO1.fr 1
   have c2_0 := hO1.c 2 0
   have c2_1 := hO1.c 2 1
   have cf2 := hO1.fr 2
   have hb1 := hO1.below
   have hl4 := hO1.lt 0
   repeat' ((fail_if_success at_builtin); (first | go_skip | go_guarded | go_step))
   generalize hx_ : World.setCell (World.setCell _ _ _) _ _ = wo2
   have hO2 : OwnB w wo2 [(w.heap.size + 2, [.int .i64 (b.kind : Int), .slice A2 n2 c2]), (w.heap.size + 1, [.int .i64 (b.kind : Int), .slice A2 n2 c2]), (w.heap.size, [.int .i64 0, .slice A 0 c])] := by rw [← hx_]; exact (hO1.store 0 rfl 0 _).store 0 rfl 1 _
   clear hx_ c0_0 c0_1 cf0 c1_0 c1_1 cf1 c2_0 c2_1 cf2 hO1
   have c0_0 := hO2.c 0 0
   have c0_1 := hO2.c 0 1
   have cf0 := hO2.fr 0
   have c1_0 := hO2.c 1 0
   have c1_1 := hO2.c 1 1
   have cf1 := hO2.fr 1
   have c2_0 := hO2.c 2 0
   have c2_1 := hO2.c 2 1
   have cf2 := hO2.fr 2
   have hb := hO2.below
   refine bodyPost_ret (v := .agg #[.int .i64 (b.kind : Int), .slice A2 n2 c2]) (by simp only [results, Tryd.results46]; go_simp; first | done | exact ⟨rfl, rfl, rfl⟩ | rfl) rfl ?_
   have hw := hO2.below
   exact ⟨A2, n2, c2, rfl, (RV.at_ hb0 hSb hw).imp fun b h => .inl h, hb⟩
  ·
   cases b with
   | base j =>
    have hb2 := hb0
    obtain ⟨rfl, rfl, _⟩ := rv_base hb0
    by_cases hj : j = 0
    ·
     have hv : VT.meet (VT.base k) (VT.base j) = VT.base k := by rw [VT.meet_base, if_neg hk]; show (if j = 0 then _ else _) = _; rw [if_pos hj]
     rw [hv]
     subst hj
     clear hv hb0 ha
     have gA : ((k : Int) == 0) = false := by simp; omega
     go_enter Tryd.func46, Tryd.ntmps46
     go_upto_region 1 with (fail)
     generalize hx_ : World.alloc (World.alloc (World.alloc w _) _) _ = wo1
     have hO1 : OwnB w wo1 [(w.heap.size + 2, [.int .i64 0, .slice none 0 0]), (w.heap.size + 1, [.int .i64 0, .slice A2 0 c2]), (w.heap.size, [.int .i64 (k : Int), .slice A 0 c])] := by rw [← hx_]; exact (((OwnB.refl w).new #[.int .i64 (k : Int), .slice A 0 c] _ (g := w.heap.size)).new #[.int .i64 0, .slice A2 0 c2] _ (g := w.heap.size + 1)).new #[.int .i64 0, .slice none 0 0] _ (g := w.heap.size + 2)
     clear hx_
     have c0_0 := hO1.c 0 0
     have c0_1 := hO1.c 0 1
     have cf0 := hO1.fr 0
     have c1_0 := hO1.c 1 0
     have c1_1 := hO1.c 1 1
     have cf1 := hO1.fr 1
     have c2_0 := hO1.c 2 0
     have c2_1 := hO1.c 2 1
     have cf2 := hO1.fr 2
     have hb1 := hO1.below
     have hl4 := hO1.lt 0
     repeat' ((fail_if_success at_builtin); (first | go_skip | go_guarded | go_step))
     generalize hx_ : World.setCell (World.setCell _ _ _) _ _ = wo2
     have hO2 : OwnB w wo2 [(w.heap.size + 2, [.int .i64 (k : Int), .slice A 0 c]), (w.heap.size + 1, [.int .i64 0, .slice A2 0 c2]), (w.heap.size, [.int .i64 (k : Int), .slice A 0 c])] := by rw [← hx_]; exact (hO1.store 0 rfl 0 _).store 0 rfl 1 _
     clear hx_ c0_0 c0_1 cf0 c1_0 c1_1 cf1 c2_0 c2_1 cf2 hO1
     have c0_0 := hO2.c 0 0
     have c0_1 := hO2.c 0 1
     have cf0 := hO2.fr 0
     have c1_0 := hO2.c 1 0
     have c1_1 := hO2.c 1 1
     have cf1 := hO2.fr 1
     have c2_0 := hO2.c 2 0
     have c2_1 := hO2.c 2 1
     have cf2 := hO2.fr 2
     have hb := hO2.below
     refine bodyPost_ret (v := .agg #[.int .i64 (k : Int), .slice A 0 c]) (by simp only [results, Tryd.results46]; go_simp; first | done | exact ⟨rfl, rfl, rfl⟩ | rfl) rfl ?_
     have hw := hO2.below
     exact ⟨A, 0, c, rfl, (RV.at_ ha2 hSb hw).imp fun b h => .inl h, hb⟩
    ·
     by_cases hkj : k = j
     ·
      subst hkj
      have hv : VT.meet (VT.base k) (VT.base k) = VT.base k := by rw [VT.meet_base, if_neg hk]; show (if k = 0 then _ else if k = k then _ else _) = _; rw [if_neg hj, if_pos rfl]
      rw [hv]
      have hh := holds_base hoa
      replace hh := Lib.hid hh
      clear hv ha hb0
      have gA : ((k : Int) == 0) = false := by simp; omega
      have gN : ((k : Int) != (k : Int)) = false := by simp
      go_enter Tryd.func46, Tryd.ntmps46
      go_upto_region 1 with (fail)
      generalize hx_ : World.alloc (World.alloc (World.alloc w _) _) _ = wo1
      have hO1 : OwnB w wo1 [(w.heap.size + 2, [.int .i64 0, .slice none 0 0]), (w.heap.size + 1, [.int .i64 (k : Int), .slice A2 0 c2]), (w.heap.size, [.int .i64 (k : Int), .slice A 0 c])] := by rw [← hx_]; exact (((OwnB.refl w).new #[.int .i64 (k : Int), .slice A 0 c] _ (g := w.heap.size)).new #[.int .i64 (k : Int), .slice A2 0 c2] _ (g := w.heap.size + 1)).new #[.int .i64 0, .slice none 0 0] _ (g := w.heap.size + 2)
      clear hx_
      have c0_0 := hO1.c 0 0
      have c0_1 := hO1.c 0 1
      have cf0 := hO1.fr 0
      have c1_0 := hO1.c 1 0
      have c1_1 := hO1.c 1 1
      have cf1 := hO1.fr 1
      have c2_0 := hO1.c 2 0
      have c2_1 := hO1.c 2 1
      have cf2 := hO1.fr 2
      have hb1 := hO1.below
      have hl4 := hO1.lt 0
      repeat' ((fail_if_success at_builtin); (first | go_skip | go_guarded | go_step))
      refine (holds_any (k : Int) _).mono ?_
      rintro e5 w5 ⟨rfl, hb5⟩
      dsimp only
      have hO2 : OwnB w w5 [(w.heap.size + 2, [.int .i64 0, .slice none 0 0]), (w.heap.size + 1, [.int .i64 (k : Int), .slice A2 0 c2]), (w.heap.size, [.int .i64 (k : Int), .slice A 0 c])] := hO1.kept hb5
      clear c0_0 c0_1 cf0 c1_0 c1_1 cf1 c2_0 c2_1 cf2 hO1
      have c0_0 := hO2.c 0 0
      have c0_1 := hO2.c 0 1
      have cf0 := hO2.fr 0
      have c1_0 := hO2.c 1 0
      have c1_1 := hO2.c 1 1
      have cf1 := hO2.fr 1
      have c2_0 := hO2.c 2 0
      have c2_1 := hO2.c 2 1
      have cf2 := hO2.fr 2
      rw [hh.out]
      repeat' ((fail_if_success at_builtin); (first | go_skip | go_guarded | go_step))
      generalize hx_ : World.setCell (World.setCell _ _ _) _ _ = wo3
      have hO3 : OwnB w wo3 [(w.heap.size + 2, [.int .i64 (k : Int), .slice A 0 c]), (w.heap.size + 1, [.int .i64 (k : Int), .slice A2 0 c2]), (w.heap.size, [.int .i64 (k : Int), .slice A 0 c])] := by rw [← hx_]; exact (hO2.store 0 rfl 0 _).store 0 rfl 1 _
      clear hx_ c0_0 c0_1 cf0 c1_0 c1_1 cf1 c2_0 c2_1 cf2 hO2
      have c0_0 := hO3.c 0 0
      have c0_1 := hO3.c 0 1
      have cf0 := hO3.fr 0
      have c1_0 := hO3.c 1 0
      have c1_1 := hO3.c 1 1
      have cf1 := hO3.fr 1
      have c2_0 := hO3.c 2 0
      have c2_1 := hO3.c 2 1
      have cf2 := hO3.fr 2
      have hb := hO3.below
      refine bodyPost_ret (v := .agg #[.int .i64 (k : Int), .slice A 0 c]) (by simp only [results, Tryd.results46]; go_simp; first | done | exact ⟨rfl, rfl, rfl⟩ | rfl) rfl ?_
      have hw := hO3.below
      exact ⟨A, 0, c, rfl, (RV.at_ ha2 hSb hw).imp fun b h => .inl h, hb⟩
     ·
      have hv : VT.meet (VT.base k) (VT.base j) = VT.base 7 := by rw [VT.meet_base, if_neg hk]; show (if j = 0 then _ else if k = j then _ else _) = _; rw [if_neg hj, if_neg hkj]
      rw [hv]
      clear hv ha hb0
      have gA : ((k : Int) == 0) = false := by simp; omega
      have gB : ((j : Int) == 0) = false := by simp; omega
      have gN : ((k : Int) != (j : Int)) = true := by simp; omega
      go_enter Tryd.func46, Tryd.ntmps46
      go_upto_region 1 with (fail)
      generalize hx_ : World.alloc (World.alloc (World.alloc w _) _) _ = wo1
      have hO1 : OwnB w wo1 [(w.heap.size + 2, [.int .i64 0, .slice none 0 0]), (w.heap.size + 1, [.int .i64 (j : Int), .slice A2 0 c2]), (w.heap.size, [.int .i64 (k : Int), .slice A 0 c])] := by rw [← hx_]; exact (((OwnB.refl w).new #[.int .i64 (k : Int), .slice A 0 c] _ (g := w.heap.size)).new #[.int .i64 (j : Int), .slice A2 0 c2] _ (g := w.heap.size + 1)).new #[.int .i64 0, .slice none 0 0] _ (g := w.heap.size + 2)
      clear hx_
      have c0_0 := hO1.c 0 0
      have c0_1 := hO1.c 0 1
      have cf0 := hO1.fr 0
      have c1_0 := hO1.c 1 0
      have c1_1 := hO1.c 1 1
      have cf1 := hO1.fr 1
      have c2_0 := hO1.c 2 0
      have c2_1 := hO1.c 2 1
      have cf2 := hO1.fr 2
      have hb1 := hO1.below
      have hl4 := hO1.lt 0
      repeat' ((fail_if_success at_builtin); (first | go_skip | go_guarded | go_step))
      refine (plainT_any (7 : Int) _).mono ?_
      rintro e9 w9 ⟨rfl, hb9⟩
      dsimp only
      have hO2 : OwnB w w9 [(w.heap.size + 2, [.int .i64 0, .slice none 0 0]), (w.heap.size + 1, [.int .i64 (j : Int), .slice A2 0 c2]), (w.heap.size, [.int .i64 (k : Int), .slice A 0 c])] := hO1.kept hb9
      clear c0_0 c0_1 cf0 c1_0 c1_1 cf1 c2_0 c2_1 cf2 hO1
      have c0_0 := hO2.c 0 0
      have c0_1 := hO2.c 0 1
      have cf0 := hO2.fr 0
      have c1_0 := hO2.c 1 0
      have c1_1 := hO2.c 1 1
      have cf1 := hO2.fr 1
      have c2_0 := hO2.c 2 0
      have c2_1 := hO2.c 2 1
      have cf2 := hO2.fr 2
      repeat' ((fail_if_success at_builtin); (first | go_skip | go_guarded | go_step))
      generalize hx_ : World.setCell (World.setCell _ _ _) _ _ = wo3
      have hO3 : OwnB w wo3 [(w.heap.size + 2, [.int .i64 (7 : Int), .slice none 0 0]), (w.heap.size + 1, [.int .i64 (j : Int), .slice A2 0 c2]), (w.heap.size, [.int .i64 (k : Int), .slice A 0 c])] := by rw [← hx_]; exact (hO2.store 0 rfl 0 _).store 0 rfl 1 _
      clear hx_ c0_0 c0_1 cf0 c1_0 c1_1 cf1 c2_0 c2_1 cf2 hO2
      have c0_0 := hO3.c 0 0
      have c0_1 := hO3.c 0 1
      have cf0 := hO3.fr 0
      have c1_0 := hO3.c 1 0
      have c1_1 := hO3.c 1 1
      have cf1 := hO3.fr 1
      have c2_0 := hO3.c 2 0
      have c2_1 := hO3.c 2 1
      have cf2 := hO3.fr 2
      have hb := hO3.below
      refine bodyPost_ret (v := .agg #[.int .i64 (7 : Int), .slice none 0 0]) (by simp only [results, Tryd.results46]; go_simp; first | done | exact ⟨rfl, rfl, rfl⟩ | rfl) rfl ?_
      exact ⟨none, 0, 0, rfl, rv_scalar _ _ 7, hb⟩
   | of j f =>
    obtain ⟨rfl, rfl, _⟩ := rv_of hb0
    have hv : VT.meet (VT.base k) (VT.of j f) = VT.base 7 := by rw [VT.meet_base, if_neg hk]
    rw [hv]
    have hj := hob.1
    have hk5 := hoa.2
    clear hv ha hb0
    have gA : ((k : Int) == 0) = false := by simp; omega
    have gB : ((j : Int) == 0) = false := by simp; omega
    have gN : ((k : Int) != (j : Int)) = true := by simp; omega
    go_enter Tryd.func46, Tryd.ntmps46
    go_upto_region 1 with (fail)
    generalize hx_ : World.alloc (World.alloc (World.alloc w _) _) _ = wo1
    have hO1 : OwnB w wo1 [(w.heap.size + 2, [.int .i64 0, .slice none 0 0]), (w.heap.size + 1, [.int .i64 (j : Int), .slice A2 1 c2]), (w.heap.size, [.int .i64 (k : Int), .slice A 0 c])] := by rw [← hx_]; exact (((OwnB.refl w).new #[.int .i64 (k : Int), .slice A 0 c] _ (g := w.heap.size)).new #[.int .i64 (j : Int), .slice A2 1 c2] _ (g := w.heap.size + 1)).new #[.int .i64 0, .slice none 0 0] _ (g := w.heap.size + 2)
    clear hx_
    have c0_0 := hO1.c 0 0
    have c0_1 := hO1.c 0 1
    have cf0 := hO1.fr 0
    have c1_0 := hO1.c 1 0
    have c1_1 := hO1.c 1 1
    have cf1 := hO1.fr 1
    have c2_0 := hO1.c 2 0
    have c2_1 := hO1.c 2 1
    have cf2 := hO1.fr 2
    have hb1 := hO1.below
    have hl4 := hO1.lt 0
    repeat' ((fail_if_success at_builtin); (first | go_skip | go_guarded | go_step))
    refine (plainT_any (7 : Int) _).mono ?_
    rintro e9 w9 ⟨rfl, hb9⟩
    dsimp only
    have hO2 : OwnB w w9 [(w.heap.size + 2, [.int .i64 0, .slice none 0 0]), (w.heap.size + 1, [.int .i64 (j : Int), .slice A2 1 c2]), (w.heap.size, [.int .i64 (k : Int), .slice A 0 c])] := hO1.kept hb9
    clear c0_0 c0_1 cf0 c1_0 c1_1 cf1 c2_0 c2_1 cf2 hO1
    have c0_0 := hO2.c 0 0
    have c0_1 := hO2.c 0 1
    have cf0 := hO2.fr 0
    have c1_0 := hO2.c 1 0
    have c1_1 := hO2.c 1 1
    have cf1 := hO2.fr 1
    have c2_0 := hO2.c 2 0
    have c2_1 := hO2.c 2 1
    have cf2 := hO2.fr 2
    repeat' ((fail_if_success at_builtin); (first | go_skip | go_guarded | go_step))
    generalize hx_ : World.setCell (World.setCell _ _ _) _ _ = wo3
    have hO3 : OwnB w wo3 [(w.heap.size + 2, [.int .i64 (7 : Int), .slice none 0 0]), (w.heap.size + 1, [.int .i64 (j : Int), .slice A2 1 c2]), (w.heap.size, [.int .i64 (k : Int), .slice A 0 c])] := by rw [← hx_]; exact (hO2.store 0 rfl 0 _).store 0 rfl 1 _
    clear hx_ c0_0 c0_1 cf0 c1_0 c1_1 cf1 c2_0 c2_1 cf2 hO2
    have c0_0 := hO3.c 0 0
    have c0_1 := hO3.c 0 1
    have cf0 := hO3.fr 0
    have c1_0 := hO3.c 1 0
    have c1_1 := hO3.c 1 1
    have cf1 := hO3.fr 1
    have c2_0 := hO3.c 2 0
    have c2_1 := hO3.c 2 1
    have cf2 := hO3.fr 2
    have hb := hO3.below
    refine bodyPost_ret (v := .agg #[.int .i64 (7 : Int), .slice none 0 0]) (by simp only [results, Tryd.results46]; go_simp; first | done | exact ⟨rfl, rfl, rfl⟩ | rfl) rfl ?_
    exact ⟨none, 0, 0, rfl, rv_scalar _ _ 7, hb⟩
 | of k e ih =>
  intro b xa A n c xb A2 n2 c2 w S hoa hob hSb ha hb0
  have ha2 := ha
  have hk := hoa.1
  cases b with
  | base j =>
   obtain ⟨rfl, rfl, _⟩ := rv_of ha
   obtain ⟨rfl, rfl, _⟩ := rv_base hb0
   have hj5 := hob.2
   clear ih
   by_cases hj : j = 0
   ·
    have hv : VT.meet (VT.of k e) (VT.base j) = VT.of k e := by rw [VT.meet_of_base, if_pos hj]
    rw [hv]
    subst hj
    clear hv ha hb0
    have gA : ((k : Int) == 0) = false := by simp; omega
    go_enter Tryd.func46, Tryd.ntmps46
    go_upto_region 1 with (fail)
    generalize hx_ : World.alloc (World.alloc (World.alloc w _) _) _ = wo1
    have hO1 : OwnB w wo1 [(w.heap.size + 2, [.int .i64 0, .slice none 0 0]), (w.heap.size + 1, [.int .i64 0, .slice A2 0 c2]), (w.heap.size, [.int .i64 (k : Int), .slice A 1 c])] := by rw [← hx_]; exact (((OwnB.refl w).new #[.int .i64 (k : Int), .slice A 1 c] _ (g := w.heap.size)).new #[.int .i64 0, .slice A2 0 c2] _ (g := w.heap.size + 1)).new #[.int .i64 0, .slice none 0 0] _ (g := w.heap.size + 2)
    clear hx_
    have c0_0 := hO1.c 0 0
    have c0_1 := hO1.c 0 1
    have cf0 := hO1.fr 0
    have c1_0 := hO1.c 1 0
    have c1_1 := hO1.c 1 1
    have cf1 := hO1.fr 1
    have c2_0 := hO1.c 2 0
    have c2_1 := hO1.c 2 1
    have cf2 := hO1.fr 2
    have hb1 := hO1.below
    have hl4 := hO1.lt 0
    repeat' ((fail_if_success at_builtin); (first | go_skip | go_guarded | go_step))
    generalize hx_ : World.setCell (World.setCell _ _ _) _ _ = wo2
    have hO2 : OwnB w wo2 [(w.heap.size + 2, [.int .i64 (k : Int), .slice A 1 c]), (w.heap.size + 1, [.int .i64 0, .slice A2 0 c2]), (w.heap.size, [.int .i64 (k : Int), .slice A 1 c])] := by rw [← hx_]; exact (hO1.store 0 rfl 0 _).store 0 rfl 1 _
    clear hx_ c0_0 c0_1 cf0 c1_0 c1_1 cf1 c2_0 c2_1 cf2 hO1
    have c0_0 := hO2.c 0 0
    have c0_1 := hO2.c 0 1
    have cf0 := hO2.fr 0
    have c1_0 := hO2.c 1 0
    have c1_1 := hO2.c 1 1
    have cf1 := hO2.fr 1
    have c2_0 := hO2.c 2 0
    have c2_1 := hO2.c 2 1
    have cf2 := hO2.fr 2
    have hb := hO2.below
    refine bodyPost_ret (v := .agg #[.int .i64 (k : Int), .slice A 1 c]) (by simp only [results, Tryd.results46]; go_simp; first | done | exact ⟨rfl, rfl, rfl⟩ | rfl) rfl ?_
    have hw := hO2.below
    exact ⟨A, 1, c, rfl, (RV.at_ ha2 hSb hw).imp fun b h => .inl h, hb⟩
   ·
    have hv : VT.meet (VT.of k e) (VT.base j) = VT.base 7 := by rw [VT.meet_of_base, if_neg hj]
    rw [hv]
    clear hv ha hb0
    have gA : ((k : Int) == 0) = false := by simp; omega
    have gB : ((j : Int) == 0) = false := by simp; omega
    have gN : ((k : Int) != (j : Int)) = true := by simp; omega
    go_enter Tryd.func46, Tryd.ntmps46
    go_upto_region 1 with (fail)
    generalize hx_ : World.alloc (World.alloc (World.alloc w _) _) _ = wo1
    have hO1 : OwnB w wo1 [(w.heap.size + 2, [.int .i64 0, .slice none 0 0]), (w.heap.size + 1, [.int .i64 (j : Int), .slice A2 0 c2]), (w.heap.size, [.int .i64 (k : Int), .slice A 1 c])] := by rw [← hx_]; exact (((OwnB.refl w).new #[.int .i64 (k : Int), .slice A 1 c] _ (g := w.heap.size)).new #[.int .i64 (j : Int), .slice A2 0 c2] _ (g := w.heap.size + 1)).new #[.int .i64 0, .slice none 0 0] _ (g := w.heap.size + 2)
    clear hx_
    have c0_0 := hO1.c 0 0
    have c0_1 := hO1.c 0 1
    have cf0 := hO1.fr 0
    have c1_0 := hO1.c 1 0
    have c1_1 := hO1.c 1 1
    have cf1 := hO1.fr 1
    have c2_0 := hO1.c 2 0
    have c2_1 := hO1.c 2 1
    have cf2 := hO1.fr 2
    have hb1 := hO1.below
    have hl4 := hO1.lt 0
    repeat' ((fail_if_success at_builtin); (first | go_skip | go_guarded | go_step))
    refine (plainT_any (7 : Int) _).mono ?_
    rintro e9 w9 ⟨rfl, hb9⟩
    dsimp only
    have hO2 : OwnB w w9 [(w.heap.size + 2, [.int .i64 0, .slice none 0 0]), (w.heap.size + 1, [.int .i64 (j : Int), .slice A2 0 c2]), (w.heap.size, [.int .i64 (k : Int), .slice A 1 c])] := hO1.kept hb9
    clear c0_0 c0_1 cf0 c1_0 c1_1 cf1 c2_0 c2_1 cf2 hO1
    have c0_0 := hO2.c 0 0
    have c0_1 := hO2.c 0 1
    have cf0 := hO2.fr 0
    have c1_0 := hO2.c 1 0
    have c1_1 := hO2.c 1 1
    have cf1 := hO2.fr 1
    have c2_0 := hO2.c 2 0
    have c2_1 := hO2.c 2 1
    have cf2 := hO2.fr 2
    repeat' ((fail_if_success at_builtin); (first | go_skip | go_guarded | go_step))
    generalize hx_ : World.setCell (World.setCell _ _ _) _ _ = wo3
    have hO3 : OwnB w wo3 [(w.heap.size + 2, [.int .i64 (7 : Int), .slice none 0 0]), (w.heap.size + 1, [.int .i64 (j : Int), .slice A2 0 c2]), (w.heap.size, [.int .i64 (k : Int), .slice A 1 c])] := by rw [← hx_]; exact (hO2.store 0 rfl 0 _).store 0 rfl 1 _
    clear hx_ c0_0 c0_1 cf0 c1_0 c1_1 cf1 c2_0 c2_1 cf2 hO2
    have c0_0 := hO3.c 0 0
    have c0_1 := hO3.c 0 1
    have cf0 := hO3.fr 0
    have c1_0 := hO3.c 1 0
    have c1_1 := hO3.c 1 1
    have cf1 := hO3.fr 1
    have c2_0 := hO3.c 2 0
    have c2_1 := hO3.c 2 1
    have cf2 := hO3.fr 2
    have hb := hO3.below
    refine bodyPost_ret (v := .agg #[.int .i64 (7 : Int), .slice none 0 0]) (by simp only [results, Tryd.results46]; go_simp; first | done | exact ⟨rfl, rfl, rfl⟩ | rfl) rfl ?_
    exact ⟨none, 0, 0, rfl, rv_scalar _ _ 7, hb⟩
  | of j f =>
   have hj := hob.1
   by_cases hkj : k = j
   ·
    subst hkj
    have hv : VT.meet (VT.of k e) (VT.of k f) = VT.of k (VT.meet e f) := by rw [VT.meet_of, if_pos rfl]
    rw [hv]
    have hh := holds_of hoa
    have hoa2 := hoa.2
    have hob2 := hob.2
    obtain ⟨rfl, rfl, hc, ba, oa, A1, n1, c1, rfl, hbSa, x0, x1, hre⟩ := rv_of ha
    obtain ⟨rfl, rfl, hc2, bb, ob, A3, n3, c3, rfl, hbSb, z0, z1, hrf⟩ := rv_of hb0
    have hc1i : (1 : Int) ≤ (c : Int) := by omega
    have hc2i : (1 : Int) ≤ (c2 : Int) := by omega
    have gA : ((k : Int) == 0) = false := by simp; omega
    have gN : ((k : Int) != (k : Int)) = false := by simp
    replace hh := Lib.hid hh
    replace ih := Lib.hid ih
    clear ha hb0 ha2 hv
    go_enter Tryd.func46, Tryd.ntmps46
    go_upto_region 1 with (fail)
    generalize hx_ : World.alloc (World.alloc (World.alloc w _) _) _ = wo1
    have hO1 : OwnB w wo1 [(w.heap.size + 2, [.int .i64 0, .slice none 0 0]), (w.heap.size + 1, [.int .i64 (k : Int), .slice (some ⟨bb, ob, none⟩) 1 c2]), (w.heap.size, [.int .i64 (k : Int), .slice (some ⟨ba, oa, none⟩) 1 c])] := by rw [← hx_]; exact (((OwnB.refl w).new #[.int .i64 (k : Int), .slice (some ⟨ba, oa, none⟩) 1 c] _ (g := w.heap.size)).new #[.int .i64 (k : Int), .slice (some ⟨bb, ob, none⟩) 1 c2] _ (g := w.heap.size + 1)).new #[.int .i64 0, .slice none 0 0] _ (g := w.heap.size + 2)
    clear hx_
    have c0_0 := hO1.c 0 0
    have c0_1 := hO1.c 0 1
    have cf0 := hO1.fr 0
    have c1_0 := hO1.c 1 0
    have c1_1 := hO1.c 1 1
    have cf1 := hO1.fr 1
    have c2_0 := hO1.c 2 0
    have c2_1 := hO1.c 2 1
    have cf2 := hO1.fr 2
    have hb1 := hO1.below
    have hl4 := hO1.lt 0
    repeat' ((fail_if_success at_builtin); (first | go_skip | go_guarded | go_step))
    refine (holds_any (k : Int) _).mono ?_
    rintro e2 w2 ⟨rfl, hb2⟩
    dsimp only
    have hO2 : OwnB w w2 [(w.heap.size + 2, [.int .i64 0, .slice none 0 0]), (w.heap.size + 1, [.int .i64 (k : Int), .slice (some ⟨bb, ob, none⟩) 1 c2]), (w.heap.size, [.int .i64 (k : Int), .slice (some ⟨ba, oa, none⟩) 1 c])] := hO1.kept hb2
    clear c0_0 c0_1 cf0 c1_0 c1_1 cf1 c2_0 c2_1 cf2 hO1
    have c0_0 := hO2.c 0 0
    have c0_1 := hO2.c 0 1
    have cf0 := hO2.fr 0
    have c1_0 := hO2.c 1 0
    have c1_1 := hO2.c 1 1
    have cf1 := hO2.fr 1
    have c2_0 := hO2.c 2 0
    have c2_1 := hO2.c 2 1
    have cf2 := hO2.fr 2
    rw [hh.out]
    have hb0 := hO2.below
    replace x0 := (hb0.cell (p := ⟨ba, oa, none⟩) (hSb _ hbSa)).trans x0
    replace x1 := (hb0.cell (p := ⟨ba, oa + 1, none⟩) (hSb _ hbSa)).trans x1
    replace z0 := (hb0.cell (p := ⟨bb, ob, none⟩) (hSb _ hbSb)).trans z0
    replace z1 := (hb0.cell (p := ⟨bb, ob + 1, none⟩) (hSb _ hbSb)).trans z1
    have hSd := Lib.hid (fun b (h : S b) => (show b < w2.drew.heap.size from Nat.lt_of_lt_of_le (hSb b h) hb0.size))
    have hre := Lib.hid ((RV.at_ hre hSb hb0).at_ (fun b h => Nat.lt_of_lt_of_le (hSb b h) hb0.size) ((Below.refl _ w2).drew))
    have hrf := Lib.hid ((RV.at_ hrf hSb hb0).at_ (fun b h => Nat.lt_of_lt_of_le (hSb b h) hb0.size) ((Below.refl _ w2).drew))
    have la : ba < w.heap.size + 2 := by have := hSb _ hbSa; omega
    have lb : bb < w.heap.size + 2 := by have := hSb _ hbSb; omega
    have l2 : w.heap.size < w.heap.size + 2 := by omega
    have l1 : w.heap.size + 1 < w.heap.size + 2 := by omega
    have l4 := hO2.lt 0
    replace hbSa := Lib.hid hbSa
    replace hbSb := Lib.hid hbSb
    have hS : ∀ w', Below (w.heap.size + 2) w2 w' → (Below (w.heap.size + 2) w2 w' ∧ w'.cell? ⟨w.heap.size, 0, none⟩ = some (.int .i64 (k : Int)) ∧ w'.cell? ⟨w.heap.size, 1, none⟩ = some (.slice (some ⟨ba, oa, none⟩) 1 c) ∧ w'.cell? ⟨w.heap.size + 1, 0, none⟩ = some (.int .i64 (k : Int)) ∧ w'.cell? ⟨w.heap.size + 1, 1, none⟩ = some (.slice (some ⟨bb, ob, none⟩) 1 c2) ∧ w'.cell? ⟨ba, oa, none⟩ = some (.int .i64 (e.kind : Int)) ∧ w'.cell? ⟨ba, oa + 1, none⟩ = some (.slice A1 n1 c1) ∧ w'.cell? ⟨bb, ob, none⟩ = some (.int .i64 (f.kind : Int)) ∧ w'.cell? ⟨bb, ob + 1, none⟩ = some (.slice A3 n3 c3)) := fun w' h => ⟨h, (h.cell (p := ⟨w.heap.size, 0, none⟩) l2).trans c2_0, (h.cell (p := ⟨w.heap.size, 1, none⟩) l2).trans c2_1, (h.cell (p := ⟨w.heap.size + 1, 0, none⟩) l1).trans c1_0, (h.cell (p := ⟨w.heap.size + 1, 1, none⟩) l1).trans c1_1, (h.cell (p := ⟨ba, oa, none⟩) la).trans x0, (h.cell (p := ⟨ba, oa + 1, none⟩) la).trans x1, (h.cell (p := ⟨bb, ob, none⟩) lb).trans z0, (h.cell (p := ⟨bb, ob + 1, none⟩) lb).trans z1⟩
    have keepS : ∀ w' w'', (Below (w.heap.size + 2) w2 w' ∧ w'.cell? ⟨w.heap.size, 0, none⟩ = some (.int .i64 (k : Int)) ∧ w'.cell? ⟨w.heap.size, 1, none⟩ = some (.slice (some ⟨ba, oa, none⟩) 1 c) ∧ w'.cell? ⟨w.heap.size + 1, 0, none⟩ = some (.int .i64 (k : Int)) ∧ w'.cell? ⟨w.heap.size + 1, 1, none⟩ = some (.slice (some ⟨bb, ob, none⟩) 1 c2) ∧ w'.cell? ⟨ba, oa, none⟩ = some (.int .i64 (e.kind : Int)) ∧ w'.cell? ⟨ba, oa + 1, none⟩ = some (.slice A1 n1 c1) ∧ w'.cell? ⟨bb, ob, none⟩ = some (.int .i64 (f.kind : Int)) ∧ w'.cell? ⟨bb, ob + 1, none⟩ = some (.slice A3 n3 c3)) → Below w'.heap.size w' w'' → (Below (w.heap.size + 2) w2 w'' ∧ w''.cell? ⟨w.heap.size, 0, none⟩ = some (.int .i64 (k : Int)) ∧ w''.cell? ⟨w.heap.size, 1, none⟩ = some (.slice (some ⟨ba, oa, none⟩) 1 c) ∧ w''.cell? ⟨w.heap.size + 1, 0, none⟩ = some (.int .i64 (k : Int)) ∧ w''.cell? ⟨w.heap.size + 1, 1, none⟩ = some (.slice (some ⟨bb, ob, none⟩) 1 c2) ∧ w''.cell? ⟨ba, oa, none⟩ = some (.int .i64 (e.kind : Int)) ∧ w''.cell? ⟨ba, oa + 1, none⟩ = some (.slice A1 n1 c1) ∧ w''.cell? ⟨bb, ob, none⟩ = some (.int .i64 (f.kind : Int)) ∧ w''.cell? ⟨bb, ob + 1, none⟩ = some (.slice A3 n3 c3)) := fun w' w'' h hq => hS _ (h.1.trans (hq.mono (by have := h.1.size; omega)))
    have keepW : ∀ w', (Below (w.heap.size + 2) w2 w' ∧ w'.cell? ⟨w.heap.size, 0, none⟩ = some (.int .i64 (k : Int)) ∧ w'.cell? ⟨w.heap.size, 1, none⟩ = some (.slice (some ⟨ba, oa, none⟩) 1 c) ∧ w'.cell? ⟨w.heap.size + 1, 0, none⟩ = some (.int .i64 (k : Int)) ∧ w'.cell? ⟨w.heap.size + 1, 1, none⟩ = some (.slice (some ⟨bb, ob, none⟩) 1 c2) ∧ w'.cell? ⟨ba, oa, none⟩ = some (.int .i64 (e.kind : Int)) ∧ w'.cell? ⟨ba, oa + 1, none⟩ = some (.slice A1 n1 c1) ∧ w'.cell? ⟨bb, ob, none⟩ = some (.int .i64 (f.kind : Int)) ∧ w'.cell? ⟨bb, ob + 1, none⟩ = some (.slice A3 n3 c3)) → ∀ u v, (Below (w.heap.size + 2) w2 ((w'.setCell ⟨w.heap.size + 2, 0, none⟩ u).setCell ⟨w.heap.size + 2, 1, none⟩ v) ∧ ((w'.setCell ⟨w.heap.size + 2, 0, none⟩ u).setCell ⟨w.heap.size + 2, 1, none⟩ v).cell? ⟨w.heap.size, 0, none⟩ = some (.int .i64 (k : Int)) ∧ ((w'.setCell ⟨w.heap.size + 2, 0, none⟩ u).setCell ⟨w.heap.size + 2, 1, none⟩ v).cell? ⟨w.heap.size, 1, none⟩ = some (.slice (some ⟨ba, oa, none⟩) 1 c) ∧ ((w'.setCell ⟨w.heap.size + 2, 0, none⟩ u).setCell ⟨w.heap.size + 2, 1, none⟩ v).cell? ⟨w.heap.size + 1, 0, none⟩ = some (.int .i64 (k : Int)) ∧ ((w'.setCell ⟨w.heap.size + 2, 0, none⟩ u).setCell ⟨w.heap.size + 2, 1, none⟩ v).cell? ⟨w.heap.size + 1, 1, none⟩ = some (.slice (some ⟨bb, ob, none⟩) 1 c2) ∧ ((w'.setCell ⟨w.heap.size + 2, 0, none⟩ u).setCell ⟨w.heap.size + 2, 1, none⟩ v).cell? ⟨ba, oa, none⟩ = some (.int .i64 (e.kind : Int)) ∧ ((w'.setCell ⟨w.heap.size + 2, 0, none⟩ u).setCell ⟨w.heap.size + 2, 1, none⟩ v).cell? ⟨ba, oa + 1, none⟩ = some (.slice A1 n1 c1) ∧ ((w'.setCell ⟨w.heap.size + 2, 0, none⟩ u).setCell ⟨w.heap.size + 2, 1, none⟩ v).cell? ⟨bb, ob, none⟩ = some (.int .i64 (f.kind : Int)) ∧ ((w'.setCell ⟨w.heap.size + 2, 0, none⟩ u).setCell ⟨w.heap.size + 2, 1, none⟩ v).cell? ⟨bb, ob + 1, none⟩ = some (.slice A3 n3 c3)) := fun w' h u v => hS _ ((h.1.setCell (p := ⟨w.heap.size + 2, 0, none⟩) (Nat.le_refl _) u).setCell (p := ⟨w.heap.size + 2, 1, none⟩) (Nat.le_refl _) v)
    have hS1 := hS w2.drew (Below.refl _ _).drew
    replace keepS := Lib.hid keepS
    replace keepW := Lib.hid keepW
    clear hS x0 x1 z0 z1
    repeat' ((fail_if_success at_builtin); (first | go_skip | go_guarded | go_step))
    refine wp_region_held_drew (S := fun w' => Below (w.heap.size + 2) w2 w' ∧ w'.cell? ⟨w.heap.size, 0, none⟩ = some (.int .i64 (k : Int)) ∧ w'.cell? ⟨w.heap.size, 1, none⟩ = some (.slice (some ⟨ba, oa, none⟩) 1 c) ∧ w'.cell? ⟨w.heap.size + 1, 0, none⟩ = some (.int .i64 (k : Int)) ∧ w'.cell? ⟨w.heap.size + 1, 1, none⟩ = some (.slice (some ⟨bb, ob, none⟩) 1 c2) ∧ w'.cell? ⟨ba, oa, none⟩ = some (.int .i64 (e.kind : Int)) ∧ w'.cell? ⟨ba, oa + 1, none⟩ = some (.slice A1 n1 c1) ∧ w'.cell? ⟨bb, ob, none⟩ = some (.int .i64 (f.kind : Int)) ∧ w'.cell? ⟨bb, ob + 1, none⟩ = some (.slice A3 n3 c3)) (by kernel_rfl) ?_ (fun hHeld => ?_)
    ·
     (try dsimp only)
     exact hS1
    refine tkY 0 (v := ?v37) rfl (.inl ⟨by rfl, ?hy37⟩) ?hr37
    case hy37 => (intro w hSw; (try dsimp only at hSw); go_simp; try with_reducible rfl)
    simp only [Act.put, List.getElem_toArray, List.getElem_cons_zero, List.setIfInBounds_toArray, List.set_cons_zero, List.set_cons_succ]
    refine tkY 1 (v := ?v38) rfl (.inl ⟨by rfl, ?hy38⟩) ?hr38
    case hy38 => (intro w hSw; (try dsimp only at hSw); go_simp; try with_reducible rfl)
    simp only [Act.put, List.getElem_toArray, List.getElem_cons_zero, List.getElem_cons_succ, List.setIfInBounds_toArray, List.set_cons_zero, List.set_cons_succ]
    refine tkY 2 (v := ?v39) rfl (.inl ⟨by rfl, ?hy39⟩) ?hr39
    case hy39 => (intro w hSw; (try dsimp only at hSw); go_simp; try with_reducible rfl)
    simp only [Act.put, List.getElem_toArray, List.getElem_cons_zero, List.getElem_cons_succ, List.setIfInBounds_toArray, List.set_cons_zero, List.set_cons_succ]
    refine tkY 3 (v := ?v40) rfl (.inl ⟨by rfl, ?hy40⟩) ?hr40
    case hy40 => (intro w hSw; (try dsimp only at hSw); go_simp; try with_reducible rfl)
    simp only [Act.put, List.getElem_toArray, List.getElem_cons_zero, List.getElem_cons_succ, List.setIfInBounds_toArray, List.set_cons_zero, List.set_cons_succ]
    refine tkY 4 (v := ?v41) rfl (.inl ⟨by rfl, ?hy41⟩) ?hr41
    case hy41 => (intro w hSw; (try dsimp only at hSw); go_simp; try with_reducible rfl)
    simp only [Act.put, List.getElem_toArray, List.getElem_cons_zero, List.getElem_cons_succ, List.setIfInBounds_toArray, List.set_cons_zero, List.set_cons_succ]
    refine tkY 5 (v := ?v42) rfl (.inl ⟨by rfl, ?hy42⟩) ?hr42
    case hy42 => (intro w hSw; (try dsimp only at hSw); go_simp; try with_reducible rfl)
    simp only [Act.put, List.getElem_toArray, List.getElem_cons_zero, List.getElem_cons_succ, List.setIfInBounds_toArray, List.set_cons_zero, List.set_cons_succ]
    refine tkY 6 (v := ?v43) rfl (.inl ⟨by rfl, ?hy43⟩) ?hr43
    case hy43 => (intro w hSw; (try dsimp only at hSw); go_simp; try with_reducible rfl)
    simp only [Act.put, List.getElem_toArray, List.getElem_cons_zero, List.getElem_cons_succ, List.setIfInBounds_toArray, List.set_cons_zero, List.set_cons_succ]
    refine tkY 7 (v := ?v44) rfl (.inl ⟨by rfl, ?hy44⟩) ?hr44
    case hy44 => (intro w hSw; (try dsimp only at hSw); go_simp; try with_reducible rfl)
    simp only [Act.put, List.getElem_toArray, List.getElem_cons_zero, List.getElem_cons_succ, List.setIfInBounds_toArray, List.set_cons_zero, List.set_cons_succ]
    refine tkY 8 (v := ?v45) rfl (.inl ⟨by rfl, ?hy45⟩) ?hr45
    case hy45 => (intro w hSw; (try dsimp only at hSw); go_simp; try with_reducible rfl)
    simp only [Act.put, List.getElem_toArray, List.getElem_cons_zero, List.getElem_cons_succ, List.setIfInBounds_toArray, List.set_cons_zero, List.set_cons_succ]
    refine tkY 9 (v := ?v46) rfl (.inl ⟨by rfl, ?hy46⟩) ?hr46
    case hy46 => (intro w hSw; (try dsimp only at hSw); go_simp; try with_reducible rfl)
    simp only [Act.put, List.getElem_toArray, List.getElem_cons_zero, List.getElem_cons_succ, List.setIfInBounds_toArray, List.set_cons_zero, List.set_cons_succ]
    refine wpAnyH_ready (rs := [10]) (by kernel_rfl) (by simp) ?_
    refine AllReadyH.cons rfl (fun K hK => ?_) AllReadyH.nil
    go_simp
    go_at_call 46
    refine (ih.out f _ A1 n1 c1 _ A3 n3 c3 _ S hoa2 hob2 hSd.out hre.out hrf.out).mono ?_
    rintro e7 w7 ⟨A7, n7, c7, rfl, hr7, hbq⟩
    dsimp only
    have hbA : Below w2.heap.size w2 w7 := (Below.refl _ w2).drew.trans (hbq.mono (Nat.le_refl _))
    refine hK.out _ _ ?_ (fun hHeld => ?_)
    ·
     (try dsimp only)
     first | exact keepS.out _ _ hHeld hbq | exact hst
    clear hK K
    try simp only [Act.put, List.getElem_toArray, List.getElem_cons_zero, List.getElem_cons_succ, List.setIfInBounds_toArray, List.set_cons_zero, List.set_cons_succ]
    refine wpAnyH_ready (rs := [11]) (by kernel_rfl) (by simp) ?_
    refine AllReadyH.cons rfl (fun K hK => ?_) AllReadyH.nil
    go_simp
    go_at_call 33
    refine (with_any (k : Int) ((VT.meet e f).kind : Int) A7 n7 c7 _).mono ?_
    rintro e8 w8 ⟨g8, rfl, hg8, hC8, hbq⟩
    dsimp only
    have hb78 := hbq
    have hbB : Below w2.heap.size w2 w8 := hbA.trans (hbq.mono hbA.size)
    refine hK.out _ _ ?_ (fun hHeld => ?_)
    ·
     (try dsimp only)
     first | exact keepS.out _ _ hHeld hbq | exact hst
    clear hK K
    try simp only [Act.put, List.getElem_toArray, List.getElem_cons_zero, List.getElem_cons_succ, List.setIfInBounds_toArray, List.set_cons_zero, List.set_cons_succ]
    refine wpAnyH_ready (rs := [12]) (by kernel_rfl) (by simp) ?_
    refine AllReadyH.cons rfl (fun K hK => ?_) AllReadyH.nil
    go_simp
    have hO8 := hO2.kept hbB
    have q0 := hO8.c 0 0
    have q1 := hO8.c 0 1
    have qf := hO8.fr 0
    go_simp
    have hst := keepW.out _ hHeld (.int .i64 (k : Int)) (.slice (some ⟨g8, 0, none⟩) 1 1)
    refine hK.out _ _ ?_ (fun hHeld => ?_)
    ·
     (try dsimp only)
     first | exact keepS.out _ _ hHeld hbq | exact hst
    clear hK K
    try simp only [Act.put, List.getElem_toArray, List.getElem_cons_zero, List.getElem_cons_succ, List.setIfInBounds_toArray, List.set_cons_zero, List.set_cons_succ]
    refine wpAnyH_done (by kernel_rfl) ?_ _
    have hO9 := ((hO8.store 0 rfl 0 (.int .i64 (k : Int))).store 0 rfl 1 (.slice (some ⟨g8, 0, none⟩) 1 1))
    have hC9 := cells_back (b4 := w.heap.size + 2) (.int .i64 (k : Int)) (.slice (some ⟨g8, 0, none⟩) 1 1) hC8 (by have := hbA.size; omega)
    have hr9 := RV.back (s0 := w.heap.size) (b4 := w.heap.size + 2) (.int .i64 (k : Int)) (.slice (some ⟨g8, 0, none⟩) 1 1) hr7 hb78 hSb (by omega) l4 hbA.size
    have hl9 := hC8.lt
    have hg9 : w.heap.size ≤ g8 := by have := hbA.size; omega
    clear hHeld keepS keepW hst q0 q1 qf hS1
    generalize hx_ : World.setCell (World.setCell w8 _ _) _ _ = w9 at hO9 hC9 hr9 ⊢
    have hs9 : w8.heap.size ≤ w9.heap.size := by rw [← hx_]; simp [World.setCell]
    clear hx_
    have r0 := hO9.c 0 0
    have r1 := hO9.c 0 1
    have hb := hO9.below
    repeat' ((fail_if_success at_builtin); (first | go_skip | go_guarded | go_step))
    refine bodyPost_ret (v := .agg #[.int .i64 (k : Int), .slice (some ⟨g8, 0, none⟩) 1 1]) (by simp only [results, Tryd.results46]; go_simp; first | done | exact ⟨rfl, rfl, rfl⟩ | rfl) rfl ?_
    exact ⟨some ⟨g8, 0, none⟩, 1, 1, rfl, rv_mk hC9 (.inr ⟨hg9, by omega⟩) (hr9.imp (fun b h => h.imp id (fun h => ⟨h.1, by omega⟩))), hb⟩
   ·
    have hv : VT.meet (VT.of k e) (VT.of j f) = VT.base 7 := by rw [VT.meet_of, if_neg hkj]
    rw [hv]
    obtain ⟨rfl, rfl, _⟩ := rv_of ha
    obtain ⟨rfl, rfl, _⟩ := rv_of hb0
    clear hv ha hb0 ih
    have gA : ((k : Int) == 0) = false := by simp; omega
    have gB : ((j : Int) == 0) = false := by simp; omega
    have gN : ((k : Int) != (j : Int)) = true := by simp; omega
    go_enter Tryd.func46, Tryd.ntmps46
    go_upto_region 1 with (fail)
    generalize hx_ : World.alloc (World.alloc (World.alloc w _) _) _ = wo1
    have hO1 : OwnB w wo1 [(w.heap.size + 2, [.int .i64 0, .slice none 0 0]), (w.heap.size + 1, [.int .i64 (j : Int), .slice A2 1 c2]), (w.heap.size, [.int .i64 (k : Int), .slice A 1 c])] := by rw [← hx_]; exact (((OwnB.refl w).new #[.int .i64 (k : Int), .slice A 1 c] _ (g := w.heap.size)).new #[.int .i64 (j : Int), .slice A2 1 c2] _ (g := w.heap.size + 1)).new #[.int .i64 0, .slice none 0 0] _ (g := w.heap.size + 2)
    clear hx_
    have c0_0 := hO1.c 0 0
    have c0_1 := hO1.c 0 1
    have cf0 := hO1.fr 0
    have c1_0 := hO1.c 1 0
    have c1_1 := hO1.c 1 1
    have cf1 := hO1.fr 1
    have c2_0 := hO1.c 2 0
    have c2_1 := hO1.c 2 1
    have cf2 := hO1.fr 2
    have hb1 := hO1.below
    have hl4 := hO1.lt 0
    repeat' ((fail_if_success at_builtin); (first | go_skip | go_guarded | go_step))
    refine (plainT_any (7 : Int) _).mono ?_
    rintro e9 w9 ⟨rfl, hb9⟩
    dsimp only
    have hO2 : OwnB w w9 [(w.heap.size + 2, [.int .i64 0, .slice none 0 0]), (w.heap.size + 1, [.int .i64 (j : Int), .slice A2 1 c2]), (w.heap.size, [.int .i64 (k : Int), .slice A 1 c])] := hO1.kept hb9
    clear c0_0 c0_1 cf0 c1_0 c1_1 cf1 c2_0 c2_1 cf2 hO1
    have c0_0 := hO2.c 0 0
    have c0_1 := hO2.c 0 1
    have cf0 := hO2.fr 0
    have c1_0 := hO2.c 1 0
    have c1_1 := hO2.c 1 1
    have cf1 := hO2.fr 1
    have c2_0 := hO2.c 2 0
    have c2_1 := hO2.c 2 1
    have cf2 := hO2.fr 2
    repeat' ((fail_if_success at_builtin); (first | go_skip | go_guarded | go_step))
    generalize hx_ : World.setCell (World.setCell _ _ _) _ _ = wo3
    have hO3 : OwnB w wo3 [(w.heap.size + 2, [.int .i64 (7 : Int), .slice none 0 0]), (w.heap.size + 1, [.int .i64 (j : Int), .slice A2 1 c2]), (w.heap.size, [.int .i64 (k : Int), .slice A 1 c])] := by rw [← hx_]; exact (hO2.store 0 rfl 0 _).store 0 rfl 1 _
    clear hx_ c0_0 c0_1 cf0 c1_0 c1_1 cf1 c2_0 c2_1 cf2 hO2
    have c0_0 := hO3.c 0 0
    have c0_1 := hO3.c 0 1
    have cf0 := hO3.fr 0
    have c1_0 := hO3.c 1 0
    have c1_1 := hO3.c 1 1
    have cf1 := hO3.fr 1
    have c2_0 := hO3.c 2 0
    have c2_1 := hO3.c 2 1
    have cf2 := hO3.fr 2
    have hb := hO3.below
    refine bodyPost_ret (v := .agg #[.int .i64 (7 : Int), .slice none 0 0]) (by simp only [results, Tryd.results46]; go_simp; first | done | exact ⟨rfl, rfl, rfl⟩ | rfl) rfl ?_
    exact ⟨none, 0, 0, rfl, rv_scalar _ _ 7, hb⟩
end Go.Proofs.YtgcpffbaejodiaaDoor
