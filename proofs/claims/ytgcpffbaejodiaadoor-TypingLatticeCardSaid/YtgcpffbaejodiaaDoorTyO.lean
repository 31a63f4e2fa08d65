/- Typing: Join, Meet. -/
import Derived.Test.YtgcpffbaejodiaaDoorTyBoth
import Derived.Test.YtgcpffbaejodiaaDoorTyE
import Derived.Test.YtgcpffbaejodiaaDoorTyF
import Derived.Test.YtgcpffbaejodiaaDoorTyG
import Derived.Test.YtgcpffbaejodiaaDoorTyH
namespace Go.Proofs.YtgcpffbaejodiaaDoor
open Go.RowKit
theorem retT_eq {w w' : World} {S : Nat → Prop} {v v' : VT} {e : Ending} (h : v = v') (k : RetT w S v' e w') : RetT w S v e w' := h ▸ k
set_option maxRecDepth 100000 in
set_option maxHeartbeats 2000000 in
theorem tjoin_any (ga gb : Nat) (t u : Ty) (xa : Int) (A : Option Addr) (n c : Nat) (xb : Int) (A2 : Option Addr) (n2 c2 : Nat) (w : World) (ha : RTf ga w (fun b => b < w.heap.size) t [.int .i64 xa, .slice A n c]) (hb0 : RTf gb w (fun b => b < w.heap.size) u [.int .i64 xb, .slice A2 n2 c2]) :
  Calls Tryd.prog 21 #[.agg #[.int .i64 xa, .slice A n c], .agg #[.int .i64 xb, .slice A2 n2 c2]] w fun e w' => RetT w (fun b => b < w.heap.size) (boundS VT.join 0 t u) e w' := by
 go_enter Tryd.func21, Tryd.ntmps21
 go_upto_region 1 with (fail)
 generalize hx_ : World.alloc (World.alloc (World.alloc w _) _) _ = wo1
 have hO1 : OwnB w wo1 [(w.heap.size + 2, [.int .i64 0, .slice none 0 0]), (w.heap.size + 1, [.int .i64 xb, .slice A2 n2 c2]), (w.heap.size, [.int .i64 xa, .slice A n c])] := by rw [← hx_]; exact (((OwnB.refl w).new #[.int .i64 xa, .slice A n c] _ (g := w.heap.size)).new #[.int .i64 xb, .slice A2 n2 c2] _ (g := w.heap.size + 1)).new #[.int .i64 0, .slice none 0 0] _ (g := w.heap.size + 2)
 clear hx_
 have c0_0 := hO1.c 0 0
 have c0_1 := hO1.c 0 1
 have cf0 := hO1.fr 0
 have c1_0 := hO1.c 1 0
 have c1_1 := hO1.c 1 1
 have cf1 := hO1.fr 1
 have c2_0 := hO1.c 2 0
 have c2_1 := hO1.c 2 1
 have cf2 := hO1.fr 2
 have hb1 := hO1.below
 have h1 := Lib.hid (RTf.at_ ha hb1)
 have h2 := Lib.hid (RTf.at_ hb0 hb1)
 repeat' ((fail_if_success at_builtin); (first | go_skip | go_guarded | go_step))
 refine (both_any ga gb t u xa A n c xb A2 n2 c2 _ h1.out h2.out).mono ?_
 rintro e w2 ⟨rfl, hb2⟩
 dsimp only
 have hO2 : OwnB w w2 [(w.heap.size + 2, [.int .i64 0, .slice none 0 0]), (w.heap.size + 1, [.int .i64 xb, .slice A2 n2 c2]), (w.heap.size, [.int .i64 xa, .slice A n c])] := hO1.kept hb2
 clear c0_0 c0_1 cf0 c1_0 c1_1 cf1 c2_0 c2_1 cf2 hO1
 have c0_0 := hO2.c 0 0
 have c0_1 := hO2.c 0 1
 have cf0 := hO2.fr 0
 have c1_0 := hO2.c 1 0
 have c1_1 := hO2.c 1 1
 have cf1 := hO2.fr 1
 have c2_0 := hO2.c 2 0
 have c2_1 := hO2.c 2 1
 have cf2 := hO2.fr 2
 have hb3 := hO2.below
 have hl4 := hO2.lt 0
 cases hbo : bothT t u with
 | false =>
  have hv : boundS VT.join 0 t u = VT.base 0 := bound_not hbo
  replace hv := Lib.hid hv
  clear hbo
  repeat' ((fail_if_success at_builtin); (first | go_skip | go_guarded | go_step))
  refine (scalar_any (0 : Int) _).mono ?_
  rintro e9 w9 ⟨rfl, hb9⟩
  dsimp only
  have hO3 : OwnB w w9 [(w.heap.size + 2, [.int .i64 0, .slice none 0 0]), (w.heap.size + 1, [.int .i64 xb, .slice A2 n2 c2]), (w.heap.size, [.int .i64 xa, .slice A n c])] := hO2.kept hb9
  clear c0_0 c0_1 cf0 c1_0 c1_1 cf1 c2_0 c2_1 cf2 hO2
  have c0_0 := hO3.c 0 0
  have c0_1 := hO3.c 0 1
  have cf0 := hO3.fr 0
  have c1_0 := hO3.c 1 0
  have c1_1 := hO3.c 1 1
  have cf1 := hO3.fr 1
  have c2_0 := hO3.c 2 0
  have c2_1 := hO3.c 2 1
  have cf2 := hO3.fr 2
  repeat' ((fail_if_success at_builtin); (first | go_skip | go_guarded | go_step))
  generalize hx_ : World.setCell (World.setCell _ _ _) _ _ = wo4
  have hO4 : OwnB w wo4 [(w.heap.size + 2, [.int .i64 0, .slice none 0 0]), (w.heap.size + 1, [.int .i64 xb, .slice A2 n2 c2]), (w.heap.size, [.int .i64 xa, .slice A n c])] := by rw [← hx_]; exact (hO3.store 0 rfl 0 _).store 0 rfl 1 _
  clear hx_ c0_0 c0_1 cf0 c1_0 c1_1 cf1 c2_0 c2_1 cf2 hO3
  have c0_0 := hO4.c 0 0
  have c0_1 := hO4.c 0 1
  have cf0 := hO4.fr 0
  have c1_0 := hO4.c 1 0
  have c1_1 := hO4.c 1 1
  have cf1 := hO4.fr 1
  have c2_0 := hO4.c 2 0
  have c2_1 := hO4.c 2 1
  have cf2 := hO4.fr 2
  have hb := hO4.below
  refine bodyPost_ret (v := .agg #[.int .i64 0, .slice none 0 0]) (by simp only [results, Tryd.results21]; go_simp; first | done | exact ⟨rfl, rfl, rfl⟩ | rfl) rfl ?_
  exact retT_eq hv.out ⟨none, 0, 0, rfl, rv_scalar _ _ 0, hb⟩
 | true =>
  obtain ⟨a, b, e1, e2⟩ := both_parts hbo
  have hv : boundS VT.join 0 t u = VT.join a b := by unfold boundS; rw [e1, e2]
  replace hv := Lib.hid hv
  obtain ⟨_, a1, _, rfl⟩ := okV_some e1
  obtain ⟨_, b1, _, rfl⟩ := okV_some e2
  have hSb : ∀ b, b < w.heap.size → b < w.heap.size := fun _ h => h
  have hSd := Lib.hid (fun b (h : b < w.heap.size) => (show b < w2.heap.size from Nat.lt_of_lt_of_le h hb3.size))
  have r1 := Lib.hid (RV.at_ ha.valid hSb hb3)
  have r2 := Lib.hid (RV.at_ hb0.valid hSb hb3)
  clear hbo e1 e2
  repeat' ((fail_if_success at_builtin); (first | go_skip | go_guarded | go_step))
  refine (join_any a b xa A n c xb A2 n2 c2 _ (fun b => b < w.heap.size) a1 b1 hSd.out r1.out r2.out).mono ?_
  rintro e9 w9 ⟨A9, n9, c9, rfl, hr9, hb9⟩
  dsimp only
  have hO3 : OwnB w w9 [(w.heap.size + 2, [.int .i64 0, .slice none 0 0]), (w.heap.size + 1, [.int .i64 xb, .slice A2 n2 c2]), (w.heap.size, [.int .i64 xa, .slice A n c])] := hO2.kept hb9
  clear c0_0 c0_1 cf0 c1_0 c1_1 cf1 c2_0 c2_1 cf2 hO2
  have c0_0 := hO3.c 0 0
  have c0_1 := hO3.c 0 1
  have cf0 := hO3.fr 0
  have c1_0 := hO3.c 1 0
  have c1_1 := hO3.c 1 1
  have cf1 := hO3.fr 1
  have c2_0 := hO3.c 2 0
  have c2_1 := hO3.c 2 1
  have cf2 := hO3.fr 2
  repeat' ((fail_if_success at_builtin); (first | go_skip | go_guarded | go_step))
  have hr8 := RV.back (s0 := w.heap.size) (b4 := w.heap.size + 2) (.int .i64 ((VT.join a b).kind : Int)) (.slice A9 n9 c9) hr9 (Below.refl _ w9) hSb (by omega) hl4 hb9.size
  generalize hx_ : World.setCell (World.setCell w9 _ _) _ _ = w8 at hr8 ⊢
  have hO8 : OwnB w w8 [(w.heap.size + 2, [.int .i64 ((VT.join a b).kind : Int), .slice A9 n9 c9]), (w.heap.size + 1, [.int .i64 xb, .slice A2 n2 c2]), (w.heap.size, [.int .i64 xa, .slice A n c])] := by rw [← hx_]; exact (hO3.store 0 rfl 0 _).store 0 rfl 1 _
  have hs9 : w9.heap.size ≤ w8.heap.size := by rw [← hx_]; simp [World.setCell]
  clear hx_ c0_0 c0_1 cf0 c1_0 c1_1 cf1 c2_0 c2_1 cf2 hO3
  have r0 := hO8.c 0 0
  have r1 := hO8.c 0 1
  have hb := hO8.below
  refine bodyPost_ret (v := .agg #[.int .i64 ((VT.join a b).kind : Int), .slice A9 n9 c9]) (by simp only [results, Tryd.results21]; go_simp; first | done | exact ⟨rfl, rfl, rfl⟩ | rfl) rfl ?_
  exact retT_eq hv.out ⟨A9, n9, c9, rfl, hr8.imp (fun b h => h.imp id (fun h => ⟨h.1, by omega⟩)), hb⟩
set_option maxRecDepth 100000 in
set_option maxHeartbeats 2000000 in
theorem tmeet_any (ga gb : Nat) (t u : Ty) (xa : Int) (A : Option Addr) (n c : Nat) (xb : Int) (A2 : Option Addr) (n2 c2 : Nat) (w : World) (ha : RTf ga w (fun b => b < w.heap.size) t [.int .i64 xa, .slice A n c]) (hb0 : RTf gb w (fun b => b < w.heap.size) u [.int .i64 xb, .slice A2 n2 c2]) :
  Calls Tryd.prog 23 #[.agg #[.int .i64 xa, .slice A n c], .agg #[.int .i64 xb, .slice A2 n2 c2]] w fun e w' => RetT w (fun b => b < w.heap.size) (boundS VT.meet 7 t u) e w' := by
 go_enter Tryd.func23, Tryd.ntmps23
 go_upto_region 1 with (fail)
 generalize hx_ : World.alloc (World.alloc (World.alloc w _) _) _ = wo1
 have hO1 : OwnB w wo1 [(w.heap.size + 2, [.int .i64 0, .slice none 0 0]), (w.heap.size + 1, [.int .i64 xb, .slice A2 n2 c2]), (w.heap.size, [.int .i64 xa, .slice A n c])] := by rw [← hx_]; exact (((OwnB.refl w).new #[.int .i64 xa, .slice A n c] _ (g := w.heap.size)).new #[.int .i64 xb, .slice A2 n2 c2] _ (g := w.heap.size + 1)).new #[.int .i64 0, .slice none 0 0] _ (g := w.heap.size + 2)
 clear hx_
 have c0_0 := hO1.c 0 0
 have c0_1 := hO1.c 0 1
 have cf0 := hO1.fr 0
 have c1_0 := hO1.c 1 0
 have c1_1 := hO1.c 1 1
 have cf1 := hO1.fr 1
 have c2_0 := hO1.c 2 0
 have c2_1 := hO1.c 2 1
 have cf2 := hO1.fr 2
 have hb1 := hO1.below
 have h1 := Lib.hid (RTf.at_ ha hb1)
 have h2 := Lib.hid (RTf.at_ hb0 hb1)
 repeat' ((fail_if_success at_builtin); (first | go_skip | go_guarded | go_step))
 refine (both_any ga gb t u xa A n c xb A2 n2 c2 _ h1.out h2.out).mono ?_
 rintro e w2 ⟨rfl, hb2⟩
 dsimp only
 have hO2 : OwnB w w2 [(w.heap.size + 2, [.int .i64 0, .slice none 0 0]), (w.heap.size + 1, [.int .i64 xb, .slice A2 n2 c2]), (w.heap.size, [.int .i64 xa, .slice A n c])] := hO1.kept hb2
 clear c0_0 c0_1 cf0 c1_0 c1_1 cf1 c2_0 c2_1 cf2 hO1
 have c0_0 := hO2.c 0 0
 have c0_1 := hO2.c 0 1
 have cf0 := hO2.fr 0
 have c1_0 := hO2.c 1 0
 have c1_1 := hO2.c 1 1
 have cf1 := hO2.fr 1
 have c2_0 := hO2.c 2 0
 have c2_1 := hO2.c 2 1
 have cf2 := hO2.fr 2
 have hb3 := hO2.below
 have hl4 := hO2.lt 0
 cases hbo : bothT t u with
 | false =>
  have hv : boundS VT.meet 7 t u = VT.base 7 := bound_not hbo
  replace hv := Lib.hid hv
  clear hbo
  repeat' ((fail_if_success at_builtin); (first | go_skip | go_guarded | go_step))
  refine (scalar_any (7 : Int) _).mono ?_
  rintro e9 w9 ⟨rfl, hb9⟩
  dsimp only
  have hO3 : OwnB w w9 [(w.heap.size + 2, [.int .i64 0, .slice none 0 0]), (w.heap.size + 1, [.int .i64 xb, .slice A2 n2 c2]), (w.heap.size, [.int .i64 xa, .slice A n c])] := hO2.kept hb9
  clear c0_0 c0_1 cf0 c1_0 c1_1 cf1 c2_0 c2_1 cf2 hO2
  have c0_0 := hO3.c 0 0
  have c0_1 := hO3.c 0 1
  have cf0 := hO3.fr 0
  have c1_0 := hO3.c 1 0
  have c1_1 := hO3.c 1 1
  have cf1 := hO3.fr 1
  have c2_0 := hO3.c 2 0
  have c2_1 := hO3.c 2 1
  have cf2 := hO3.fr 2
  repeat' ((fail_if_success at_builtin); (first | go_skip | go_guarded | go_step))
  generalize hx_ : World.setCell (World.setCell _ _ _) _ _ = wo4
  have hO4 : OwnB w wo4 [(w.heap.size + 2, [.int .i64 7, .slice none 0 0]), (w.heap.size + 1, [.int .i64 xb, .slice A2 n2 c2]), (w.heap.size, [.int .i64 xa, .slice A n c])] := by rw [← hx_]; exact (hO3.store 0 rfl 0 _).store 0 rfl 1 _
  clear hx_ c0_0 c0_1 cf0 c1_0 c1_1 cf1 c2_0 c2_1 cf2 hO3
  have c0_0 := hO4.c 0 0
  have c0_1 := hO4.c 0 1
  have cf0 := hO4.fr 0
  have c1_0 := hO4.c 1 0
  have c1_1 := hO4.c 1 1
  have cf1 := hO4.fr 1
  have c2_0 := hO4.c 2 0
  have c2_1 := hO4.c 2 1
  have cf2 := hO4.fr 2
  have hb := hO4.below
  refine bodyPost_ret (v := .agg #[.int .i64 7, .slice none 0 0]) (by simp only [results, Tryd.results23]; go_simp; first | done | exact ⟨rfl, rfl, rfl⟩ | rfl) rfl ?_
  exact retT_eq hv.out ⟨none, 0, 0, rfl, rv_scalar _ _ 7, hb⟩
 | true =>
  obtain ⟨a, b, e1, e2⟩ := both_parts hbo
  have hv : boundS VT.meet 7 t u = VT.meet a b := by unfold boundS; rw [e1, e2]
  replace hv := Lib.hid hv
  obtain ⟨_, a1, _, rfl⟩ := okV_some e1
  obtain ⟨_, b1, _, rfl⟩ := okV_some e2
  have hSb : ∀ b, b < w.heap.size → b < w.heap.size := fun _ h => h
  have hSd := Lib.hid (fun b (h : b < w.heap.size) => (show b < w2.heap.size from Nat.lt_of_lt_of_le h hb3.size))
  have r1 := Lib.hid (RV.at_ ha.valid hSb hb3)
  have r2 := Lib.hid (RV.at_ hb0.valid hSb hb3)
  clear hbo e1 e2
  repeat' ((fail_if_success at_builtin); (first | go_skip | go_guarded | go_step))
  refine (meet_any a b xa A n c xb A2 n2 c2 _ (fun b => b < w.heap.size) a1 b1 hSd.out r1.out r2.out).mono ?_
  rintro e9 w9 ⟨A9, n9, c9, rfl, hr9, hb9⟩
  dsimp only
  have hO3 : OwnB w w9 [(w.heap.size + 2, [.int .i64 0, .slice none 0 0]), (w.heap.size + 1, [.int .i64 xb, .slice A2 n2 c2]), (w.heap.size, [.int .i64 xa, .slice A n c])] := hO2.kept hb9
  clear c0_0 c0_1 cf0 c1_0 c1_1 cf1 c2_0 c2_1 cf2 hO2
  have c0_0 := hO3.c 0 0
  have c0_1 := hO3.c 0 1
  have cf0 := hO3.fr 0
  have c1_0 := hO3.c 1 0
  have c1_1 := hO3.c 1 1
  have cf1 := hO3.fr 1
  have c2_0 := hO3.c 2 0
  have c2_1 := hO3.c 2 1
  have cf2 := hO3.fr 2
  repeat' ((fail_if_success at_builtin); (first | go_skip | go_guarded | go_step))
  have hr8 := RV.back (s0 := w.heap.size) (b4 := w.heap.size + 2) (.int .i64 ((VT.meet a b).kind : Int)) (.slice A9 n9 c9) hr9 (Below.refl _ w9) hSb (by omega) hl4 hb9.size
  generalize hx_ : World.setCell (World.setCell w9 _ _) _ _ = w8 at hr8 ⊢
  have hO8 : OwnB w w8 [(w.heap.size + 2, [.int .i64 ((VT.meet a b).kind : Int), .slice A9 n9 c9]), (w.heap.size + 1, [.int .i64 xb, .slice A2 n2 c2]), (w.heap.size, [.int .i64 xa, .slice A n c])] := by rw [← hx_]; exact (hO3.store 0 rfl 0 _).store 0 rfl 1 _
  have hs9 : w9.heap.size ≤ w8.heap.size := by rw [← hx_]; simp [World.setCell]
  clear hx_ c0_0 c0_1 cf0 c1_0 c1_1 cf1 c2_0 c2_1 cf2 hO3
  have r0 := hO8.c 0 0
  have r1 := hO8.c 0 1
  have hb := hO8.below
  refine bodyPost_ret (v := .agg #[.int .i64 ((VT.meet a b).kind : Int), .slice A9 n9 c9]) (by simp only [results, Tryd.results23]; go_simp; first | done | exact ⟨rfl, rfl, rfl⟩ | rfl) rfl ?_
  exact retT_eq hv.out ⟨A9, n9, c9, rfl, hr8.imp (fun b h => h.imp id (fun h => ⟨h.1, by omega⟩)), hb⟩
set_option maxRecDepth 100000 in
set_option maxHeartbeats 2000000 in
theorem rjoinS_any (ga gb : Nat) (t u : Ty) (xa : Int) (A : Option Addr) (n c : Nat) (xb : Int) (A2 : Option Addr) (n2 c2 : Nat) (w : World) (ha : RTf ga w (fun b => b < w.heap.size) t [.int .i64 xa, .slice A n c]) (hb0 : RTf gb w (fun b => b < w.heap.size) u [.int .i64 xb, .slice A2 n2 c2]) :
  Calls Tryd.prog 22 #[.agg #[.int .i64 xa, .slice A n c], .agg #[.int .i64 xb, .slice A2 n2 c2]] w fun e w' => RetT w (fun b => b < w.heap.size) (boundS VT.join 0 t u) e w' := by
 go_enter Tryd.func22, Tryd.ntmps22
 go_upto_region 1 with (fail)
 generalize hx_ : World.alloc (World.alloc (World.alloc w _) _) _ = wo1
 have hO1 : OwnB w wo1 [(w.heap.size + 2, [.int .i64 0, .slice none 0 0]), (w.heap.size + 1, [.int .i64 xb, .slice A2 n2 c2]), (w.heap.size, [.int .i64 xa, .slice A n c])] := by rw [← hx_]; exact (((OwnB.refl w).new #[.int .i64 xa, .slice A n c] _ (g := w.heap.size)).new #[.int .i64 xb, .slice A2 n2 c2] _ (g := w.heap.size + 1)).new #[.int .i64 0, .slice none 0 0] _ (g := w.heap.size + 2)
 clear hx_
 have c0_0 := hO1.c 0 0
 have c0_1 := hO1.c 0 1
 have cf0 := hO1.fr 0
 have c1_0 := hO1.c 1 0
 have c1_1 := hO1.c 1 1
 have cf1 := hO1.fr 1
 have c2_0 := hO1.c 2 0
 have c2_1 := hO1.c 2 1
 have cf2 := hO1.fr 2
 have hb1 := hO1.below
 have h1 := Lib.hid (RTf.at_ ha hb1)
 have h2 := Lib.hid (RTf.at_ hb0 hb1)
 repeat' ((fail_if_success at_builtin); (first | go_skip | go_guarded | go_step))
 refine (good_any ga gb t u xa A n c xb A2 n2 c2 _ h1.out h2.out).mono ?_
 rintro e w2 ⟨rfl, hb2⟩
 dsimp only
 have hO2 : OwnB w w2 [(w.heap.size + 2, [.int .i64 0, .slice none 0 0]), (w.heap.size + 1, [.int .i64 xb, .slice A2 n2 c2]), (w.heap.size, [.int .i64 xa, .slice A n c])] := hO1.kept hb2
 clear c0_0 c0_1 cf0 c1_0 c1_1 cf1 c2_0 c2_1 cf2 hO1
 have c0_0 := hO2.c 0 0
 have c0_1 := hO2.c 0 1
 have cf0 := hO2.fr 0
 have c1_0 := hO2.c 1 0
 have c1_1 := hO2.c 1 1
 have cf1 := hO2.fr 1
 have c2_0 := hO2.c 2 0
 have c2_1 := hO2.c 2 1
 have cf2 := hO2.fr 2
 have hb3 := hO2.below
 have hl4 := hO2.lt 0
 cases hbo : bothT t u with
 | false =>
  have hv : boundS VT.join 0 t u = VT.base 0 := bound_not hbo
  replace hv := Lib.hid hv
  clear hbo
  repeat' ((fail_if_success at_builtin); (first | go_skip | go_guarded | go_step))
  refine (plainT_any (0 : Int) _).mono ?_
  rintro e9 w9 ⟨rfl, hb9⟩
  dsimp only
  have hO3 : OwnB w w9 [(w.heap.size + 2, [.int .i64 0, .slice none 0 0]), (w.heap.size + 1, [.int .i64 xb, .slice A2 n2 c2]), (w.heap.size, [.int .i64 xa, .slice A n c])] := hO2.kept hb9
  clear c0_0 c0_1 cf0 c1_0 c1_1 cf1 c2_0 c2_1 cf2 hO2
  have c0_0 := hO3.c 0 0
  have c0_1 := hO3.c 0 1
  have cf0 := hO3.fr 0
  have c1_0 := hO3.c 1 0
  have c1_1 := hO3.c 1 1
  have cf1 := hO3.fr 1
  have c2_0 := hO3.c 2 0
  have c2_1 := hO3.c 2 1
  have cf2 := hO3.fr 2
  repeat' ((fail_if_success at_builtin); (first | go_skip | go_guarded | go_step))
  generalize hx_ : World.setCell (World.setCell _ _ _) _ _ = wo4
  have hO4 : OwnB w wo4 [(w.heap.size + 2, [.int .i64 0, .slice none 0 0]), (w.heap.size + 1, [.int .i64 xb, .slice A2 n2 c2]), (w.heap.size, [.int .i64 xa, .slice A n c])] := by rw [← hx_]; exact (hO3.store 0 rfl 0 _).store 0 rfl 1 _
  clear hx_ c0_0 c0_1 cf0 c1_0 c1_1 cf1 c2_0 c2_1 cf2 hO3
  have c0_0 := hO4.c 0 0
  have c0_1 := hO4.c 0 1
  have cf0 := hO4.fr 0
  have c1_0 := hO4.c 1 0
  have c1_1 := hO4.c 1 1
  have cf1 := hO4.fr 1
  have c2_0 := hO4.c 2 0
  have c2_1 := hO4.c 2 1
  have cf2 := hO4.fr 2
  have hb := hO4.below
  refine bodyPost_ret (v := .agg #[.int .i64 0, .slice none 0 0]) (by simp only [results, Tryd.results22]; go_simp; first | done | exact ⟨rfl, rfl, rfl⟩ | rfl) rfl ?_
  exact retT_eq hv.out ⟨none, 0, 0, rfl, rv_scalar _ _ 0, hb⟩
 | true =>
  obtain ⟨a, b, e1, e2⟩ := both_parts hbo
  have hv : boundS VT.join 0 t u = VT.join a b := by unfold boundS; rw [e1, e2]
  replace hv := Lib.hid hv
  obtain ⟨_, a1, _, rfl⟩ := okV_some e1
  obtain ⟨_, b1, _, rfl⟩ := okV_some e2
  have hSb : ∀ b, b < w.heap.size → b < w.heap.size := fun _ h => h
  have hSd := Lib.hid (fun b (h : b < w.heap.size) => (show b < w2.heap.size from Nat.lt_of_lt_of_le h hb3.size))
  have r1 := Lib.hid (RV.at_ ha.valid hSb hb3)
  have r2 := Lib.hid (RV.at_ hb0.valid hSb hb3)
  clear hbo e1 e2
  repeat' ((fail_if_success at_builtin); (first | go_skip | go_guarded | go_step))
  refine (rjoin_any a b xa A n c xb A2 n2 c2 _ (fun b => b < w.heap.size) a1 b1 hSd.out r1.out r2.out).mono ?_
  rintro e9 w9 ⟨A9, n9, c9, rfl, hr9, hb9⟩
  dsimp only
  have hO3 : OwnB w w9 [(w.heap.size + 2, [.int .i64 0, .slice none 0 0]), (w.heap.size + 1, [.int .i64 xb, .slice A2 n2 c2]), (w.heap.size, [.int .i64 xa, .slice A n c])] := hO2.kept hb9
  clear c0_0 c0_1 cf0 c1_0 c1_1 cf1 c2_0 c2_1 cf2 hO2
  have c0_0 := hO3.c 0 0
  have c0_1 := hO3.c 0 1
  have cf0 := hO3.fr 0
  have c1_0 := hO3.c 1 0
  have c1_1 := hO3.c 1 1
  have cf1 := hO3.fr 1
  have c2_0 := hO3.c 2 0
  have c2_1 := hO3.c 2 1
  have cf2 := hO3.fr 2
  repeat' ((fail_if_success at_builtin); (first | go_skip | go_guarded | go_step))
  have hr8 := RV.back (s0 := w.heap.size) (b4 := w.heap.size + 2) (.int .i64 ((VT.join a b).kind : Int)) (.slice A9 n9 c9) hr9 (Below.refl _ w9) hSb (by omega) hl4 hb9.size
  generalize hx_ : World.setCell (World.setCell w9 _ _) _ _ = w8 at hr8 ⊢
  have hO8 : OwnB w w8 [(w.heap.size + 2, [.int .i64 ((VT.join a b).kind : Int), .slice A9 n9 c9]), (w.heap.size + 1, [.int .i64 xb, .slice A2 n2 c2]), (w.heap.size, [.int .i64 xa, .slice A n c])] := by rw [← hx_]; exact (hO3.store 0 rfl 0 _).store 0 rfl 1 _
  have hs9 : w9.heap.size ≤ w8.heap.size := by rw [← hx_]; simp [World.setCell]
  clear hx_ c0_0 c0_1 cf0 c1_0 c1_1 cf1 c2_0 c2_1 cf2 hO3
  have r0 := hO8.c 0 0
  have r1 := hO8.c 0 1
  have hb := hO8.below
  refine bodyPost_ret (v := .agg #[.int .i64 ((VT.join a b).kind : Int), .slice A9 n9 c9]) (by simp only [results, Tryd.results22]; go_simp; first | done | exact ⟨rfl, rfl, rfl⟩ | rfl) rfl ?_
  exact retT_eq hv.out ⟨A9, n9, c9, rfl, hr8.imp (fun b h => h.imp id (fun h => ⟨h.1, by omega⟩)), hb⟩
set_option maxRecDepth 100000 in
set_option maxHeartbeats 2000000 in
theorem rmeetS_any (ga gb : Nat) (t u : Ty) (xa : Int) (A : Option Addr) (n c : Nat) (xb : Int) (A2 : Option Addr) (n2 c2 : Nat) (w : World) (ha : RTf ga w (fun b => b < w.heap.size) t [.int .i64 xa, .slice A n c]) (hb0 : RTf gb w (fun b => b < w.heap.size) u [.int .i64 xb, .slice A2 n2 c2]) :
  Calls Tryd.prog 24 #[.agg #[.int .i64 xa, .slice A n c], .agg #[.int .i64 xb, .slice A2 n2 c2]] w fun e w' => RetT w (fun b => b < w.heap.size) (boundS VT.meet 7 t u) e w' := by
 go_enter Tryd.func24, Tryd.ntmps24
 go_upto_region 1 with (fail)
 generalize hx_ : World.alloc (World.alloc (World.alloc w _) _) _ = wo1
 have hO1 : OwnB w wo1 [(w.heap.size + 2, [.int .i64 0, .slice none 0 0]), (w.heap.size + 1, [.int .i64 xb, .slice A2 n2 c2]), (w.heap.size, [.int .i64 xa, .slice A n c])] := by rw [← hx_]; exact (((OwnB.refl w).new #[.int .i64 xa, .slice A n c] _ (g := w.heap.size)).new #[.int .i64 xb, .slice A2 n2 c2] _ (g := w.heap.size + 1)).new #[.int .i64 0, .slice none 0 0] _ (g := w.heap.size + 2)
 clear hx_
 have c0_0 := hO1.c 0 0
 have c0_1 := hO1.c 0 1
 have cf0 := hO1.fr 0
 have c1_0 := hO1.c 1 0
 have c1_1 := hO1.c 1 1
 have cf1 := hO1.fr 1
 have c2_0 := hO1.c 2 0
 have c2_1 := hO1.c 2 1
 have cf2 := hO1.fr 2
 have hb1 := hO1.below
 have h1 := Lib.hid (RTf.at_ ha hb1)
 have h2 := Lib.hid (RTf.at_ hb0 hb1)
 repeat' ((fail_if_success at_builtin); (first | go_skip | go_guarded | go_step))
 refine (good_any ga gb t u xa A n c xb A2 n2 c2 _ h1.out h2.out).mono ?_
 rintro e w2 ⟨rfl, hb2⟩
 dsimp only
 have hO2 : OwnB w w2 [(w.heap.size + 2, [.int .i64 0, .slice none 0 0]), (w.heap.size + 1, [.int .i64 xb, .slice A2 n2 c2]), (w.heap.size, [.int .i64 xa, .slice A n c])] := hO1.kept hb2
 clear c0_0 c0_1 cf0 c1_0 c1_1 cf1 c2_0 c2_1 cf2 hO1
 have c0_0 := hO2.c 0 0
 have c0_1 := hO2.c 0 1
 have cf0 := hO2.fr 0
 have c1_0 := hO2.c 1 0
 have c1_1 := hO2.c 1 1
 have cf1 := hO2.fr 1
 have c2_0 := hO2.c 2 0
 have c2_1 := hO2.c 2 1
 have cf2 := hO2.fr 2
 have hb3 := hO2.below
 have hl4 := hO2.lt 0
 cases hbo : bothT t u with
 | false =>
  have hv : boundS VT.meet 7 t u = VT.base 7 := bound_not hbo
  replace hv := Lib.hid hv
  clear hbo
  repeat' ((fail_if_success at_builtin); (first | go_skip | go_guarded | go_step))
  refine (plainT_any (7 : Int) _).mono ?_
  rintro e9 w9 ⟨rfl, hb9⟩
  dsimp only
  have hO3 : OwnB w w9 [(w.heap.size + 2, [.int .i64 0, .slice none 0 0]), (w.heap.size + 1, [.int .i64 xb, .slice A2 n2 c2]), (w.heap.size, [.int .i64 xa, .slice A n c])] := hO2.kept hb9
  clear c0_0 c0_1 cf0 c1_0 c1_1 cf1 c2_0 c2_1 cf2 hO2
  have c0_0 := hO3.c 0 0
  have c0_1 := hO3.c 0 1
  have cf0 := hO3.fr 0
  have c1_0 := hO3.c 1 0
  have c1_1 := hO3.c 1 1
  have cf1 := hO3.fr 1
  have c2_0 := hO3.c 2 0
  have c2_1 := hO3.c 2 1
  have cf2 := hO3.fr 2
  repeat' ((fail_if_success at_builtin); (first | go_skip | go_guarded | go_step))
  generalize hx_ : World.setCell (World.setCell _ _ _) _ _ = wo4
  have hO4 : OwnB w wo4 [(w.heap.size + 2, [.int .i64 7, .slice none 0 0]), (w.heap.size + 1, [.int .i64 xb, .slice A2 n2 c2]), (w.heap.size, [.int .i64 xa, .slice A n c])] := by rw [← hx_]; exact (hO3.store 0 rfl 0 _).store 0 rfl 1 _
  clear hx_ c0_0 c0_1 cf0 c1_0 c1_1 cf1 c2_0 c2_1 cf2 hO3
  have c0_0 := hO4.c 0 0
  have c0_1 := hO4.c 0 1
  have cf0 := hO4.fr 0
  have c1_0 := hO4.c 1 0
  have c1_1 := hO4.c 1 1
  have cf1 := hO4.fr 1
  have c2_0 := hO4.c 2 0
  have c2_1 := hO4.c 2 1
  have cf2 := hO4.fr 2
  have hb := hO4.below
  refine bodyPost_ret (v := .agg #[.int .i64 7, .slice none 0 0]) (by simp only [results, Tryd.results24]; go_simp; first | done | exact ⟨rfl, rfl, rfl⟩ | rfl) rfl ?_
  exact retT_eq hv.out ⟨none, 0, 0, rfl, rv_scalar _ _ 7, hb⟩
 | true =>
  obtain ⟨a, b, e1, e2⟩ := both_parts hbo
  have hv : boundS VT.meet 7 t u = VT.meet a b := by unfold boundS; rw [e1, e2]
  replace hv := Lib.hid hv
  obtain ⟨_, a1, _, rfl⟩ := okV_some e1
  obtain ⟨_, b1, _, rfl⟩ := okV_some e2
  have hSb : ∀ b, b < w.heap.size → b < w.heap.size := fun _ h => h
  have hSd := Lib.hid (fun b (h : b < w.heap.size) => (show b < w2.heap.size from Nat.lt_of_lt_of_le h hb3.size))
  have r1 := Lib.hid (RV.at_ ha.valid hSb hb3)
  have r2 := Lib.hid (RV.at_ hb0.valid hSb hb3)
  clear hbo e1 e2
  repeat' ((fail_if_success at_builtin); (first | go_skip | go_guarded | go_step))
  refine (rmeet_any a b xa A n c xb A2 n2 c2 _ (fun b => b < w.heap.size) a1 b1 hSd.out r1.out r2.out).mono ?_
  rintro e9 w9 ⟨A9, n9, c9, rfl, hr9, hb9⟩
  dsimp only
  have hO3 : OwnB w w9 [(w.heap.size + 2, [.int .i64 0, .slice none 0 0]), (w.heap.size + 1, [.int .i64 xb, .slice A2 n2 c2]), (w.heap.size, [.int .i64 xa, .slice A n c])] := hO2.kept hb9
  clear c0_0 c0_1 cf0 c1_0 c1_1 cf1 c2_0 c2_1 cf2 hO2
  have c0_0 := hO3.c 0 0
  have c0_1 := hO3.c 0 1
  have cf0 := hO3.fr 0
  have c1_0 := hO3.c 1 0
  have c1_1 := hO3.c 1 1
  have cf1 := hO3.fr 1
  have c2_0 := hO3.c 2 0
  have c2_1 := hO3.c 2 1
  have cf2 := hO3.fr 2
  repeat' ((fail_if_success at_builtin); (first | go_skip | go_guarded | go_step))
  have hr8 := RV.back (s0 := w.heap.size) (b4 := w.heap.size + 2) (.int .i64 ((VT.meet a b).kind : Int)) (.slice A9 n9 c9) hr9 (Below.refl _ w9) hSb (by omega) hl4 hb9.size
  generalize hx_ : World.setCell (World.setCell w9 _ _) _ _ = w8 at hr8 ⊢
  have hO8 : OwnB w w8 [(w.heap.size + 2, [.int .i64 ((VT.meet a b).kind : Int), .slice A9 n9 c9]), (w.heap.size + 1, [.int .i64 xb, .slice A2 n2 c2]), (w.heap.size, [.int .i64 xa, .slice A n c])] := by rw [← hx_]; exact (hO3.store 0 rfl 0 _).store 0 rfl 1 _
  have hs9 : w9.heap.size ≤ w8.heap.size := by rw [← hx_]; simp [World.setCell]
  clear hx_ c0_0 c0_1 cf0 c1_0 c1_1 cf1 c2_0 c2_1 cf2 hO3
  have r0 := hO8.c 0 0
  have r1 := hO8.c 0 1
  have hb := hO8.below
  refine bodyPost_ret (v := .agg #[.int .i64 ((VT.meet a b).kind : Int), .slice A9 n9 c9]) (by simp only [results, Tryd.results24]; go_simp; first | done | exact ⟨rfl, rfl, rfl⟩ | rfl) rfl ?_
  exact retT_eq hv.out ⟨A9, n9, c9, rfl, hr8.imp (fun b h => h.imp id (fun h => ⟨h.1, by omega⟩)), hb⟩
end Go.Proofs.YtgcpffbaejodiaaDoor
