/- Typing: Of and Fits, both sides. -/
import Derived.Test.YtgcpffbaejodiaaDoorTyIter
import Derived.Test.YtgcpffbaejodiaaDoorTyCk
import Derived.Test.YtgcpffbaejodiaaDoorTyS
import Derived.Test.YtgcpffbaejodiaaDoorTyBoth
import Derived.Test.YtgcpffbaejodiaaDoorTyQ
namespace Go.Proofs.YtgcpffbaejodiaaDoor
open Go.RowKit
/-- the type of a value, or any -/
def ofS (v : Vl) : VT := if validV v = 0 then findV 16 v else .base 0
def fitsS (v : Vl) (t : Ty) : Bool := decide (validV v = 0) && subS (ofV (findV 16 v)) t
theorem find_okV {v : Vl} (h : validV v = 0) : okV (ofV (findV 16 v)) = some (findV 16 v) := okV_of (findV_ok 16 v) (findV_depth 16 v h)
set_option maxRecDepth 100000 in
set_option maxHeartbeats 4000000 in
theorem tof_any (g : Nat) (v : Vl) (k : Int) (b : Bool) (i : Int) (s : ByteArray) (A : Option Addr) (n c : Nat) (A2 : Option Addr) (n2 c2 : Nat) (w : World) (h : RVl g w (fun b => b < w.heap.size) v [.int .i64 k, .bool b, .int .i64 i, .string s, .slice A n c, .slice A2 n2 c2]) :
  Calls Tryd.prog 14 #[.agg #[.int .i64 k, .bool b, .int .i64 i, .string s, .slice A n c, .slice A2 n2 c2]] w fun e w' => RetT w (fun _ => False) (ofS v) e w' := by
 go_enter Tryd.func14, Tryd.ntmps14
 go_upto_region 1 with (fail)
 generalize hx_ : World.alloc (World.alloc w _) _ = wo1
 have hO1 : OwnB w wo1 [(w.heap.size + 1, [.int .i64 0, .slice none 0 0]), (w.heap.size, [.int .i64 k, .bool b, .int .i64 i, .string s, .slice A n c, .slice A2 n2 c2])] := by rw [← hx_]; exact ((OwnB.refl w).new #[.int .i64 k, .bool b, .int .i64 i, .string s, .slice A n c, .slice A2 n2 c2] _ (g := w.heap.size)).new #[.int .i64 0, .slice none 0 0] _ (g := w.heap.size + 1)
 clear hx_
 have c0_0 := hO1.c 0 0
 have c0_1 := hO1.c 0 1
 have cf0 := hO1.fr 0
 have c1_0 := hO1.c 1 0
 have c1_1 := hO1.c 1 1
 have c1_2 := hO1.c 1 2
 have c1_3 := hO1.c 1 3
 have c1_4 := hO1.c 1 4
 have c1_5 := hO1.c 1 5
 have cf1 := hO1.fr 1
 have hb1 := hO1.below
 have h1 := Lib.hid (RVl.at_ h hb1)
 repeat' ((fail_if_success at_builtin); (first | go_skip | go_guarded | go_step))
 refine (vvalid_any g v k b i s A n c A2 n2 c2 _ h1.out).mono ?_
 rintro e w2 ⟨rfl, hb2⟩
 dsimp only
 have hO2 : OwnB w w2 [(w.heap.size + 1, [.int .i64 0, .slice none 0 0]), (w.heap.size, [.int .i64 k, .bool b, .int .i64 i, .string s, .slice A n c, .slice A2 n2 c2])] := hO1.kept hb2
 clear c0_0 c0_1 cf0 c1_0 c1_1 c1_2 c1_3 c1_4 c1_5 cf1 hO1
 have c0_0 := hO2.c 0 0
 have c0_1 := hO2.c 0 1
 have cf0 := hO2.fr 0
 have c1_0 := hO2.c 1 0
 have c1_1 := hO2.c 1 1
 have c1_2 := hO2.c 1 2
 have c1_3 := hO2.c 1 3
 have c1_4 := hO2.c 1 4
 have c1_5 := hO2.c 1 5
 have cf1 := hO2.fr 1
 have hb3 := hO2.below
 have hl4 := hO2.lt 0
 have h2 := Lib.hid (RVl.at_ h hb3)
 obtain ⟨vv, hvv⟩ : ∃ vv, vv = validV v := ⟨_, rfl⟩
 rw [← hvv]
 by_cases hz : vv = 0
 ·
  have hv : ofS v = findV 16 v := by unfold ofS; rw [← hvv, if_pos hz]
  have hck : chkV 16 v = 0 := by rw [← hz, hvv]; rfl
  subst hz
  replace hv := Lib.hid hv
  replace hck := Lib.hid hck
  replace hvv := Lib.hid hvv
  repeat' ((fail_if_success at_builtin); (first | go_skip | go_guarded | go_step))
  refine (find_any 16 g v k b i s A n c A2 n2 c2 _ hck.out h2.out).mono ?_
  rintro e w3 ⟨A9, n9, c9, rfl, hr9, hb9⟩
  dsimp only
  have hO3 : OwnB w w3 [(w.heap.size + 1, [.int .i64 0, .slice none 0 0]), (w.heap.size, [.int .i64 k, .bool b, .int .i64 i, .string s, .slice A n c, .slice A2 n2 c2])] := hO2.kept hb9
  clear c0_0 c0_1 cf0 c1_0 c1_1 c1_2 c1_3 c1_4 c1_5 cf1 hO2
  have c0_0 := hO3.c 0 0
  have c0_1 := hO3.c 0 1
  have cf0 := hO3.fr 0
  have c1_0 := hO3.c 1 0
  have c1_1 := hO3.c 1 1
  have c1_2 := hO3.c 1 2
  have c1_3 := hO3.c 1 3
  have c1_4 := hO3.c 1 4
  have c1_5 := hO3.c 1 5
  have cf1 := hO3.fr 1
  have hr8 := RV.set2 (g := w.heap.size + 1) (.int .i64 ((findV 16 v).kind : Int)) (.slice A9 n9 c9) (S := fun b => w2.heap.size ≤ b ∧ b < w3.heap.size) (fun b h => by have := h.1; omega) (hr9.imp (fun b h => h.elim False.elim id))
  have hs8 : ((w3.setCell ⟨w.heap.size + 1, 0, none⟩ (.int .i64 ((findV 16 v).kind : Int))).setCell ⟨w.heap.size + 1, 1, none⟩ (.slice A9 n9 c9)).heap.size = w3.heap.size := by simp [World.setCell]
  have hw2 := hb3.size
  repeat' ((fail_if_success at_builtin); (first | go_skip | go_guarded | go_step))
  generalize hx_ : World.setCell (World.setCell _ _ _) _ _ = wo4 at hr8 hs8 ⊢
  have hO4 : OwnB w wo4 [(w.heap.size + 1, [.int .i64 ((findV 16 v).kind : Int), .slice A9 n9 c9]), (w.heap.size, [.int .i64 k, .bool b, .int .i64 i, .string s, .slice A n c, .slice A2 n2 c2])] := by rw [← hx_]; exact (hO3.store 0 rfl 0 _).store 0 rfl 1 _
  clear hx_ c0_0 c0_1 cf0 c1_0 c1_1 c1_2 c1_3 c1_4 c1_5 cf1 hO3
  have c0_0 := hO4.c 0 0
  have c0_1 := hO4.c 0 1
  have cf0 := hO4.fr 0
  have c1_0 := hO4.c 1 0
  have c1_1 := hO4.c 1 1
  have c1_2 := hO4.c 1 2
  have c1_3 := hO4.c 1 3
  have c1_4 := hO4.c 1 4
  have c1_5 := hO4.c 1 5
  have cf1 := hO4.fr 1
  have hb := hO4.below
  refine bodyPost_ret (v := .agg #[.int .i64 ((findV 16 v).kind : Int), .slice A9 n9 c9]) (by simp only [results, Tryd.results14]; go_simp; first | done | exact ⟨rfl, rfl, rfl⟩ | rfl) rfl ?_
  exact retT_eq hv.out ⟨A9, n9, c9, rfl, hr8.imp (fun b h => .inr ⟨by have := h.1; omega, by have := h.2; omega⟩), hb⟩
 ·
  have hv : ofS v = VT.base 0 := by unfold ofS; rw [← hvv, if_neg hz]
  have hz2 : (vv == 0) = false := by simpa using hz
  replace hv := Lib.hid hv
  replace hvv := Lib.hid hvv
  clear hz
  repeat' ((fail_if_success at_builtin); (first | go_skip | go_guarded | go_step))
  refine (scalar_any (0 : Int) _).mono ?_
  rintro e9 w9 ⟨rfl, hb9⟩
  dsimp only
  have hO3 : OwnB w w9 [(w.heap.size + 1, [.int .i64 0, .slice none 0 0]), (w.heap.size, [.int .i64 k, .bool b, .int .i64 i, .string s, .slice A n c, .slice A2 n2 c2])] := hO2.kept hb9
  clear c0_0 c0_1 cf0 c1_0 c1_1 c1_2 c1_3 c1_4 c1_5 cf1 hO2
  have c0_0 := hO3.c 0 0
  have c0_1 := hO3.c 0 1
  have cf0 := hO3.fr 0
  have c1_0 := hO3.c 1 0
  have c1_1 := hO3.c 1 1
  have c1_2 := hO3.c 1 2
  have c1_3 := hO3.c 1 3
  have c1_4 := hO3.c 1 4
  have c1_5 := hO3.c 1 5
  have cf1 := hO3.fr 1
  repeat' ((fail_if_success at_builtin); (first | go_skip | go_guarded | go_step))
  generalize hx_ : World.setCell (World.setCell _ _ _) _ _ = wo4
  have hO4 : OwnB w wo4 [(w.heap.size + 1, [.int .i64 0, .slice none 0 0]), (w.heap.size, [.int .i64 k, .bool b, .int .i64 i, .string s, .slice A n c, .slice A2 n2 c2])] := by rw [← hx_]; exact (hO3.store 0 rfl 0 _).store 0 rfl 1 _
  clear hx_ c0_0 c0_1 cf0 c1_0 c1_1 c1_2 c1_3 c1_4 c1_5 cf1 hO3
  have c0_0 := hO4.c 0 0
  have c0_1 := hO4.c 0 1
  have cf0 := hO4.fr 0
  have c1_0 := hO4.c 1 0
  have c1_1 := hO4.c 1 1
  have c1_2 := hO4.c 1 2
  have c1_3 := hO4.c 1 3
  have c1_4 := hO4.c 1 4
  have c1_5 := hO4.c 1 5
  have cf1 := hO4.fr 1
  have hb := hO4.below
  refine bodyPost_ret (v := .agg #[.int .i64 0, .slice none 0 0]) (by simp only [results, Tryd.results14]; go_simp; first | done | exact ⟨rfl, rfl, rfl⟩ | rfl) rfl ?_
  exact retT_eq hv.out ⟨none, 0, 0, rfl, rv_scalar _ _ 0, hb⟩
set_option maxRecDepth 100000 in
set_option maxHeartbeats 4000000 in
theorem rofS_any (g : Nat) (v : Vl) (k : Int) (b : Bool) (i : Int) (s : ByteArray) (A : Option Addr) (n c : Nat) (A2 : Option Addr) (n2 c2 : Nat) (w : World) (h : RVl g w (fun b => b < w.heap.size) v [.int .i64 k, .bool b, .int .i64 i, .string s, .slice A n c, .slice A2 n2 c2]) :
  Calls Tryd.prog 16 #[.agg #[.int .i64 k, .bool b, .int .i64 i, .string s, .slice A n c, .slice A2 n2 c2]] w fun e w' => RetT w (fun _ => False) (ofS v) e w' := by
 go_enter Tryd.func16, Tryd.ntmps16
 go_upto_region 1 with (fail)
 generalize hx_ : World.alloc (World.alloc w _) _ = wo1
 have hO1 : OwnB w wo1 [(w.heap.size + 1, [.int .i64 0, .slice none 0 0]), (w.heap.size, [.int .i64 k, .bool b, .int .i64 i, .string s, .slice A n c, .slice A2 n2 c2])] := by rw [← hx_]; exact ((OwnB.refl w).new #[.int .i64 k, .bool b, .int .i64 i, .string s, .slice A n c, .slice A2 n2 c2] _ (g := w.heap.size)).new #[.int .i64 0, .slice none 0 0] _ (g := w.heap.size + 1)
 clear hx_
 have c0_0 := hO1.c 0 0
 have c0_1 := hO1.c 0 1
 have cf0 := hO1.fr 0
 have c1_0 := hO1.c 1 0
 have c1_1 := hO1.c 1 1
 have c1_2 := hO1.c 1 2
 have c1_3 := hO1.c 1 3
 have c1_4 := hO1.c 1 4
 have c1_5 := hO1.c 1 5
 have cf1 := hO1.fr 1
 have hb1 := hO1.below
 have h1 := Lib.hid (RVl.at_ h hb1)
 repeat' ((fail_if_success at_builtin); (first | go_skip | go_guarded | go_step))
 refine (rvalidV_any g v k b i s A n c A2 n2 c2 _ h1.out).mono ?_
 rintro e w2 ⟨rfl, hb2⟩
 dsimp only
 have hO2 : OwnB w w2 [(w.heap.size + 1, [.int .i64 0, .slice none 0 0]), (w.heap.size, [.int .i64 k, .bool b, .int .i64 i, .string s, .slice A n c, .slice A2 n2 c2])] := hO1.kept hb2
 clear c0_0 c0_1 cf0 c1_0 c1_1 c1_2 c1_3 c1_4 c1_5 cf1 hO1
 have c0_0 := hO2.c 0 0
 have c0_1 := hO2.c 0 1
 have cf0 := hO2.fr 0
 have c1_0 := hO2.c 1 0
 have c1_1 := hO2.c 1 1
 have c1_2 := hO2.c 1 2
 have c1_3 := hO2.c 1 3
 have c1_4 := hO2.c 1 4
 have c1_5 := hO2.c 1 5
 have cf1 := hO2.fr 1
 have hb3 := hO2.below
 have hl4 := hO2.lt 0
 have h2 := Lib.hid (RVl.at_ h hb3)
 obtain ⟨vv, hvv⟩ : ∃ vv, vv = validV v := ⟨_, rfl⟩
 rw [← hvv]
 by_cases hz : vv = 0
 ·
  have hv : ofS v = findV 16 v := by unfold ofS; rw [← hvv, if_pos hz]
  have hck : chkV 16 v = 0 := by rw [← hz, hvv]; rfl
  subst hz
  replace hv := Lib.hid hv
  replace hck := Lib.hid hck
  replace hvv := Lib.hid hvv
  repeat' ((fail_if_success at_builtin); (first | go_skip | go_guarded | go_step))
  refine (rof_any 16 g v k b i s A n c A2 n2 c2 _ hck.out h2.out).mono ?_
  rintro e w3 ⟨A9, n9, c9, rfl, hr9, hb9⟩
  dsimp only
  have hO3 : OwnB w w3 [(w.heap.size + 1, [.int .i64 0, .slice none 0 0]), (w.heap.size, [.int .i64 k, .bool b, .int .i64 i, .string s, .slice A n c, .slice A2 n2 c2])] := hO2.kept hb9
  clear c0_0 c0_1 cf0 c1_0 c1_1 c1_2 c1_3 c1_4 c1_5 cf1 hO2
  have c0_0 := hO3.c 0 0
  have c0_1 := hO3.c 0 1
  have cf0 := hO3.fr 0
  have c1_0 := hO3.c 1 0
  have c1_1 := hO3.c 1 1
  have c1_2 := hO3.c 1 2
  have c1_3 := hO3.c 1 3
  have c1_4 := hO3.c 1 4
  have c1_5 := hO3.c 1 5
  have cf1 := hO3.fr 1
  have hr8 := RV.set2 (g := w.heap.size + 1) (.int .i64 ((findV 16 v).kind : Int)) (.slice A9 n9 c9) (S := fun b => w2.heap.size ≤ b ∧ b < w3.heap.size) (fun b h => by have := h.1; omega) (hr9.imp (fun b h => h.elim False.elim id))
  have hs8 : ((w3.setCell ⟨w.heap.size + 1, 0, none⟩ (.int .i64 ((findV 16 v).kind : Int))).setCell ⟨w.heap.size + 1, 1, none⟩ (.slice A9 n9 c9)).heap.size = w3.heap.size := by simp [World.setCell]
  have hw2 := hb3.size
  repeat' ((fail_if_success at_builtin); (first | go_skip | go_guarded | go_step))
  generalize hx_ : World.setCell (World.setCell _ _ _) _ _ = wo4 at hr8 hs8 ⊢
  have hO4 : OwnB w wo4 [(w.heap.size + 1, [.int .i64 ((findV 16 v).kind : Int), .slice A9 n9 c9]), (w.heap.size, [.int .i64 k, .bool b, .int .i64 i, .string s, .slice A n c, .slice A2 n2 c2])] := by rw [← hx_]; exact (hO3.store 0 rfl 0 _).store 0 rfl 1 _
  clear hx_ c0_0 c0_1 cf0 c1_0 c1_1 c1_2 c1_3 c1_4 c1_5 cf1 hO3
  have c0_0 := hO4.c 0 0
  have c0_1 := hO4.c 0 1
  have cf0 := hO4.fr 0
  have c1_0 := hO4.c 1 0
  have c1_1 := hO4.c 1 1
  have c1_2 := hO4.c 1 2
  have c1_3 := hO4.c 1 3
  have c1_4 := hO4.c 1 4
  have c1_5 := hO4.c 1 5
  have cf1 := hO4.fr 1
  have hb := hO4.below
  refine bodyPost_ret (v := .agg #[.int .i64 ((findV 16 v).kind : Int), .slice A9 n9 c9]) (by simp only [results, Tryd.results16]; go_simp; first | done | exact ⟨rfl, rfl, rfl⟩ | rfl) rfl ?_
  exact retT_eq hv.out ⟨A9, n9, c9, rfl, hr8.imp (fun b h => .inr ⟨by have := h.1; omega, by have := h.2; omega⟩), hb⟩
 ·
  have hv : ofS v = VT.base 0 := by unfold ofS; rw [← hvv, if_neg hz]
  have hz2 : (vv == 0) = false := by simpa using hz
  replace hv := Lib.hid hv
  replace hvv := Lib.hid hvv
  clear hz
  repeat' ((fail_if_success at_builtin); (first | go_skip | go_guarded | go_step))
  refine (plainT_any (0 : Int) _).mono ?_
  rintro e9 w9 ⟨rfl, hb9⟩
  dsimp only
  have hO3 : OwnB w w9 [(w.heap.size + 1, [.int .i64 0, .slice none 0 0]), (w.heap.size, [.int .i64 k, .bool b, .int .i64 i, .string s, .slice A n c, .slice A2 n2 c2])] := hO2.kept hb9
  clear c0_0 c0_1 cf0 c1_0 c1_1 c1_2 c1_3 c1_4 c1_5 cf1 hO2
  have c0_0 := hO3.c 0 0
  have c0_1 := hO3.c 0 1
  have cf0 := hO3.fr 0
  have c1_0 := hO3.c 1 0
  have c1_1 := hO3.c 1 1
  have c1_2 := hO3.c 1 2
  have c1_3 := hO3.c 1 3
  have c1_4 := hO3.c 1 4
  have c1_5 := hO3.c 1 5
  have cf1 := hO3.fr 1
  repeat' ((fail_if_success at_builtin); (first | go_skip | go_guarded | go_step))
  generalize hx_ : World.setCell (World.setCell _ _ _) _ _ = wo4
  have hO4 : OwnB w wo4 [(w.heap.size + 1, [.int .i64 0, .slice none 0 0]), (w.heap.size, [.int .i64 k, .bool b, .int .i64 i, .string s, .slice A n c, .slice A2 n2 c2])] := by rw [← hx_]; exact (hO3.store 0 rfl 0 _).store 0 rfl 1 _
  clear hx_ c0_0 c0_1 cf0 c1_0 c1_1 c1_2 c1_3 c1_4 c1_5 cf1 hO3
  have c0_0 := hO4.c 0 0
  have c0_1 := hO4.c 0 1
  have cf0 := hO4.fr 0
  have c1_0 := hO4.c 1 0
  have c1_1 := hO4.c 1 1
  have c1_2 := hO4.c 1 2
  have c1_3 := hO4.c 1 3
  have c1_4 := hO4.c 1 4
  have c1_5 := hO4.c 1 5
  have cf1 := hO4.fr 1
  have hb := hO4.below
  refine bodyPost_ret (v := .agg #[.int .i64 0, .slice none 0 0]) (by simp only [results, Tryd.results16]; go_simp; first | done | exact ⟨rfl, rfl, rfl⟩ | rfl) rfl ?_
  exact retT_eq hv.out ⟨none, 0, 0, rfl, rv_scalar _ _ 0, hb⟩
set_option maxRecDepth 100000 in
set_option maxHeartbeats 4000000 in
theorem tfits_any (g : Nat) (v : Vl) (k : Int) (b : Bool) (i : Int) (s : ByteArray) (A : Option Addr) (n c : Nat) (A2 : Option Addr) (n2 c2 : Nat) (gb : Nat) (t : Ty) (xb : Int) (A3 : Option Addr) (n3 c3 : Nat) (w : World) (h : RVl g w (fun b => b < w.heap.size) v [.int .i64 k, .bool b, .int .i64 i, .string s, .slice A n c, .slice A2 n2 c2]) (ht : RTf gb w (fun b => b < w.heap.size) t [.int .i64 xb, .slice A3 n3 c3]) :
  Calls Tryd.prog 17 #[.agg #[.int .i64 k, .bool b, .int .i64 i, .string s, .slice A n c, .slice A2 n2 c2], .agg #[.int .i64 xb, .slice A3 n3 c3]] w fun e w' => e = .returned (.bool (fitsS v t)) ∧ Below w.heap.size w w' := by
 go_enter Tryd.func17, Tryd.ntmps17
 go_upto_region 1 with (fail)
 generalize hx_ : World.alloc (World.alloc w _) _ = wo1
 have hO1 : OwnB w wo1 [(w.heap.size + 1, [.int .i64 xb, .slice A3 n3 c3]), (w.heap.size, [.int .i64 k, .bool b, .int .i64 i, .string s, .slice A n c, .slice A2 n2 c2])] := by rw [← hx_]; exact ((OwnB.refl w).new #[.int .i64 k, .bool b, .int .i64 i, .string s, .slice A n c, .slice A2 n2 c2] _ (g := w.heap.size)).new #[.int .i64 xb, .slice A3 n3 c3] _ (g := w.heap.size + 1)
 clear hx_
 have c0_0 := hO1.c 0 0
 have c0_1 := hO1.c 0 1
 have cf0 := hO1.fr 0
 have c1_0 := hO1.c 1 0
 have c1_1 := hO1.c 1 1
 have c1_2 := hO1.c 1 2
 have c1_3 := hO1.c 1 3
 have c1_4 := hO1.c 1 4
 have c1_5 := hO1.c 1 5
 have cf1 := hO1.fr 1
 have keepS : ∀ v1 v2 : World, (OwnB w v1 [(w.heap.size + 1, [.int .i64 xb, .slice A3 n3 c3]), (w.heap.size, [.int .i64 k, .bool b, .int .i64 i, .string s, .slice A n c, .slice A2 n2 c2])] ∧ v1.cell? ⟨w.heap.size + 1, 0, none⟩ = some (.int .i64 xb) ∧ v1.cell? ⟨w.heap.size + 1, 1, none⟩ = some (.slice A3 n3 c3) ∧ v1.cell? ⟨w.heap.size, 0, none⟩ = some (.int .i64 k) ∧ v1.cell? ⟨w.heap.size, 1, none⟩ = some (.bool b) ∧ v1.cell? ⟨w.heap.size, 2, none⟩ = some (.int .i64 i) ∧ v1.cell? ⟨w.heap.size, 3, none⟩ = some (.string s) ∧ v1.cell? ⟨w.heap.size, 4, none⟩ = some (.slice A n c) ∧ v1.cell? ⟨w.heap.size, 5, none⟩ = some (.slice A2 n2 c2)) → Below v1.heap.size v1 v2 → (OwnB w v2 [(w.heap.size + 1, [.int .i64 xb, .slice A3 n3 c3]), (w.heap.size, [.int .i64 k, .bool b, .int .i64 i, .string s, .slice A n c, .slice A2 n2 c2])] ∧ v2.cell? ⟨w.heap.size + 1, 0, none⟩ = some (.int .i64 xb) ∧ v2.cell? ⟨w.heap.size + 1, 1, none⟩ = some (.slice A3 n3 c3) ∧ v2.cell? ⟨w.heap.size, 0, none⟩ = some (.int .i64 k) ∧ v2.cell? ⟨w.heap.size, 1, none⟩ = some (.bool b) ∧ v2.cell? ⟨w.heap.size, 2, none⟩ = some (.int .i64 i) ∧ v2.cell? ⟨w.heap.size, 3, none⟩ = some (.string s) ∧ v2.cell? ⟨w.heap.size, 4, none⟩ = some (.slice A n c) ∧ v2.cell? ⟨w.heap.size, 5, none⟩ = some (.slice A2 n2 c2)) := fun v1 v2 h hb => ⟨h.1.kept hb, (h.1.kept hb).c 0 0, (h.1.kept hb).c 0 1, (h.1.kept hb).c 1 0, (h.1.kept hb).c 1 1, (h.1.kept hb).c 1 2, (h.1.kept hb).c 1 3, (h.1.kept hb).c 1 4, (h.1.kept hb).c 1 5⟩
 have hS1 : (OwnB w wo1.drew [(w.heap.size + 1, [.int .i64 xb, .slice A3 n3 c3]), (w.heap.size, [.int .i64 k, .bool b, .int .i64 i, .string s, .slice A n c, .slice A2 n2 c2])] ∧ wo1.drew.cell? ⟨w.heap.size + 1, 0, none⟩ = some (.int .i64 xb) ∧ wo1.drew.cell? ⟨w.heap.size + 1, 1, none⟩ = some (.slice A3 n3 c3) ∧ wo1.drew.cell? ⟨w.heap.size, 0, none⟩ = some (.int .i64 k) ∧ wo1.drew.cell? ⟨w.heap.size, 1, none⟩ = some (.bool b) ∧ wo1.drew.cell? ⟨w.heap.size, 2, none⟩ = some (.int .i64 i) ∧ wo1.drew.cell? ⟨w.heap.size, 3, none⟩ = some (.string s) ∧ wo1.drew.cell? ⟨w.heap.size, 4, none⟩ = some (.slice A n c) ∧ wo1.drew.cell? ⟨w.heap.size, 5, none⟩ = some (.slice A2 n2 c2)) := keepS wo1 _ ⟨hO1, hO1.c 0 0, hO1.c 0 1, hO1.c 1 0, hO1.c 1 1, hO1.c 1 2, hO1.c 1 3, hO1.c 1 4, hO1.c 1 5⟩ ((Below.refl _ _).drew)
 replace keepS := Lib.hid keepS
 have CV := fun w' (hq : OwnB w w' [(w.heap.size + 1, [.int .i64 xb, .slice A3 n3 c3]), (w.heap.size, [.int .i64 k, .bool b, .int .i64 i, .string s, .slice A n c, .slice A2 n2 c2])]) => vvalid_any g v k b i s A n c A2 n2 c2 w' (RVl.at_ h hq.below)
 replace CV := Lib.hid CV
 have HF := fun w' (hq : OwnB w w' [(w.heap.size + 1, [.int .i64 xb, .slice A3 n3 c3]), (w.heap.size, [.int .i64 k, .bool b, .int .i64 i, .string s, .slice A n c, .slice A2 n2 c2])]) => RVl.at_ h hq.below
 have HT := fun w' (hq : OwnB w w' [(w.heap.size + 1, [.int .i64 xb, .slice A3 n3 c3]), (w.heap.size, [.int .i64 k, .bool b, .int .i64 i, .string s, .slice A n c, .slice A2 n2 c2])]) => RTf.at_ ht hq.below
 replace HF := Lib.hid HF
 replace HT := Lib.hid HT
 obtain ⟨vv, hvv⟩ : ∃ vv, vv = validV v := ⟨_, rfl⟩
 replace hvv := Lib.hid hvv
 by_cases hz : vv = 0
 ·
  have hv : fitsS v t = subS (ofV (findV 16 v)) t := by unfold fitsS; rw [← hvv.out, decide_eq_true hz, Bool.true_and]
  have hck : chkV 16 v = 0 := by rw [← hz, hvv.out]; rfl
  subst hz
  replace hv := Lib.hid hv
  replace hck := Lib.hid hck
  refine wp_region_held_drew (S := fun w' => OwnB w w' [(w.heap.size + 1, [.int .i64 xb, .slice A3 n3 c3]), (w.heap.size, [.int .i64 k, .bool b, .int .i64 i, .string s, .slice A n c, .slice A2 n2 c2])] ∧ w'.cell? ⟨w.heap.size + 1, 0, none⟩ = some (.int .i64 xb) ∧ w'.cell? ⟨w.heap.size + 1, 1, none⟩ = some (.slice A3 n3 c3) ∧ w'.cell? ⟨w.heap.size, 0, none⟩ = some (.int .i64 k) ∧ w'.cell? ⟨w.heap.size, 1, none⟩ = some (.bool b) ∧ w'.cell? ⟨w.heap.size, 2, none⟩ = some (.int .i64 i) ∧ w'.cell? ⟨w.heap.size, 3, none⟩ = some (.string s) ∧ w'.cell? ⟨w.heap.size, 4, none⟩ = some (.slice A n c) ∧ w'.cell? ⟨w.heap.size, 5, none⟩ = some (.slice A2 n2 c2)) (by kernel_rfl) ?_ (fun hHeld => ?_)
  ·
   (try dsimp only)
   exact hS1
  refine tkY 0 (v := ?v86) rfl (.inl ⟨by rfl, ?hy86⟩) ?rest86
  case hy86 => (intro w hSw; (try dsimp only at hSw); go_simp; try with_reducible rfl)
  simp only [Act.put, List.getElem_toArray, List.getElem_cons_zero, List.setIfInBounds_toArray, List.set_cons_zero, List.set_cons_succ]
  refine wpAnyH_ready (rs := [1]) (by kernel_rfl) (by simp) ?_
  refine AllReadyH.cons rfl (fun K hK => ?_) AllReadyH.nil
  go_simp
  go_at_call 34
  refine (CV.out _ hHeld.1).mono ?_
  rintro e w7 ⟨rfl, hbq⟩
  rw [← hvv.out]
  dsimp only
  refine hK.out _ _ ?_ (fun hHeld => ?_)
  ·
   (try dsimp only)
   exact keepS.out _ _ hHeld hbq
  clear hK K
  try simp only [Act.put, List.getElem_toArray, List.getElem_cons_zero, List.getElem_cons_succ, List.setIfInBounds_toArray, List.set_cons_zero, List.set_cons_succ]
  refine tkY 2 (v := ?v87) rfl (.inl ⟨by rfl, ?hy87⟩) ?rest87
  case hy87 => (intro w hSw; (try dsimp only at hSw); go_simp; try with_reducible rfl)
  simp only [Act.put, List.getElem_toArray, List.getElem_cons_zero, List.getElem_cons_succ, List.setIfInBounds_toArray, List.set_cons_zero, List.set_cons_succ]
  refine tkY 3 (v := ?v88) rfl (.inl ⟨by rfl, ?hy88⟩) ?rest88
  case hy88 => (intro w hSw; (try dsimp only at hSw); go_simp; try with_reducible rfl)
  simp only [Act.put, List.getElem_toArray, List.getElem_cons_zero, List.getElem_cons_succ, List.setIfInBounds_toArray, List.set_cons_zero, List.set_cons_succ]
  refine tkY 4 (v := ?v89) rfl (.inl ⟨by rfl, ?hy89⟩) ?rest89
  case hy89 => (intro w hSw; (try dsimp only at hSw); go_simp; try with_reducible rfl)
  simp only [Act.put, List.getElem_toArray, List.getElem_cons_zero, List.getElem_cons_succ, List.setIfInBounds_toArray, List.set_cons_zero, List.set_cons_succ]
  refine tkY 6 (v := ?v90) rfl (.inl ⟨by rfl, ?hy90⟩) ?rest90
  case hy90 => (intro w hSw; (try dsimp only at hSw); go_simp; try with_reducible rfl)
  simp only [Act.put, List.getElem_toArray, List.getElem_cons_zero, List.getElem_cons_succ, List.setIfInBounds_toArray, List.set_cons_zero, List.set_cons_succ]
  refine wpAnyH_ready (rs := [5]) (by kernel_rfl) (by simp) ?_
  refine AllReadyH.cons rfl (fun K hK => ?_) AllReadyH.nil
  go_simp
  go_at_call 36
  refine (find_any 16 g v k b i s A n c A2 n2 c2 _ hck.out (HF.out _ hHeld.1)).mono ?_
  rintro e w7 ⟨A9, n9, c9, rfl, hr9, hbq⟩
  dsimp only
  refine hK.out _ _ ?_ (fun hHeld => ?_)
  ·
   (try dsimp only)
   exact keepS.out _ _ hHeld hbq
  clear hK K
  try simp only [Act.put, List.getElem_toArray, List.getElem_cons_zero, List.getElem_cons_succ, List.setIfInBounds_toArray, List.set_cons_zero, List.set_cons_succ]
  refine wpAnyH_ready (rs := [7]) (by kernel_rfl) (by simp) ?_
  refine AllReadyH.cons rfl (fun K hK => ?_) AllReadyH.nil
  go_simp
  go_at_call 19
  refine (sub_any (findV 16 v).depth gb (ofV (findV 16 v)) t _ A9 n9 c9 xb A3 n3 c3 _ (RV.ty (hr9.imp (fun b h => h.elim False.elim (fun h => h.2)))) (HT.out _ (hHeld).1)).mono ?_
  rintro e w7 ⟨rfl, hbq⟩
  dsimp only
  refine hK.out _ _ ?_ (fun hHeld => ?_)
  ·
   (try dsimp only)
   exact keepS.out _ _ hHeld hbq
  clear hK K
  try simp only [Act.put, List.getElem_toArray, List.getElem_cons_zero, List.getElem_cons_succ, List.setIfInBounds_toArray, List.set_cons_zero, List.set_cons_succ]
  refine tkY 8 (v := ?v91) rfl (.inl ⟨by rfl, ?hy91⟩) ?rest91
  case hy91 => (intro w hSw; (try dsimp only at hSw); go_simp; try with_reducible rfl)
  simp only [Act.put, List.getElem_toArray, List.getElem_cons_zero, List.getElem_cons_succ, List.setIfInBounds_toArray, List.set_cons_zero, List.set_cons_succ]
  refine tkY 9 (v := ?v92) rfl (.inl ⟨by rfl, ?hy92⟩) ?rest92
  case hy92 => (intro w hSw; (try dsimp only at hSw); go_simp; try with_reducible rfl)
  simp only [Act.put, List.getElem_toArray, List.getElem_cons_zero, List.getElem_cons_succ, List.setIfInBounds_toArray, List.set_cons_zero, List.set_cons_succ]
  refine wpAnyH_done (by kernel_rfl) ?_ _
  have hb := hHeld.1.below
  repeat' ((fail_if_success at_builtin); (first | go_skip | go_guarded | go_step))
  go_ret
  exact ⟨retB (by rw [hv.out]), hb⟩
 ·
  have hv : fitsS v t = false := by unfold fitsS; rw [← hvv.out, decide_eq_false hz, Bool.false_and]
  have hz2 : (vv == 0) = false := by simpa using hz
  clear hz
  replace hv := Lib.hid hv
  refine wp_region_held_drew (S := fun w' => OwnB w w' [(w.heap.size + 1, [.int .i64 xb, .slice A3 n3 c3]), (w.heap.size, [.int .i64 k, .bool b, .int .i64 i, .string s, .slice A n c, .slice A2 n2 c2])] ∧ w'.cell? ⟨w.heap.size + 1, 0, none⟩ = some (.int .i64 xb) ∧ w'.cell? ⟨w.heap.size + 1, 1, none⟩ = some (.slice A3 n3 c3) ∧ w'.cell? ⟨w.heap.size, 0, none⟩ = some (.int .i64 k) ∧ w'.cell? ⟨w.heap.size, 1, none⟩ = some (.bool b) ∧ w'.cell? ⟨w.heap.size, 2, none⟩ = some (.int .i64 i) ∧ w'.cell? ⟨w.heap.size, 3, none⟩ = some (.string s) ∧ w'.cell? ⟨w.heap.size, 4, none⟩ = some (.slice A n c) ∧ w'.cell? ⟨w.heap.size, 5, none⟩ = some (.slice A2 n2 c2)) (by kernel_rfl) ?_ (fun hHeld => ?_)
  ·
   (try dsimp only)
   exact hS1
  refine tkY 0 (v := ?v93) rfl (.inl ⟨by rfl, ?hy93⟩) ?rest93
  case hy93 => (intro w hSw; (try dsimp only at hSw); go_simp; try with_reducible rfl)
  simp only [Act.put, List.getElem_toArray, List.getElem_cons_zero, List.setIfInBounds_toArray, List.set_cons_zero, List.set_cons_succ]
  refine wpAnyH_ready (rs := [1]) (by kernel_rfl) (by simp) ?_
  refine AllReadyH.cons rfl (fun K hK => ?_) AllReadyH.nil
  go_simp
  go_at_call 34
  refine (CV.out _ hHeld.1).mono ?_
  rintro e w7 ⟨rfl, hbq⟩
  rw [← hvv.out]
  dsimp only
  refine hK.out _ _ ?_ (fun hHeld => ?_)
  ·
   (try dsimp only)
   exact keepS.out _ _ hHeld hbq
  clear hK K
  try simp only [Act.put, List.getElem_toArray, List.getElem_cons_zero, List.getElem_cons_succ, List.setIfInBounds_toArray, List.set_cons_zero, List.set_cons_succ]
  refine tkY 2 (v := ?v94) rfl (.inl ⟨by rfl, ?hy94⟩) ?rest94
  case hy94 => (intro w hSw; (try dsimp only at hSw); go_simp; try with_reducible rfl)
  simp only [Act.put, List.getElem_toArray, List.getElem_cons_zero, List.getElem_cons_succ, List.setIfInBounds_toArray, List.set_cons_zero, List.set_cons_succ]
  refine tkY 3 (v := ?v95) rfl (.inl ⟨by rfl, ?hy95⟩) ?rest95
  case hy95 => (intro w hSw; (try dsimp only at hSw); go_simp; try with_reducible rfl)
  simp only [Act.put, List.getElem_toArray, List.getElem_cons_zero, List.getElem_cons_succ, List.setIfInBounds_toArray, List.set_cons_zero, List.set_cons_succ]
  refine tkN 4 rfl ?_
  simp only [Act.put, List.getElem_toArray, List.getElem_cons_zero, List.getElem_cons_succ, List.setIfInBounds_toArray, List.set_cons_zero, List.set_cons_succ]
  refine tkN 5 rfl ?_
  simp only [Act.put, List.getElem_toArray, List.getElem_cons_zero, List.getElem_cons_succ, List.setIfInBounds_toArray, List.set_cons_zero, List.set_cons_succ]
  refine tkN 6 rfl ?_
  simp only [Act.put, List.getElem_toArray, List.getElem_cons_zero, List.getElem_cons_succ, List.setIfInBounds_toArray, List.set_cons_zero, List.set_cons_succ]
  refine tkN 7 rfl ?_
  simp only [Act.put, List.getElem_toArray, List.getElem_cons_zero, List.getElem_cons_succ, List.setIfInBounds_toArray, List.set_cons_zero, List.set_cons_succ]
  refine tkY 8 (v := ?v96) rfl (.inl ⟨by rfl, ?hy96⟩) ?rest96
  case hy96 => (intro w hSw; (try dsimp only at hSw); go_simp; try with_reducible rfl)
  simp only [Act.put, List.getElem_toArray, List.getElem_cons_zero, List.getElem_cons_succ, List.setIfInBounds_toArray, List.set_cons_zero, List.set_cons_succ]
  refine tkY 9 (v := ?v97) rfl (.inl ⟨by rfl, ?hy97⟩) ?rest97
  case hy97 => (intro w hSw; (try dsimp only at hSw); go_simp; try with_reducible rfl)
  simp only [Act.put, List.getElem_toArray, List.getElem_cons_zero, List.getElem_cons_succ, List.setIfInBounds_toArray, List.set_cons_zero, List.set_cons_succ]
  refine wpAnyH_done (by kernel_rfl) ?_ _
  have hb := hHeld.1.below
  repeat' ((fail_if_success at_builtin); (first | go_skip | go_guarded | go_step))
  go_ret
  exact ⟨retB (by rw [hv.out]), hb⟩
set_option maxRecDepth 100000 in
set_option maxHeartbeats 4000000 in
theorem rfits_any (g : Nat) (v : Vl) (k : Int) (b : Bool) (i : Int) (s : ByteArray) (A : Option Addr) (n c : Nat) (A2 : Option Addr) (n2 c2 : Nat) (gb : Nat) (t : Ty) (xb : Int) (A3 : Option Addr) (n3 c3 : Nat) (w : World) (h : RVl g w (fun b => b < w.heap.size) v [.int .i64 k, .bool b, .int .i64 i, .string s, .slice A n c, .slice A2 n2 c2]) (ht : RTf gb w (fun b => b < w.heap.size) t [.int .i64 xb, .slice A3 n3 c3]) :
  Calls Tryd.prog 18 #[.agg #[.int .i64 k, .bool b, .int .i64 i, .string s, .slice A n c, .slice A2 n2 c2], .agg #[.int .i64 xb, .slice A3 n3 c3]] w fun e w' => e = .returned (.bool (fitsS v t)) ∧ Below w.heap.size w w' := by
 go_enter Tryd.func18, Tryd.ntmps18
 go_upto_region 1 with (fail)
 generalize hx_ : World.alloc (World.alloc w _) _ = wo1
 have hO1 : OwnB w wo1 [(w.heap.size + 1, [.int .i64 xb, .slice A3 n3 c3]), (w.heap.size, [.int .i64 k, .bool b, .int .i64 i, .string s, .slice A n c, .slice A2 n2 c2])] := by rw [← hx_]; exact ((OwnB.refl w).new #[.int .i64 k, .bool b, .int .i64 i, .string s, .slice A n c, .slice A2 n2 c2] _ (g := w.heap.size)).new #[.int .i64 xb, .slice A3 n3 c3] _ (g := w.heap.size + 1)
 clear hx_
 have c0_0 := hO1.c 0 0
 have c0_1 := hO1.c 0 1
 have cf0 := hO1.fr 0
 have c1_0 := hO1.c 1 0
 have c1_1 := hO1.c 1 1
 have c1_2 := hO1.c 1 2
 have c1_3 := hO1.c 1 3
 have c1_4 := hO1.c 1 4
 have c1_5 := hO1.c 1 5
 have cf1 := hO1.fr 1
 have keepS : ∀ v1 v2 : World, (OwnB w v1 [(w.heap.size + 1, [.int .i64 xb, .slice A3 n3 c3]), (w.heap.size, [.int .i64 k, .bool b, .int .i64 i, .string s, .slice A n c, .slice A2 n2 c2])] ∧ v1.cell? ⟨w.heap.size + 1, 0, none⟩ = some (.int .i64 xb) ∧ v1.cell? ⟨w.heap.size + 1, 1, none⟩ = some (.slice A3 n3 c3) ∧ v1.cell? ⟨w.heap.size, 0, none⟩ = some (.int .i64 k) ∧ v1.cell? ⟨w.heap.size, 1, none⟩ = some (.bool b) ∧ v1.cell? ⟨w.heap.size, 2, none⟩ = some (.int .i64 i) ∧ v1.cell? ⟨w.heap.size, 3, none⟩ = some (.string s) ∧ v1.cell? ⟨w.heap.size, 4, none⟩ = some (.slice A n c) ∧ v1.cell? ⟨w.heap.size, 5, none⟩ = some (.slice A2 n2 c2)) → Below v1.heap.size v1 v2 → (OwnB w v2 [(w.heap.size + 1, [.int .i64 xb, .slice A3 n3 c3]), (w.heap.size, [.int .i64 k, .bool b, .int .i64 i, .string s, .slice A n c, .slice A2 n2 c2])] ∧ v2.cell? ⟨w.heap.size + 1, 0, none⟩ = some (.int .i64 xb) ∧ v2.cell? ⟨w.heap.size + 1, 1, none⟩ = some (.slice A3 n3 c3) ∧ v2.cell? ⟨w.heap.size, 0, none⟩ = some (.int .i64 k) ∧ v2.cell? ⟨w.heap.size, 1, none⟩ = some (.bool b) ∧ v2.cell? ⟨w.heap.size, 2, none⟩ = some (.int .i64 i) ∧ v2.cell? ⟨w.heap.size, 3, none⟩ = some (.string s) ∧ v2.cell? ⟨w.heap.size, 4, none⟩ = some (.slice A n c) ∧ v2.cell? ⟨w.heap.size, 5, none⟩ = some (.slice A2 n2 c2)) := fun v1 v2 h hb => ⟨h.1.kept hb, (h.1.kept hb).c 0 0, (h.1.kept hb).c 0 1, (h.1.kept hb).c 1 0, (h.1.kept hb).c 1 1, (h.1.kept hb).c 1 2, (h.1.kept hb).c 1 3, (h.1.kept hb).c 1 4, (h.1.kept hb).c 1 5⟩
 have hS1 : (OwnB w wo1.drew [(w.heap.size + 1, [.int .i64 xb, .slice A3 n3 c3]), (w.heap.size, [.int .i64 k, .bool b, .int .i64 i, .string s, .slice A n c, .slice A2 n2 c2])] ∧ wo1.drew.cell? ⟨w.heap.size + 1, 0, none⟩ = some (.int .i64 xb) ∧ wo1.drew.cell? ⟨w.heap.size + 1, 1, none⟩ = some (.slice A3 n3 c3) ∧ wo1.drew.cell? ⟨w.heap.size, 0, none⟩ = some (.int .i64 k) ∧ wo1.drew.cell? ⟨w.heap.size, 1, none⟩ = some (.bool b) ∧ wo1.drew.cell? ⟨w.heap.size, 2, none⟩ = some (.int .i64 i) ∧ wo1.drew.cell? ⟨w.heap.size, 3, none⟩ = some (.string s) ∧ wo1.drew.cell? ⟨w.heap.size, 4, none⟩ = some (.slice A n c) ∧ wo1.drew.cell? ⟨w.heap.size, 5, none⟩ = some (.slice A2 n2 c2)) := keepS wo1 _ ⟨hO1, hO1.c 0 0, hO1.c 0 1, hO1.c 1 0, hO1.c 1 1, hO1.c 1 2, hO1.c 1 3, hO1.c 1 4, hO1.c 1 5⟩ ((Below.refl _ _).drew)
 replace keepS := Lib.hid keepS
 have CV := fun w' (hq : OwnB w w' [(w.heap.size + 1, [.int .i64 xb, .slice A3 n3 c3]), (w.heap.size, [.int .i64 k, .bool b, .int .i64 i, .string s, .slice A n c, .slice A2 n2 c2])]) => rvalidV_any g v k b i s A n c A2 n2 c2 w' (RVl.at_ h hq.below)
 replace CV := Lib.hid CV
 have HF := fun w' (hq : OwnB w w' [(w.heap.size + 1, [.int .i64 xb, .slice A3 n3 c3]), (w.heap.size, [.int .i64 k, .bool b, .int .i64 i, .string s, .slice A n c, .slice A2 n2 c2])]) => RVl.at_ h hq.below
 have HT := fun w' (hq : OwnB w w' [(w.heap.size + 1, [.int .i64 xb, .slice A3 n3 c3]), (w.heap.size, [.int .i64 k, .bool b, .int .i64 i, .string s, .slice A n c, .slice A2 n2 c2])]) => RTf.at_ ht hq.below
 replace HF := Lib.hid HF
 replace HT := Lib.hid HT
 obtain ⟨vv, hvv⟩ : ∃ vv, vv = validV v := ⟨_, rfl⟩
 replace hvv := Lib.hid hvv
 by_cases hz : vv = 0
 ·
  have hck : chkV 16 v = 0 := by rw [← hz, hvv.out]; rfl
  have hv : fitsS v t = subS (ofV (findV 16 v)) t := by unfold fitsS; rw [← hvv.out, decide_eq_true hz, Bool.true_and]
  unfold subS at hv
  rw [find_okV hck] at hv
  subst hz
  replace hck := Lib.hid hck
  obtain ⟨tt, htt⟩ : ∃ tt, tt = validT t := ⟨_, rfl⟩
  replace htt := Lib.hid htt
  cases hot : okV t with
  | some bt =>
   rw [hot] at hv
   obtain ⟨h0, hbt, _, rfl⟩ := okV_some hot
   have hz : tt = 0 := by rw [htt.out, h0]
   subst hz
   replace hbt := Lib.hid hbt
   have hv : fitsS v (ofV bt) = VT.sub (findV 16 v) bt := hv
   replace hv := Lib.hid hv
   clear hot h0
   refine wp_region_held_drew (S := fun w' => OwnB w w' [(w.heap.size + 1, [.int .i64 xb, .slice A3 n3 c3]), (w.heap.size, [.int .i64 k, .bool b, .int .i64 i, .string s, .slice A n c, .slice A2 n2 c2])] ∧ w'.cell? ⟨w.heap.size + 1, 0, none⟩ = some (.int .i64 xb) ∧ w'.cell? ⟨w.heap.size + 1, 1, none⟩ = some (.slice A3 n3 c3) ∧ w'.cell? ⟨w.heap.size, 0, none⟩ = some (.int .i64 k) ∧ w'.cell? ⟨w.heap.size, 1, none⟩ = some (.bool b) ∧ w'.cell? ⟨w.heap.size, 2, none⟩ = some (.int .i64 i) ∧ w'.cell? ⟨w.heap.size, 3, none⟩ = some (.string s) ∧ w'.cell? ⟨w.heap.size, 4, none⟩ = some (.slice A n c) ∧ w'.cell? ⟨w.heap.size, 5, none⟩ = some (.slice A2 n2 c2)) (by kernel_rfl) ?_ (fun hHeld => ?_)
   ·
    (try dsimp only)
    exact hS1
   refine tkY 0 (v := ?v98) rfl (.inl ⟨by rfl, ?hy98⟩) ?rest98
   case hy98 => (intro w hSw; (try dsimp only at hSw); go_simp; try with_reducible rfl)
   simp only [Act.put, List.getElem_toArray, List.getElem_cons_zero, List.setIfInBounds_toArray, List.set_cons_zero, List.set_cons_succ]
   refine wpAnyH_ready (rs := [1]) (by kernel_rfl) (by simp) ?_
   refine AllReadyH.cons rfl (fun K hK => ?_) AllReadyH.nil
   go_simp
   go_at_call 25
   refine (CV.out _ hHeld.1).mono ?_
   rintro e w7 ⟨rfl, hbq⟩
   rw [← hvv.out]
   dsimp only
   refine hK.out _ _ ?_ (fun hHeld => ?_)
   ·
    (try dsimp only)
    exact keepS.out _ _ hHeld hbq
   clear hK K
   try simp only [Act.put, List.getElem_toArray, List.getElem_cons_zero, List.getElem_cons_succ, List.setIfInBounds_toArray, List.set_cons_zero, List.set_cons_succ]
   refine tkY 2 (v := ?v99) rfl (.inl ⟨by rfl, ?hy99⟩) ?rest99
   case hy99 => (intro w hSw; (try dsimp only at hSw); go_simp; try with_reducible rfl)
   simp only [Act.put, List.getElem_toArray, List.getElem_cons_zero, List.getElem_cons_succ, List.setIfInBounds_toArray, List.set_cons_zero, List.set_cons_succ]
   refine tkY 3 (v := ?v100) rfl (.inl ⟨by rfl, ?hy100⟩) ?rest100
   case hy100 => (intro w hSw; (try dsimp only at hSw); go_simp; try with_reducible rfl)
   simp only [Act.put, List.getElem_toArray, List.getElem_cons_zero, List.getElem_cons_succ, List.setIfInBounds_toArray, List.set_cons_zero, List.set_cons_succ]
   refine tkY 4 (v := ?v101) rfl (.inl ⟨by rfl, ?hy101⟩) ?rest101
   case hy101 => (intro w hSw; (try dsimp only at hSw); go_simp; try with_reducible rfl)
   simp only [Act.put, List.getElem_toArray, List.getElem_cons_zero, List.getElem_cons_succ, List.setIfInBounds_toArray, List.set_cons_zero, List.set_cons_succ]
   refine wpAnyH_ready (rs := [5]) (by kernel_rfl) (by simp) ?_
   refine AllReadyH.cons rfl (fun K hK => ?_) AllReadyH.nil
   go_simp
   go_at_call 12
   refine (rvalid_any gb _ xb A3 n3 c3 _ (HT.out _ hHeld.1)).mono ?_
   rintro e w7 ⟨rfl, hbq⟩
   rw [← htt.out]
   dsimp only
   refine hK.out _ _ ?_ (fun hHeld => ?_)
   ·
    (try dsimp only)
    exact keepS.out _ _ hHeld hbq
   clear hK K
   try simp only [Act.put, List.getElem_toArray, List.getElem_cons_zero, List.getElem_cons_succ, List.setIfInBounds_toArray, List.set_cons_zero, List.set_cons_succ]
   refine tkY 6 (v := ?v102) rfl (.inl ⟨by rfl, ?hy102⟩) ?rest102
   case hy102 => (intro w hSw; (try dsimp only at hSw); go_simp; try with_reducible rfl)
   simp only [Act.put, List.getElem_toArray, List.getElem_cons_zero, List.getElem_cons_succ, List.setIfInBounds_toArray, List.set_cons_zero, List.set_cons_succ]
   refine tkY 7 (v := ?v103) rfl (.inl ⟨by rfl, ?hy103⟩) ?rest103
   case hy103 => (intro w hSw; (try dsimp only at hSw); go_simp; try with_reducible rfl)
   simp only [Act.put, List.getElem_toArray, List.getElem_cons_zero, List.getElem_cons_succ, List.setIfInBounds_toArray, List.set_cons_zero, List.set_cons_succ]
   refine tkY 8 (v := ?v104) rfl (.inl ⟨by rfl, ?hy104⟩) ?rest104
   case hy104 => (intro w hSw; (try dsimp only at hSw); go_simp; try with_reducible rfl)
   simp only [Act.put, List.getElem_toArray, List.getElem_cons_zero, List.getElem_cons_succ, List.setIfInBounds_toArray, List.set_cons_zero, List.set_cons_succ]
   refine tkY 9 (v := ?v105) rfl (.inl ⟨by rfl, ?hy105⟩) ?rest105
   case hy105 => (intro w hSw; (try dsimp only at hSw); go_simp; try with_reducible rfl)
   simp only [Act.put, List.getElem_toArray, List.getElem_cons_zero, List.getElem_cons_succ, List.setIfInBounds_toArray, List.set_cons_zero, List.set_cons_succ]
   refine tkY 11 (v := ?v106) rfl (.inl ⟨by rfl, ?hy106⟩) ?rest106
   case hy106 => (intro w hSw; (try dsimp only at hSw); go_simp; try with_reducible rfl)
   simp only [Act.put, List.getElem_toArray, List.getElem_cons_zero, List.getElem_cons_succ, List.setIfInBounds_toArray, List.set_cons_zero, List.set_cons_succ]
   refine wpAnyH_ready (rs := [10]) (by kernel_rfl) (by simp) ?_
   refine AllReadyH.cons rfl (fun K hK => ?_) AllReadyH.nil
   go_simp
   go_at_call 38
   refine (rof_any 16 g v k b i s A n c A2 n2 c2 _ hck.out (HF.out _ hHeld.1)).mono ?_
   rintro e w7 ⟨A9, n9, c9, rfl, hr9, hbq⟩
   dsimp only
   refine hK.out _ _ ?_ (fun hHeld => ?_)
   ·
    (try dsimp only)
    exact keepS.out _ _ hHeld hbq
   clear hK K
   try simp only [Act.put, List.getElem_toArray, List.getElem_cons_zero, List.getElem_cons_succ, List.setIfInBounds_toArray, List.set_cons_zero, List.set_cons_succ]
   refine wpAnyH_ready (rs := [12]) (by kernel_rfl) (by simp) ?_
   refine AllReadyH.cons rfl (fun K hK => ?_) AllReadyH.nil
   go_simp
   go_at_call 39
   refine (contained_any (findV 16 v) bt _ A9 n9 c9 xb A3 n3 c3 _ (findV_ok 16 v) hbt.out (hr9.imp (fun b h => h.elim False.elim (fun h => h.2))) (RTf.valid (HT.out _ hHeld.1))).mono ?_
   rintro e w7 ⟨rfl, hbq⟩
   dsimp only
   refine hK.out _ _ ?_ (fun hHeld => ?_)
   ·
    (try dsimp only)
    exact keepS.out _ _ hHeld hbq
   clear hK K
   try simp only [Act.put, List.getElem_toArray, List.getElem_cons_zero, List.getElem_cons_succ, List.setIfInBounds_toArray, List.set_cons_zero, List.set_cons_succ]
   refine tkY 13 (v := ?v107) rfl (.inl ⟨by rfl, ?hy107⟩) ?rest107
   case hy107 => (intro w hSw; (try dsimp only at hSw); go_simp; try with_reducible rfl)
   simp only [Act.put, List.getElem_toArray, List.getElem_cons_zero, List.getElem_cons_succ, List.setIfInBounds_toArray, List.set_cons_zero, List.set_cons_succ]
   refine tkY 14 (v := ?v108) rfl (.inl ⟨by rfl, ?hy108⟩) ?rest108
   case hy108 => (intro w hSw; (try dsimp only at hSw); go_simp; try with_reducible rfl)
   simp only [Act.put, List.getElem_toArray, List.getElem_cons_zero, List.getElem_cons_succ, List.setIfInBounds_toArray, List.set_cons_zero, List.set_cons_succ]
   refine wpAnyH_done (by kernel_rfl) ?_ _
   have hb := hHeld.1.below
   repeat' ((fail_if_success at_builtin); (first | go_skip | go_guarded | go_step))
   go_ret
   exact ⟨retB (by rw [hv.out]), hb⟩
  | none =>
   rw [hot] at hv
   have hz := okV_none hot
   rw [← htt.out] at hz
   have hz2 : (tt == 0) = false := by simpa using hz
   have hv : fitsS v t = false := hv
   replace hv := Lib.hid hv
   clear hot hz
   refine wp_region_held_drew (S := fun w' => OwnB w w' [(w.heap.size + 1, [.int .i64 xb, .slice A3 n3 c3]), (w.heap.size, [.int .i64 k, .bool b, .int .i64 i, .string s, .slice A n c, .slice A2 n2 c2])] ∧ w'.cell? ⟨w.heap.size + 1, 0, none⟩ = some (.int .i64 xb) ∧ w'.cell? ⟨w.heap.size + 1, 1, none⟩ = some (.slice A3 n3 c3) ∧ w'.cell? ⟨w.heap.size, 0, none⟩ = some (.int .i64 k) ∧ w'.cell? ⟨w.heap.size, 1, none⟩ = some (.bool b) ∧ w'.cell? ⟨w.heap.size, 2, none⟩ = some (.int .i64 i) ∧ w'.cell? ⟨w.heap.size, 3, none⟩ = some (.string s) ∧ w'.cell? ⟨w.heap.size, 4, none⟩ = some (.slice A n c) ∧ w'.cell? ⟨w.heap.size, 5, none⟩ = some (.slice A2 n2 c2)) (by kernel_rfl) ?_ (fun hHeld => ?_)
   ·
    (try dsimp only)
    exact hS1
   refine tkY 0 (v := ?v109) rfl (.inl ⟨by rfl, ?hy109⟩) ?rest109
   case hy109 => (intro w hSw; (try dsimp only at hSw); go_simp; try with_reducible rfl)
   simp only [Act.put, List.getElem_toArray, List.getElem_cons_zero, List.setIfInBounds_toArray, List.set_cons_zero, List.set_cons_succ]
   refine wpAnyH_ready (rs := [1]) (by kernel_rfl) (by simp) ?_
   refine AllReadyH.cons rfl (fun K hK => ?_) AllReadyH.nil
   go_simp
   go_at_call 25
   refine (CV.out _ hHeld.1).mono ?_
   rintro e w7 ⟨rfl, hbq⟩
   rw [← hvv.out]
   dsimp only
   refine hK.out _ _ ?_ (fun hHeld => ?_)
   ·
    (try dsimp only)
    exact keepS.out _ _ hHeld hbq
   clear hK K
   try simp only [Act.put, List.getElem_toArray, List.getElem_cons_zero, List.getElem_cons_succ, List.setIfInBounds_toArray, List.set_cons_zero, List.set_cons_succ]
   refine tkY 2 (v := ?v110) rfl (.inl ⟨by rfl, ?hy110⟩) ?rest110
   case hy110 => (intro w hSw; (try dsimp only at hSw); go_simp; try with_reducible rfl)
   simp only [Act.put, List.getElem_toArray, List.getElem_cons_zero, List.getElem_cons_succ, List.setIfInBounds_toArray, List.set_cons_zero, List.set_cons_succ]
   refine tkY 3 (v := ?v111) rfl (.inl ⟨by rfl, ?hy111⟩) ?rest111
   case hy111 => (intro w hSw; (try dsimp only at hSw); go_simp; try with_reducible rfl)
   simp only [Act.put, List.getElem_toArray, List.getElem_cons_zero, List.getElem_cons_succ, List.setIfInBounds_toArray, List.set_cons_zero, List.set_cons_succ]
   refine tkY 4 (v := ?v112) rfl (.inl ⟨by rfl, ?hy112⟩) ?rest112
   case hy112 => (intro w hSw; (try dsimp only at hSw); go_simp; try with_reducible rfl)
   simp only [Act.put, List.getElem_toArray, List.getElem_cons_zero, List.getElem_cons_succ, List.setIfInBounds_toArray, List.set_cons_zero, List.set_cons_succ]
   refine wpAnyH_ready (rs := [5]) (by kernel_rfl) (by simp) ?_
   refine AllReadyH.cons rfl (fun K hK => ?_) AllReadyH.nil
   go_simp
   go_at_call 12
   refine (rvalid_any gb _ xb A3 n3 c3 _ (HT.out _ hHeld.1)).mono ?_
   rintro e w7 ⟨rfl, hbq⟩
   rw [← htt.out]
   dsimp only
   refine hK.out _ _ ?_ (fun hHeld => ?_)
   ·
    (try dsimp only)
    exact keepS.out _ _ hHeld hbq
   clear hK K
   try simp only [Act.put, List.getElem_toArray, List.getElem_cons_zero, List.getElem_cons_succ, List.setIfInBounds_toArray, List.set_cons_zero, List.set_cons_succ]
   refine tkY 6 (v := ?v113) rfl (.inl ⟨by rfl, ?hy113⟩) ?rest113
   case hy113 => (intro w hSw; (try dsimp only at hSw); go_simp; try with_reducible rfl)
   simp only [Act.put, List.getElem_toArray, List.getElem_cons_zero, List.getElem_cons_succ, List.setIfInBounds_toArray, List.set_cons_zero, List.set_cons_succ]
   refine tkY 7 (v := ?v114) rfl (.inl ⟨by rfl, ?hy114⟩) ?rest114
   case hy114 => (intro w hSw; (try dsimp only at hSw); go_simp; try with_reducible rfl)
   simp only [Act.put, List.getElem_toArray, List.getElem_cons_zero, List.getElem_cons_succ, List.setIfInBounds_toArray, List.set_cons_zero, List.set_cons_succ]
   refine tkY 8 (v := ?v115) rfl (.inl ⟨by rfl, ?hy115⟩) ?rest115
   case hy115 => (intro w hSw; (try dsimp only at hSw); go_simp; try with_reducible rfl)
   simp only [Act.put, List.getElem_toArray, List.getElem_cons_zero, List.getElem_cons_succ, List.setIfInBounds_toArray, List.set_cons_zero, List.set_cons_succ]
   refine tkN 9 rfl ?_
   simp only [Act.put, List.getElem_toArray, List.getElem_cons_zero, List.getElem_cons_succ, List.setIfInBounds_toArray, List.set_cons_zero, List.set_cons_succ]
   refine tkN 10 rfl ?_
   simp only [Act.put, List.getElem_toArray, List.getElem_cons_zero, List.getElem_cons_succ, List.setIfInBounds_toArray, List.set_cons_zero, List.set_cons_succ]
   refine tkN 11 rfl ?_
   simp only [Act.put, List.getElem_toArray, List.getElem_cons_zero, List.getElem_cons_succ, List.setIfInBounds_toArray, List.set_cons_zero, List.set_cons_succ]
   refine tkN 12 rfl ?_
   simp only [Act.put, List.getElem_toArray, List.getElem_cons_zero, List.getElem_cons_succ, List.setIfInBounds_toArray, List.set_cons_zero, List.set_cons_succ]
   refine tkY 13 (v := ?v116) rfl (.inl ⟨by rfl, ?hy116⟩) ?rest116
   case hy116 => (intro w hSw; (try dsimp only at hSw); go_simp; try with_reducible rfl)
   simp only [Act.put, List.getElem_toArray, List.getElem_cons_zero, List.getElem_cons_succ, List.setIfInBounds_toArray, List.set_cons_zero, List.set_cons_succ]
   refine tkY 14 (v := ?v117) rfl (.inl ⟨by rfl, ?hy117⟩) ?rest117
   case hy117 => (intro w hSw; (try dsimp only at hSw); go_simp; try with_reducible rfl)
   simp only [Act.put, List.getElem_toArray, List.getElem_cons_zero, List.getElem_cons_succ, List.setIfInBounds_toArray, List.set_cons_zero, List.set_cons_succ]
   refine wpAnyH_done (by kernel_rfl) ?_ _
   have hb := hHeld.1.below
   repeat' ((fail_if_success at_builtin); (first | go_skip | go_guarded | go_step))
   go_ret
   exact ⟨retB (by rw [hv.out]), hb⟩
 ·
  have hv : fitsS v t = false := by unfold fitsS; rw [← hvv.out, decide_eq_false hz, Bool.false_and]
  have hz2 : (vv == 0) = false := by simpa using hz
  clear hz
  replace hv := Lib.hid hv
  refine wp_region_held_drew (S := fun w' => OwnB w w' [(w.heap.size + 1, [.int .i64 xb, .slice A3 n3 c3]), (w.heap.size, [.int .i64 k, .bool b, .int .i64 i, .string s, .slice A n c, .slice A2 n2 c2])] ∧ w'.cell? ⟨w.heap.size + 1, 0, none⟩ = some (.int .i64 xb) ∧ w'.cell? ⟨w.heap.size + 1, 1, none⟩ = some (.slice A3 n3 c3) ∧ w'.cell? ⟨w.heap.size, 0, none⟩ = some (.int .i64 k) ∧ w'.cell? ⟨w.heap.size, 1, none⟩ = some (.bool b) ∧ w'.cell? ⟨w.heap.size, 2, none⟩ = some (.int .i64 i) ∧ w'.cell? ⟨w.heap.size, 3, none⟩ = some (.string s) ∧ w'.cell? ⟨w.heap.size, 4, none⟩ = some (.slice A n c) ∧ w'.cell? ⟨w.heap.size, 5, none⟩ = some (.slice A2 n2 c2)) (by kernel_rfl) ?_ (fun hHeld => ?_)
  ·
   (try dsimp only)
   exact hS1
  refine tkY 0 (v := ?v118) rfl (.inl ⟨by rfl, ?hy118⟩) ?rest118
  case hy118 => (intro w hSw; (try dsimp only at hSw); go_simp; try with_reducible rfl)
  simp only [Act.put, List.getElem_toArray, List.getElem_cons_zero, List.setIfInBounds_toArray, List.set_cons_zero, List.set_cons_succ]
  refine wpAnyH_ready (rs := [1]) (by kernel_rfl) (by simp) ?_
  refine AllReadyH.cons rfl (fun K hK => ?_) AllReadyH.nil
  go_simp
  go_at_call 25
  refine (CV.out _ hHeld.1).mono ?_
  rintro e w7 ⟨rfl, hbq⟩
  rw [← hvv.out]
  dsimp only
  refine hK.out _ _ ?_ (fun hHeld => ?_)
  ·
   (try dsimp only)
   exact keepS.out _ _ hHeld hbq
  clear hK K
  try simp only [Act.put, List.getElem_toArray, List.getElem_cons_zero, List.getElem_cons_succ, List.setIfInBounds_toArray, List.set_cons_zero, List.set_cons_succ]
  refine tkY 2 (v := ?v119) rfl (.inl ⟨by rfl, ?hy119⟩) ?rest119
  case hy119 => (intro w hSw; (try dsimp only at hSw); go_simp; try with_reducible rfl)
  simp only [Act.put, List.getElem_toArray, List.getElem_cons_zero, List.getElem_cons_succ, List.setIfInBounds_toArray, List.set_cons_zero, List.set_cons_succ]
  refine tkY 3 (v := ?v120) rfl (.inl ⟨by rfl, ?hy120⟩) ?rest120
  case hy120 => (intro w hSw; (try dsimp only at hSw); go_simp; try with_reducible rfl)
  simp only [Act.put, List.getElem_toArray, List.getElem_cons_zero, List.getElem_cons_succ, List.setIfInBounds_toArray, List.set_cons_zero, List.set_cons_succ]
  refine tkN 4 rfl ?_
  simp only [Act.put, List.getElem_toArray, List.getElem_cons_zero, List.getElem_cons_succ, List.setIfInBounds_toArray, List.set_cons_zero, List.set_cons_succ]
  refine tkN 5 rfl ?_
  simp only [Act.put, List.getElem_toArray, List.getElem_cons_zero, List.getElem_cons_succ, List.setIfInBounds_toArray, List.set_cons_zero, List.set_cons_succ]
  refine tkN 6 rfl ?_
  simp only [Act.put, List.getElem_toArray, List.getElem_cons_zero, List.getElem_cons_succ, List.setIfInBounds_toArray, List.set_cons_zero, List.set_cons_succ]
  refine tkY 7 (v := ?v121) rfl (.inl ⟨by rfl, ?hy121⟩) ?rest121
  case hy121 => (intro w hSw; (try dsimp only at hSw); go_simp; try with_reducible rfl)
  simp only [Act.put, List.getElem_toArray, List.getElem_cons_zero, List.getElem_cons_succ, List.setIfInBounds_toArray, List.set_cons_zero, List.set_cons_succ]
  refine tkY 8 (v := ?v122) rfl (.inl ⟨by rfl, ?hy122⟩) ?rest122
  case hy122 => (intro w hSw; (try dsimp only at hSw); go_simp; try with_reducible rfl)
  simp only [Act.put, List.getElem_toArray, List.getElem_cons_zero, List.getElem_cons_succ, List.setIfInBounds_toArray, List.set_cons_zero, List.set_cons_succ]
  refine tkN 9 rfl ?_
  simp only [Act.put, List.getElem_toArray, List.getElem_cons_zero, List.getElem_cons_succ, List.setIfInBounds_toArray, List.set_cons_zero, List.set_cons_succ]
  refine tkN 10 rfl ?_
  simp only [Act.put, List.getElem_toArray, List.getElem_cons_zero, List.getElem_cons_succ, List.setIfInBounds_toArray, List.set_cons_zero, List.set_cons_succ]
  refine tkN 11 rfl ?_
  simp only [Act.put, List.getElem_toArray, List.getElem_cons_zero, List.getElem_cons_succ, List.setIfInBounds_toArray, List.set_cons_zero, List.set_cons_succ]
  refine tkN 12 rfl ?_
  simp only [Act.put, List.getElem_toArray, List.getElem_cons_zero, List.getElem_cons_succ, List.setIfInBounds_toArray, List.set_cons_zero, List.set_cons_succ]
  refine tkY 13 (v := ?v123) rfl (.inl ⟨by rfl, ?hy123⟩) ?rest123
  case hy123 => (intro w hSw; (try dsimp only at hSw); go_simp; try with_reducible rfl)
  simp only [Act.put, List.getElem_toArray, List.getElem_cons_zero, List.getElem_cons_succ, List.setIfInBounds_toArray, List.set_cons_zero, List.set_cons_succ]
  refine tkY 14 (v := ?v124) rfl (.inl ⟨by rfl, ?hy124⟩) ?rest124
  case hy124 => (intro w hSw; (try dsimp only at hSw); go_simp; try with_reducible rfl)
  simp only [Act.put, List.getElem_toArray, List.getElem_cons_zero, List.getElem_cons_succ, List.setIfInBounds_toArray, List.set_cons_zero, List.set_cons_succ]
  refine wpAnyH_done (by kernel_rfl) ?_ _
  have hb := hHeld.1.below
  repeat' ((fail_if_success at_builtin); (first | go_skip | go_guarded | go_step))
  go_ret
  exact ⟨retB (by rw [hv.out]), hb⟩
end Go.Proofs.YtgcpffbaejodiaaDoor
