/- Typing: Join and Meet, where their results lie; what the lattice wants. -/
import Derived.Test.YtgcpffbaejodiaaDoorTyL1
import Derived.Test.YtgcpffbaejodiaaDoorTyEl
namespace Go.Proofs.YtgcpffbaejodiaaDoor
open Go.RowKit
theorem bound_of {f : VT → VT → VT} {k : Nat} {a b : VT} (ha : a.Ok) (hb : b.Ok) (hda : a.depth ≤ 16) (hdb : b.depth ≤ 16) : boundS f k (ofV a) (ofV b) = f a b := by
 unfold boundS
 rw [okV_of ha hda, okV_of hb hdb]
theorem join_dep {a b : VT} (ha : a.depth ≤ 16) (hb : b.depth ≤ 16) : (VT.join a b).depth ≤ 16 := by have := VT.join_depth a b; omega
theorem meet_dep {a b : VT} (ha : a.depth ≤ 16) (hb : b.depth ≤ 16) : (VT.meet a b).depth ≤ 16 := by have := VT.meet_depth a b; omega
theorem sub_dec {a b : VT} (ha : a.Ok) (hb : b.Ok) : decide (VT.join a b = b) = VT.sub a b := by
 rw [Bool.eq_iff_iff, decide_eq_true_iff]
 exact (VT.sub_join ha hb).symm
theorem sub_dec2 {a b : VT} (ha : a.Ok) (hb : b.Ok) : decide (VT.meet a b = a) = VT.sub a b := by
 rw [Bool.eq_iff_iff, decide_eq_true_iff]
 exact (VT.sub_meet ha hb).symm
/-- blocks that are read -/
structure RdB (w0 w : World) (L : List (Nat × List Value)) : Prop where
 below : Below w0.heap.size w0 w
 all : ∀ (i b : Nat) (cs : List Value), L[i]? = some (b, cs) → CellsAt w b cs
section
variable {w0 w w' : World} {L : List (Nat × List Value)}
theorem RdB.kept (h : RdB w0 w L) (hb : Below w.heap.size w w') : RdB w0 w' L := ⟨h.below.trans (hb.mono h.below.size), fun i b cs hi => (h.all i b cs hi).kept hb⟩
theorem RdB.push (h : RdB w0 w L) {g : Nat} {cs : List Value} (hc : CellsAt w g cs) : RdB w0 w ((g, cs) :: L) :=
 ⟨h.below, fun i b x hi => by
  cases i with
  | zero => simp at hi; obtain ⟨rfl, rfl⟩ := hi; exact hc
  | succ i => exact h.all i b x (by simpa using hi)⟩
theorem RdB.of (h : OwnB w0 w L) : RdB w0 w L := ⟨h.below, fun i b cs hi => (h.all i b cs hi).2⟩
theorem RdB.c (h : RdB w0 w L) (i j : Nat) {g : Nat} {cs : List Value} {u : Value} (hi : L[i]? = some (g, cs) := by rfl) (hj : cs[j]? = some u := by rfl) : w.cell? ⟨g, j, none⟩ = some u := (h.all i g cs hi).cell j u hj
theorem RdB.fr (h : RdB w0 w L) (i : Nat) {g : Nat} {cs : List Value} (hi : L[i]? = some (g, cs) := by rfl) : ∀ j, w.frozen? ⟨g, j, none⟩ = false := (h.all i g cs hi).fr
end
set_option maxRecDepth 100000 in
set_option maxHeartbeats 2000000 in
theorem tjoinB_any (ga gb : Nat) (t u : Ty) (xa : Int) (A : Option Addr) (n c : Nat) (xb : Int) (A2 : Option Addr) (n2 c2 : Nat) (w : World) (B : Nat) (hB : B ≤ w.heap.size) (ha0 : RTf ga w (fun b => b < B) t [.int .i64 xa, .slice A n c]) (hb0_ : RTf gb w (fun b => b < B) u [.int .i64 xb, .slice A2 n2 c2]) :
  Calls Tryd.prog 21 #[.agg #[.int .i64 xa, .slice A n c], .agg #[.int .i64 xb, .slice A2 n2 c2]] w fun e w' => RetT w (fun b => b < B) (boundS VT.join 0 t u) e w' := by
 have ha := RTf_ok ga _ _ _ (fun b => b < w.heap.size) _ _ (fun _ _ => rfl) (fun _ h => Nat.lt_of_lt_of_le h hB) ha0
 have hb0 := RTf_ok gb _ _ _ (fun b => b < w.heap.size) _ _ (fun _ _ => rfl) (fun _ h => Nat.lt_of_lt_of_le h hB) hb0_
 go_enter Tryd.func21, Tryd.ntmps21
 go_upto_region 1 with (fail)
 generalize hx_ : World.alloc (World.alloc (World.alloc w _) _) _ = wo1
 have hO1 : OwnB w wo1 [(w.heap.size + 2, [.int .i64 0, .slice none 0 0]), (w.heap.size + 1, [.int .i64 xb, .slice A2 n2 c2]), (w.heap.size, [.int .i64 xa, .slice A n c])] := by rw [← hx_]; exact (((OwnB.refl w).new #[.int .i64 xa, .slice A n c] _ (g := w.heap.size)).new #[.int .i64 xb, .slice A2 n2 c2] _ (g := w.heap.size + 1)).new #[.int .i64 0, .slice none 0 0] _ (g := w.heap.size + 2)
 clear hx_
 have c0_0 := hO1.c 0 0
 have c0_1 := hO1.c 0 1
 have cf0 := hO1.fr 0
 have c1_0 := hO1.c 1 0
 have c1_1 := hO1.c 1 1
 have cf1 := hO1.fr 1
 have c2_0 := hO1.c 2 0
 have c2_1 := hO1.c 2 1
 have cf2 := hO1.fr 2
 have hb1 := hO1.below
 have h1 := Lib.hid (RTf.at_ ha hb1)
 have h2 := Lib.hid (RTf.at_ hb0 hb1)
 repeat' ((fail_if_success at_builtin); (first | go_skip | go_guarded | go_step))
 refine (both_any ga gb t u xa A n c xb A2 n2 c2 _ h1.out h2.out).mono ?_
 rintro e w2 ⟨rfl, hb2⟩
 dsimp only
 have hO2 : OwnB w w2 [(w.heap.size + 2, [.int .i64 0, .slice none 0 0]), (w.heap.size + 1, [.int .i64 xb, .slice A2 n2 c2]), (w.heap.size, [.int .i64 xa, .slice A n c])] := hO1.kept hb2
 clear c0_0 c0_1 cf0 c1_0 c1_1 cf1 c2_0 c2_1 cf2 hO1
 have c0_0 := hO2.c 0 0
 have c0_1 := hO2.c 0 1
 have cf0 := hO2.fr 0
 have c1_0 := hO2.c 1 0
 have c1_1 := hO2.c 1 1
 have cf1 := hO2.fr 1
 have c2_0 := hO2.c 2 0
 have c2_1 := hO2.c 2 1
 have cf2 := hO2.fr 2
 have hb3 := hO2.below
 have hl4 := hO2.lt 0
 cases hbo : bothT t u with
 | false =>
  have hv : boundS VT.join 0 t u = VT.base 0 := bound_not hbo
  replace hv := Lib.hid hv
  clear hbo
  repeat' ((fail_if_success at_builtin); (first | go_skip | go_guarded | go_step))
  refine (scalar_any (0 : Int) _).mono ?_
  rintro e9 w9 ⟨rfl, hb9⟩
  dsimp only
  have hO3 : OwnB w w9 [(w.heap.size + 2, [.int .i64 0, .slice none 0 0]), (w.heap.size + 1, [.int .i64 xb, .slice A2 n2 c2]), (w.heap.size, [.int .i64 xa, .slice A n c])] := hO2.kept hb9
  clear c0_0 c0_1 cf0 c1_0 c1_1 cf1 c2_0 c2_1 cf2 hO2
  have c0_0 := hO3.c 0 0
  have c0_1 := hO3.c 0 1
  have cf0 := hO3.fr 0
  have c1_0 := hO3.c 1 0
  have c1_1 := hO3.c 1 1
  have cf1 := hO3.fr 1
  have c2_0 := hO3.c 2 0
  have c2_1 := hO3.c 2 1
  have cf2 := hO3.fr 2
  repeat' ((fail_if_success at_builtin); (first | go_skip | go_guarded | go_step))
  generalize hx_ : World.setCell (World.setCell _ _ _) _ _ = wo4
  have hO4 : OwnB w wo4 [(w.heap.size + 2, [.int .i64 0, .slice none 0 0]), (w.heap.size + 1, [.int .i64 xb, .slice A2 n2 c2]), (w.heap.size, [.int .i64 xa, .slice A n c])] := by rw [← hx_]; exact (hO3.store 0 rfl 0 _).store 0 rfl 1 _
  clear hx_ c0_0 c0_1 cf0 c1_0 c1_1 cf1 c2_0 c2_1 cf2 hO3
  have c0_0 := hO4.c 0 0
  have c0_1 := hO4.c 0 1
  have cf0 := hO4.fr 0
  have c1_0 := hO4.c 1 0
  have c1_1 := hO4.c 1 1
  have cf1 := hO4.fr 1
  have c2_0 := hO4.c 2 0
  have c2_1 := hO4.c 2 1
  have cf2 := hO4.fr 2
  have hb := hO4.below
  refine bodyPost_ret (v := .agg #[.int .i64 0, .slice none 0 0]) (by simp only [results, Tryd.results21]; go_simp; first | done | exact ⟨rfl, rfl, rfl⟩ | rfl) rfl ?_
  exact retT_eq hv.out ⟨none, 0, 0, rfl, rv_scalar _ _ 0, hb⟩
 | true =>
  obtain ⟨a, b, e1, e2⟩ := both_parts hbo
  have hv : boundS VT.join 0 t u = VT.join a b := by unfold boundS; rw [e1, e2]
  replace hv := Lib.hid hv
  obtain ⟨_, a1, _, rfl⟩ := okV_some e1
  obtain ⟨_, b1, _, rfl⟩ := okV_some e2
  have hSb : ∀ b, b < B → b < w.heap.size := fun _ h => Nat.lt_of_lt_of_le h hB
  have hSd := Lib.hid (fun b (h : b < B) => (show b < w2.heap.size from Nat.lt_of_lt_of_le (Nat.lt_of_lt_of_le h hB) hb3.size))
  have r1 := Lib.hid (RV.at_ ha0.valid hSb hb3)
  have r2 := Lib.hid (RV.at_ hb0_.valid hSb hb3)
  clear hbo e1 e2
  repeat' ((fail_if_success at_builtin); (first | go_skip | go_guarded | go_step))
  refine (join_any a b xa A n c xb A2 n2 c2 _ (fun b => b < B) a1 b1 hSd.out r1.out r2.out).mono ?_
  rintro e9 w9 ⟨A9, n9, c9, rfl, hr9, hb9⟩
  dsimp only
  have hO3 : OwnB w w9 [(w.heap.size + 2, [.int .i64 0, .slice none 0 0]), (w.heap.size + 1, [.int .i64 xb, .slice A2 n2 c2]), (w.heap.size, [.int .i64 xa, .slice A n c])] := hO2.kept hb9
  clear c0_0 c0_1 cf0 c1_0 c1_1 cf1 c2_0 c2_1 cf2 hO2
  have c0_0 := hO3.c 0 0
  have c0_1 := hO3.c 0 1
  have cf0 := hO3.fr 0
  have c1_0 := hO3.c 1 0
  have c1_1 := hO3.c 1 1
  have cf1 := hO3.fr 1
  have c2_0 := hO3.c 2 0
  have c2_1 := hO3.c 2 1
  have cf2 := hO3.fr 2
  repeat' ((fail_if_success at_builtin); (first | go_skip | go_guarded | go_step))
  have hr8 := RV.back (s0 := w.heap.size) (b4 := w.heap.size + 2) (.int .i64 ((VT.join a b).kind : Int)) (.slice A9 n9 c9) hr9 (Below.refl _ w9) hSb (by omega) hl4 hb9.size
  generalize hx_ : World.setCell (World.setCell w9 _ _) _ _ = w8 at hr8 ⊢
  have hO8 : OwnB w w8 [(w.heap.size + 2, [.int .i64 ((VT.join a b).kind : Int), .slice A9 n9 c9]), (w.heap.size + 1, [.int .i64 xb, .slice A2 n2 c2]), (w.heap.size, [.int .i64 xa, .slice A n c])] := by rw [← hx_]; exact (hO3.store 0 rfl 0 _).store 0 rfl 1 _
  have hs9 : w9.heap.size ≤ w8.heap.size := by rw [← hx_]; simp [World.setCell]
  clear hx_ c0_0 c0_1 cf0 c1_0 c1_1 cf1 c2_0 c2_1 cf2 hO3
  have r0 := hO8.c 0 0
  have r1 := hO8.c 0 1
  have hb := hO8.below
  refine bodyPost_ret (v := .agg #[.int .i64 ((VT.join a b).kind : Int), .slice A9 n9 c9]) (by simp only [results, Tryd.results21]; go_simp; first | done | exact ⟨rfl, rfl, rfl⟩ | rfl) rfl ?_
  exact retT_eq hv.out ⟨A9, n9, c9, rfl, hr8.imp (fun b h => h.imp id (fun h => ⟨h.1, by omega⟩)), hb⟩
set_option maxRecDepth 100000 in
set_option maxHeartbeats 2000000 in
theorem tmeetB_any (ga gb : Nat) (t u : Ty) (xa : Int) (A : Option Addr) (n c : Nat) (xb : Int) (A2 : Option Addr) (n2 c2 : Nat) (w : World) (B : Nat) (hB : B ≤ w.heap.size) (ha0 : RTf ga w (fun b => b < B) t [.int .i64 xa, .slice A n c]) (hb0_ : RTf gb w (fun b => b < B) u [.int .i64 xb, .slice A2 n2 c2]) :
  Calls Tryd.prog 23 #[.agg #[.int .i64 xa, .slice A n c], .agg #[.int .i64 xb, .slice A2 n2 c2]] w fun e w' => RetT w (fun b => b < B) (boundS VT.meet 7 t u) e w' := by
 have ha := RTf_ok ga _ _ _ (fun b => b < w.heap.size) _ _ (fun _ _ => rfl) (fun _ h => Nat.lt_of_lt_of_le h hB) ha0
 have hb0 := RTf_ok gb _ _ _ (fun b => b < w.heap.size) _ _ (fun _ _ => rfl) (fun _ h => Nat.lt_of_lt_of_le h hB) hb0_
 go_enter Tryd.func23, Tryd.ntmps23
 go_upto_region 1 with (fail)
 generalize hx_ : World.alloc (World.alloc (World.alloc w _) _) _ = wo1
 have hO1 : OwnB w wo1 [(w.heap.size + 2, [.int .i64 0, .slice none 0 0]), (w.heap.size + 1, [.int .i64 xb, .slice A2 n2 c2]), (w.heap.size, [.int .i64 xa, .slice A n c])] := by rw [← hx_]; exact (((OwnB.refl w).new #[.int .i64 xa, .slice A n c] _ (g := w.heap.size)).new #[.int .i64 xb, .slice A2 n2 c2] _ (g := w.heap.size + 1)).new #[.int .i64 0, .slice none 0 0] _ (g := w.heap.size + 2)
 clear hx_
 have c0_0 := hO1.c 0 0
 have c0_1 := hO1.c 0 1
 have cf0 := hO1.fr 0
 have c1_0 := hO1.c 1 0
 have c1_1 := hO1.c 1 1
 have cf1 := hO1.fr 1
 have c2_0 := hO1.c 2 0
 have c2_1 := hO1.c 2 1
 have cf2 := hO1.fr 2
 have hb1 := hO1.below
 have h1 := Lib.hid (RTf.at_ ha hb1)
 have h2 := Lib.hid (RTf.at_ hb0 hb1)
 repeat' ((fail_if_success at_builtin); (first | go_skip | go_guarded | go_step))
 refine (both_any ga gb t u xa A n c xb A2 n2 c2 _ h1.out h2.out).mono ?_
 rintro e w2 ⟨rfl, hb2⟩
 dsimp only
 have hO2 : OwnB w w2 [(w.heap.size + 2, [.int .i64 0, .slice none 0 0]), (w.heap.size + 1, [.int .i64 xb, .slice A2 n2 c2]), (w.heap.size, [.int .i64 xa, .slice A n c])] := hO1.kept hb2
 clear c0_0 c0_1 cf0 c1_0 c1_1 cf1 c2_0 c2_1 cf2 hO1
 have c0_0 := hO2.c 0 0
 have c0_1 := hO2.c 0 1
 have cf0 := hO2.fr 0
 have c1_0 := hO2.c 1 0
 have c1_1 := hO2.c 1 1
 have cf1 := hO2.fr 1
 have c2_0 := hO2.c 2 0
 have c2_1 := hO2.c 2 1
 have cf2 := hO2.fr 2
 have hb3 := hO2.below
 have hl4 := hO2.lt 0
 cases hbo : bothT t u with
 | false =>
  have hv : boundS VT.meet 7 t u = VT.base 7 := bound_not hbo
  replace hv := Lib.hid hv
  clear hbo
  repeat' ((fail_if_success at_builtin); (first | go_skip | go_guarded | go_step))
  refine (scalar_any (7 : Int) _).mono ?_
  rintro e9 w9 ⟨rfl, hb9⟩
  dsimp only
  have hO3 : OwnB w w9 [(w.heap.size + 2, [.int .i64 0, .slice none 0 0]), (w.heap.size + 1, [.int .i64 xb, .slice A2 n2 c2]), (w.heap.size, [.int .i64 xa, .slice A n c])] := hO2.kept hb9
  clear c0_0 c0_1 cf0 c1_0 c1_1 cf1 c2_0 c2_1 cf2 hO2
  have c0_0 := hO3.c 0 0
  have c0_1 := hO3.c 0 1
  have cf0 := hO3.fr 0
  have c1_0 := hO3.c 1 0
  have c1_1 := hO3.c 1 1
  have cf1 := hO3.fr 1
  have c2_0 := hO3.c 2 0
  have c2_1 := hO3.c 2 1
  have cf2 := hO3.fr 2
  repeat' ((fail_if_success at_builtin); (first | go_skip | go_guarded | go_step))
  generalize hx_ : World.setCell (World.setCell _ _ _) _ _ = wo4
  have hO4 : OwnB w wo4 [(w.heap.size + 2, [.int .i64 7, .slice none 0 0]), (w.heap.size + 1, [.int .i64 xb, .slice A2 n2 c2]), (w.heap.size, [.int .i64 xa, .slice A n c])] := by rw [← hx_]; exact (hO3.store 0 rfl 0 _).store 0 rfl 1 _
  clear hx_ c0_0 c0_1 cf0 c1_0 c1_1 cf1 c2_0 c2_1 cf2 hO3
  have c0_0 := hO4.c 0 0
  have c0_1 := hO4.c 0 1
  have cf0 := hO4.fr 0
  have c1_0 := hO4.c 1 0
  have c1_1 := hO4.c 1 1
  have cf1 := hO4.fr 1
  have c2_0 := hO4.c 2 0
  have c2_1 := hO4.c 2 1
  have cf2 := hO4.fr 2
  have hb := hO4.below
  refine bodyPost_ret (v := .agg #[.int .i64 7, .slice none 0 0]) (by simp only [results, Tryd.results23]; go_simp; first | done | exact ⟨rfl, rfl, rfl⟩ | rfl) rfl ?_
  exact retT_eq hv.out ⟨none, 0, 0, rfl, rv_scalar _ _ 7, hb⟩
 | true =>
  obtain ⟨a, b, e1, e2⟩ := both_parts hbo
  have hv : boundS VT.meet 7 t u = VT.meet a b := by unfold boundS; rw [e1, e2]
  replace hv := Lib.hid hv
  obtain ⟨_, a1, _, rfl⟩ := okV_some e1
  obtain ⟨_, b1, _, rfl⟩ := okV_some e2
  have hSb : ∀ b, b < B → b < w.heap.size := fun _ h => Nat.lt_of_lt_of_le h hB
  have hSd := Lib.hid (fun b (h : b < B) => (show b < w2.heap.size from Nat.lt_of_lt_of_le (Nat.lt_of_lt_of_le h hB) hb3.size))
  have r1 := Lib.hid (RV.at_ ha0.valid hSb hb3)
  have r2 := Lib.hid (RV.at_ hb0_.valid hSb hb3)
  clear hbo e1 e2
  repeat' ((fail_if_success at_builtin); (first | go_skip | go_guarded | go_step))
  refine (meet_any a b xa A n c xb A2 n2 c2 _ (fun b => b < B) a1 b1 hSd.out r1.out r2.out).mono ?_
  rintro e9 w9 ⟨A9, n9, c9, rfl, hr9, hb9⟩
  dsimp only
  have hO3 : OwnB w w9 [(w.heap.size + 2, [.int .i64 0, .slice none 0 0]), (w.heap.size + 1, [.int .i64 xb, .slice A2 n2 c2]), (w.heap.size, [.int .i64 xa, .slice A n c])] := hO2.kept hb9
  clear c0_0 c0_1 cf0 c1_0 c1_1 cf1 c2_0 c2_1 cf2 hO2
  have c0_0 := hO3.c 0 0
  have c0_1 := hO3.c 0 1
  have cf0 := hO3.fr 0
  have c1_0 := hO3.c 1 0
  have c1_1 := hO3.c 1 1
  have cf1 := hO3.fr 1
  have c2_0 := hO3.c 2 0
  have c2_1 := hO3.c 2 1
  have cf2 := hO3.fr 2
  repeat' ((fail_if_success at_builtin); (first | go_skip | go_guarded | go_step))
  have hr8 := RV.back (s0 := w.heap.size) (b4 := w.heap.size + 2) (.int .i64 ((VT.meet a b).kind : Int)) (.slice A9 n9 c9) hr9 (Below.refl _ w9) hSb (by omega) hl4 hb9.size
  generalize hx_ : World.setCell (World.setCell w9 _ _) _ _ = w8 at hr8 ⊢
  have hO8 : OwnB w w8 [(w.heap.size + 2, [.int .i64 ((VT.meet a b).kind : Int), .slice A9 n9 c9]), (w.heap.size + 1, [.int .i64 xb, .slice A2 n2 c2]), (w.heap.size, [.int .i64 xa, .slice A n c])] := by rw [← hx_]; exact (hO3.store 0 rfl 0 _).store 0 rfl 1 _
  have hs9 : w9.heap.size ≤ w8.heap.size := by rw [← hx_]; simp [World.setCell]
  clear hx_ c0_0 c0_1 cf0 c1_0 c1_1 cf1 c2_0 c2_1 cf2 hO3
  have r0 := hO8.c 0 0
  have r1 := hO8.c 0 1
  have hb := hO8.below
  refine bodyPost_ret (v := .agg #[.int .i64 ((VT.meet a b).kind : Int), .slice A9 n9 c9]) (by simp only [results, Tryd.results23]; go_simp; first | done | exact ⟨rfl, rfl, rfl⟩ | rfl) rfl ?_
  exact retT_eq hv.out ⟨A9, n9, c9, rfl, hr8.imp (fun b h => h.imp id (fun h => ⟨h.1, by omega⟩)), hb⟩
end Go.Proofs.YtgcpffbaejodiaaDoor
