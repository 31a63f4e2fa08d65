/- Typing: the document's of. -/
import Derived.Test.YtgcpffbaejodiaaDoorTyQ
namespace Go.Proofs.YtgcpffbaejodiaaDoor
open Go.RowKit
set_option maxRecDepth 100000 in
set_option maxHeartbeats 6000000 in
theorem rof_any (f : Nat) : ∀ (g : Nat) (v : Vl) (k : Int) (b : Bool) (i : Int) (s : ByteArray) (A : Option Addr) (n c : Nat) (A2 : Option Addr) (n2 c2 : Nat) (w : World), chkV f v = 0 → RVl g w (fun b => b < w.heap.size) v [.int .i64 k, .bool b, .int .i64 i, .string s, .slice A n c, .slice A2 n2 c2] →
  Calls Tryd.prog 38 #[.agg #[.int .i64 k, .bool b, .int .i64 i, .string s, .slice A n c, .slice A2 n2 c2]] w fun e w' => RetT w (fun _ => False) (findV f v) e w' := by
 induction f with
 | zero => intro g v k b i s A n c A2 n2 c2 w h; cases h
 | succ f ih =>
  intro g v k b i s A n c A2 n2 c2 w hck h
  obtain ⟨gj, l, ks, rfl, rfl, hn, hn2, hs, hs2, hl2⟩ := vl_open h
  clear hn2 hs2 hl2
  obtain ⟨hown, hel⟩ := chkV_own hck
  have hown' := Lib.hid hown
  obtain ⟨_, _, hlen⟩ := own_facts hown
  have hlen : l.length ≤ 1024 := hlen
  have hel : ∀ x ∈ l, chkV f x = 0 := hel
  rw [findV_mk]
  clear h hck hown
  replace ih := Lib.hid ih
  by_cases hk0 : k = 0
  ·
   subst hk0
   have hv : (if (0 : Int) = 0 then VT.base 1 else if (0 : Int) = 1 then .base 2 else if (0 : Int) = 2 then .base 3 else if (0 : Int) = 3 then .base 4 else .of (if (0 : Int) = 4 then 5 else 6) ((l.map (findV f)).foldl VT.join (.base 7)) : VT) = .base 1 := by simp
   replace hv := Lib.hid hv
   clear hs hel hlen hn ih
   go_enter Tryd.func38, Tryd.ntmps38
   go_upto_region 1 with (fail)
   generalize hx_ : World.alloc (World.alloc w _) _ = wo1
   have hO1 : OwnB w wo1 [(w.heap.size + 1, [.int .i64 0, .slice none 0 0]), (w.heap.size, [.int .i64 0, .bool b, .int .i64 i, .string s, .slice A n c, .slice A2 n2 c2])] := by rw [← hx_]; exact ((OwnB.refl w).new #[.int .i64 0, .bool b, .int .i64 i, .string s, .slice A n c, .slice A2 n2 c2] _ (g := w.heap.size)).new #[.int .i64 0, .slice none 0 0] _ (g := w.heap.size + 1)
   clear hx_
   have c0_0 := hO1.c 0 0
   have c0_1 := hO1.c 0 1
   have cf0 := hO1.fr 0
   have c1_0 := hO1.c 1 0
   have c1_1 := hO1.c 1 1
   have c1_2 := hO1.c 1 2
   have c1_3 := hO1.c 1 3
   have c1_4 := hO1.c 1 4
   have c1_5 := hO1.c 1 5
   have cf1 := hO1.fr 1
   repeat' ((fail_if_success at_builtin); (first | go_skip | go_guarded | go_step))
   refine (plainT_any (1 : Int) _).mono ?_
   rintro e w3 ⟨rfl, hb3⟩
   dsimp only
   have hO2 : OwnB w w3 [(w.heap.size + 1, [.int .i64 0, .slice none 0 0]), (w.heap.size, [.int .i64 0, .bool b, .int .i64 i, .string s, .slice A n c, .slice A2 n2 c2])] := hO1.kept hb3
   clear c0_0 c0_1 cf0 c1_0 c1_1 c1_2 c1_3 c1_4 c1_5 cf1 hO1
   have c0_0 := hO2.c 0 0
   have c0_1 := hO2.c 0 1
   have cf0 := hO2.fr 0
   have c1_0 := hO2.c 1 0
   have c1_1 := hO2.c 1 1
   have c1_2 := hO2.c 1 2
   have c1_3 := hO2.c 1 3
   have c1_4 := hO2.c 1 4
   have c1_5 := hO2.c 1 5
   have cf1 := hO2.fr 1
   repeat' ((fail_if_success at_builtin); (first | go_skip | go_guarded | go_step))
   generalize hx_ : World.setCell (World.setCell _ _ _) _ _ = wo3
   have hO3 : OwnB w wo3 [(w.heap.size + 1, [.int .i64 1, .slice none 0 0]), (w.heap.size, [.int .i64 0, .bool b, .int .i64 i, .string s, .slice A n c, .slice A2 n2 c2])] := by rw [← hx_]; exact (hO2.store 0 rfl 0 _).store 0 rfl 1 _
   clear hx_ c0_0 c0_1 cf0 c1_0 c1_1 c1_2 c1_3 c1_4 c1_5 cf1 hO2
   have c0_0 := hO3.c 0 0
   have c0_1 := hO3.c 0 1
   have cf0 := hO3.fr 0
   have c1_0 := hO3.c 1 0
   have c1_1 := hO3.c 1 1
   have c1_2 := hO3.c 1 2
   have c1_3 := hO3.c 1 3
   have c1_4 := hO3.c 1 4
   have c1_5 := hO3.c 1 5
   have cf1 := hO3.fr 1
   have hb := hO3.below
   refine bodyPost_ret (v := .agg #[.int .i64 1, .slice none 0 0]) (by simp only [results, Tryd.results38]; go_simp; first | done | exact ⟨rfl, rfl, rfl⟩ | rfl) rfl ?_
   exact retT_eq hv.out ⟨none, 0, 0, rfl, rv_scalar _ _ 1, hb⟩
  by_cases hk1 : k = 1
  ·
   subst hk1
   have hv : (if (1 : Int) = 0 then VT.base 1 else if (1 : Int) = 1 then .base 2 else if (1 : Int) = 2 then .base 3 else if (1 : Int) = 3 then .base 4 else .of (if (1 : Int) = 4 then 5 else 6) ((l.map (findV f)).foldl VT.join (.base 7)) : VT) = .base 2 := by simp
   replace hv := Lib.hid hv
   clear hs hel hlen hn ih
   go_enter Tryd.func38, Tryd.ntmps38
   go_upto_region 1 with (fail)
   generalize hx_ : World.alloc (World.alloc w _) _ = wo1
   have hO1 : OwnB w wo1 [(w.heap.size + 1, [.int .i64 0, .slice none 0 0]), (w.heap.size, [.int .i64 1, .bool b, .int .i64 i, .string s, .slice A n c, .slice A2 n2 c2])] := by rw [← hx_]; exact ((OwnB.refl w).new #[.int .i64 1, .bool b, .int .i64 i, .string s, .slice A n c, .slice A2 n2 c2] _ (g := w.heap.size)).new #[.int .i64 0, .slice none 0 0] _ (g := w.heap.size + 1)
   clear hx_
   have c0_0 := hO1.c 0 0
   have c0_1 := hO1.c 0 1
   have cf0 := hO1.fr 0
   have c1_0 := hO1.c 1 0
   have c1_1 := hO1.c 1 1
   have c1_2 := hO1.c 1 2
   have c1_3 := hO1.c 1 3
   have c1_4 := hO1.c 1 4
   have c1_5 := hO1.c 1 5
   have cf1 := hO1.fr 1
   repeat' ((fail_if_success at_builtin); (first | go_skip | go_guarded | go_step))
   refine (plainT_any (2 : Int) _).mono ?_
   rintro e w3 ⟨rfl, hb3⟩
   dsimp only
   have hO2 : OwnB w w3 [(w.heap.size + 1, [.int .i64 0, .slice none 0 0]), (w.heap.size, [.int .i64 1, .bool b, .int .i64 i, .string s, .slice A n c, .slice A2 n2 c2])] := hO1.kept hb3
   clear c0_0 c0_1 cf0 c1_0 c1_1 c1_2 c1_3 c1_4 c1_5 cf1 hO1
   have c0_0 := hO2.c 0 0
   have c0_1 := hO2.c 0 1
   have cf0 := hO2.fr 0
   have c1_0 := hO2.c 1 0
   have c1_1 := hO2.c 1 1
   have c1_2 := hO2.c 1 2
   have c1_3 := hO2.c 1 3
   have c1_4 := hO2.c 1 4
   have c1_5 := hO2.c 1 5
   have cf1 := hO2.fr 1
   repeat' ((fail_if_success at_builtin); (first | go_skip | go_guarded | go_step))
   generalize hx_ : World.setCell (World.setCell _ _ _) _ _ = wo3
   have hO3 : OwnB w wo3 [(w.heap.size + 1, [.int .i64 2, .slice none 0 0]), (w.heap.size, [.int .i64 1, .bool b, .int .i64 i, .string s, .slice A n c, .slice A2 n2 c2])] := by rw [← hx_]; exact (hO2.store 0 rfl 0 _).store 0 rfl 1 _
   clear hx_ c0_0 c0_1 cf0 c1_0 c1_1 c1_2 c1_3 c1_4 c1_5 cf1 hO2
   have c0_0 := hO3.c 0 0
   have c0_1 := hO3.c 0 1
   have cf0 := hO3.fr 0
   have c1_0 := hO3.c 1 0
   have c1_1 := hO3.c 1 1
   have c1_2 := hO3.c 1 2
   have c1_3 := hO3.c 1 3
   have c1_4 := hO3.c 1 4
   have c1_5 := hO3.c 1 5
   have cf1 := hO3.fr 1
   have hb := hO3.below
   refine bodyPost_ret (v := .agg #[.int .i64 2, .slice none 0 0]) (by simp only [results, Tryd.results38]; go_simp; first | done | exact ⟨rfl, rfl, rfl⟩ | rfl) rfl ?_
   exact retT_eq hv.out ⟨none, 0, 0, rfl, rv_scalar _ _ 2, hb⟩
  by_cases hk2 : k = 2
  ·
   subst hk2
   have hv : (if (2 : Int) = 0 then VT.base 1 else if (2 : Int) = 1 then .base 2 else if (2 : Int) = 2 then .base 3 else if (2 : Int) = 3 then .base 4 else .of (if (2 : Int) = 4 then 5 else 6) ((l.map (findV f)).foldl VT.join (.base 7)) : VT) = .base 3 := by simp
   replace hv := Lib.hid hv
   clear hs hel hlen hn ih
   go_enter Tryd.func38, Tryd.ntmps38
   go_upto_region 1 with (fail)
   generalize hx_ : World.alloc (World.alloc w _) _ = wo1
   have hO1 : OwnB w wo1 [(w.heap.size + 1, [.int .i64 0, .slice none 0 0]), (w.heap.size, [.int .i64 2, .bool b, .int .i64 i, .string s, .slice A n c, .slice A2 n2 c2])] := by rw [← hx_]; exact ((OwnB.refl w).new #[.int .i64 2, .bool b, .int .i64 i, .string s, .slice A n c, .slice A2 n2 c2] _ (g := w.heap.size)).new #[.int .i64 0, .slice none 0 0] _ (g := w.heap.size + 1)
   clear hx_
   have c0_0 := hO1.c 0 0
   have c0_1 := hO1.c 0 1
   have cf0 := hO1.fr 0
   have c1_0 := hO1.c 1 0
   have c1_1 := hO1.c 1 1
   have c1_2 := hO1.c 1 2
   have c1_3 := hO1.c 1 3
   have c1_4 := hO1.c 1 4
   have c1_5 := hO1.c 1 5
   have cf1 := hO1.fr 1
   repeat' ((fail_if_success at_builtin); (first | go_skip | go_guarded | go_step))
   refine (plainT_any (3 : Int) _).mono ?_
   rintro e w3 ⟨rfl, hb3⟩
   dsimp only
   have hO2 : OwnB w w3 [(w.heap.size + 1, [.int .i64 0, .slice none 0 0]), (w.heap.size, [.int .i64 2, .bool b, .int .i64 i, .string s, .slice A n c, .slice A2 n2 c2])] := hO1.kept hb3
   clear c0_0 c0_1 cf0 c1_0 c1_1 c1_2 c1_3 c1_4 c1_5 cf1 hO1
   have c0_0 := hO2.c 0 0
   have c0_1 := hO2.c 0 1
   have cf0 := hO2.fr 0
   have c1_0 := hO2.c 1 0
   have c1_1 := hO2.c 1 1
   have c1_2 := hO2.c 1 2
   have c1_3 := hO2.c 1 3
   have c1_4 := hO2.c 1 4
   have c1_5 := hO2.c 1 5
   have cf1 := hO2.fr 1
   repeat' ((fail_if_success at_builtin); (first | go_skip | go_guarded | go_step))
   generalize hx_ : World.setCell (World.setCell _ _ _) _ _ = wo3
   have hO3 : OwnB w wo3 [(w.heap.size + 1, [.int .i64 3, .slice none 0 0]), (w.heap.size, [.int .i64 2, .bool b, .int .i64 i, .string s, .slice A n c, .slice A2 n2 c2])] := by rw [← hx_]; exact (hO2.store 0 rfl 0 _).store 0 rfl 1 _
   clear hx_ c0_0 c0_1 cf0 c1_0 c1_1 c1_2 c1_3 c1_4 c1_5 cf1 hO2
   have c0_0 := hO3.c 0 0
   have c0_1 := hO3.c 0 1
   have cf0 := hO3.fr 0
   have c1_0 := hO3.c 1 0
   have c1_1 := hO3.c 1 1
   have c1_2 := hO3.c 1 2
   have c1_3 := hO3.c 1 3
   have c1_4 := hO3.c 1 4
   have c1_5 := hO3.c 1 5
   have cf1 := hO3.fr 1
   have hb := hO3.below
   refine bodyPost_ret (v := .agg #[.int .i64 3, .slice none 0 0]) (by simp only [results, Tryd.results38]; go_simp; first | done | exact ⟨rfl, rfl, rfl⟩ | rfl) rfl ?_
   exact retT_eq hv.out ⟨none, 0, 0, rfl, rv_scalar _ _ 3, hb⟩
  by_cases hk3 : k = 3
  ·
   subst hk3
   have hv : (if (3 : Int) = 0 then VT.base 1 else if (3 : Int) = 1 then .base 2 else if (3 : Int) = 2 then .base 3 else if (3 : Int) = 3 then .base 4 else .of (if (3 : Int) = 4 then 5 else 6) ((l.map (findV f)).foldl VT.join (.base 7)) : VT) = .base 4 := by simp
   replace hv := Lib.hid hv
   clear hs hel hlen hn ih
   go_enter Tryd.func38, Tryd.ntmps38
   go_upto_region 1 with (fail)
   generalize hx_ : World.alloc (World.alloc w _) _ = wo1
   have hO1 : OwnB w wo1 [(w.heap.size + 1, [.int .i64 0, .slice none 0 0]), (w.heap.size, [.int .i64 3, .bool b, .int .i64 i, .string s, .slice A n c, .slice A2 n2 c2])] := by rw [← hx_]; exact ((OwnB.refl w).new #[.int .i64 3, .bool b, .int .i64 i, .string s, .slice A n c, .slice A2 n2 c2] _ (g := w.heap.size)).new #[.int .i64 0, .slice none 0 0] _ (g := w.heap.size + 1)
   clear hx_
   have c0_0 := hO1.c 0 0
   have c0_1 := hO1.c 0 1
   have cf0 := hO1.fr 0
   have c1_0 := hO1.c 1 0
   have c1_1 := hO1.c 1 1
   have c1_2 := hO1.c 1 2
   have c1_3 := hO1.c 1 3
   have c1_4 := hO1.c 1 4
   have c1_5 := hO1.c 1 5
   have cf1 := hO1.fr 1
   repeat' ((fail_if_success at_builtin); (first | go_skip | go_guarded | go_step))
   refine (plainT_any (4 : Int) _).mono ?_
   rintro e w3 ⟨rfl, hb3⟩
   dsimp only
   have hO2 : OwnB w w3 [(w.heap.size + 1, [.int .i64 0, .slice none 0 0]), (w.heap.size, [.int .i64 3, .bool b, .int .i64 i, .string s, .slice A n c, .slice A2 n2 c2])] := hO1.kept hb3
   clear c0_0 c0_1 cf0 c1_0 c1_1 c1_2 c1_3 c1_4 c1_5 cf1 hO1
   have c0_0 := hO2.c 0 0
   have c0_1 := hO2.c 0 1
   have cf0 := hO2.fr 0
   have c1_0 := hO2.c 1 0
   have c1_1 := hO2.c 1 1
   have c1_2 := hO2.c 1 2
   have c1_3 := hO2.c 1 3
   have c1_4 := hO2.c 1 4
   have c1_5 := hO2.c 1 5
   have cf1 := hO2.fr 1
   repeat' ((fail_if_success at_builtin); (first | go_skip | go_guarded | go_step))
   generalize hx_ : World.setCell (World.setCell _ _ _) _ _ = wo3
   have hO3 : OwnB w wo3 [(w.heap.size + 1, [.int .i64 4, .slice none 0 0]), (w.heap.size, [.int .i64 3, .bool b, .int .i64 i, .string s, .slice A n c, .slice A2 n2 c2])] := by rw [← hx_]; exact (hO2.store 0 rfl 0 _).store 0 rfl 1 _
   clear hx_ c0_0 c0_1 cf0 c1_0 c1_1 c1_2 c1_3 c1_4 c1_5 cf1 hO2
   have c0_0 := hO3.c 0 0
   have c0_1 := hO3.c 0 1
   have cf0 := hO3.fr 0
   have c1_0 := hO3.c 1 0
   have c1_1 := hO3.c 1 1
   have c1_2 := hO3.c 1 2
   have c1_3 := hO3.c 1 3
   have c1_4 := hO3.c 1 4
   have c1_5 := hO3.c 1 5
   have cf1 := hO3.fr 1
   have hb := hO3.below
   refine bodyPost_ret (v := .agg #[.int .i64 4, .slice none 0 0]) (by simp only [results, Tryd.results38]; go_simp; first | done | exact ⟨rfl, rfl, rfl⟩ | rfl) rfl ?_
   exact retT_eq hv.out ⟨none, 0, 0, rfl, rv_scalar _ _ 4, hb⟩
  have hv : (if k = 0 then VT.base 1 else if k = 1 then .base 2 else if k = 2 then .base 3 else if k = 3 then .base 4 else .of (if k = 4 then 5 else 6) ((l.map (findV f)).foldl VT.join (.base 7))) = .of (if k = 4 then 5 else 6) (accV f l l.length) := by rw [if_neg hk0, if_neg hk1, if_neg hk2, if_neg hk3, accV_all]
  replace hv := Lib.hid hv
  have g0 : (k == 0) = false := by simpa using hk0
  have g1 : (k == 1) = false := by simpa using hk1
  have g2 : (k == 2) = false := by simpa using hk2
  have g3 : (k == 3) = false := by simpa using hk3
  have hk45 : Hid (k = 4 ∨ k = 5) := Lib.hid (by have := (own_facts hown'.out).1; have := (own_facts hown'.out).2.1; simp only [Vl.kind] at *; omega)
  clear hown'
  clear hk0 hk1 hk2 hk3
  replace hn := Lib.hid hn
  replace hs := Lib.hid hs
  replace hel := Lib.hid hel
  have hnl : n ≤ 1024 := by rw [hn.out]; exact hlen
  clear hlen
  go_enter Tryd.func38, Tryd.ntmps38
  go_upto_region 1 with (fail)
  generalize hx_ : World.alloc (World.alloc w _) _ = wo1
  have hO1 : OwnB w wo1 [(w.heap.size + 1, [.int .i64 0, .slice none 0 0]), (w.heap.size, [.int .i64 k, .bool b, .int .i64 i, .string s, .slice A n c, .slice A2 n2 c2])] := by rw [← hx_]; exact ((OwnB.refl w).new #[.int .i64 k, .bool b, .int .i64 i, .string s, .slice A n c, .slice A2 n2 c2] _ (g := w.heap.size)).new #[.int .i64 0, .slice none 0 0] _ (g := w.heap.size + 1)
  clear hx_
  have c0_0 := hO1.c 0 0
  have c0_1 := hO1.c 0 1
  have cf0 := hO1.fr 0
  have c1_0 := hO1.c 1 0
  have c1_1 := hO1.c 1 1
  have c1_2 := hO1.c 1 2
  have c1_3 := hO1.c 1 3
  have c1_4 := hO1.c 1 4
  have c1_5 := hO1.c 1 5
  have cf1 := hO1.fr 1
  repeat' ((fail_if_success at_builtin); (first | go_skip | go_guarded | go_step))
  refine (plainT_any (7 : Int) _).mono ?_
  rintro e w2 ⟨rfl, hb2⟩
  dsimp only
  have hO2 : OwnB w w2 [(w.heap.size + 1, [.int .i64 0, .slice none 0 0]), (w.heap.size, [.int .i64 k, .bool b, .int .i64 i, .string s, .slice A n c, .slice A2 n2 c2])] := hO1.kept hb2
  clear c0_0 c0_1 cf0 c1_0 c1_1 c1_2 c1_3 c1_4 c1_5 cf1 hO1
  have c0_0 := hO2.c 0 0
  have c0_1 := hO2.c 0 1
  have cf0 := hO2.fr 0
  have c1_0 := hO2.c 1 0
  have c1_1 := hO2.c 1 1
  have c1_2 := hO2.c 1 2
  have c1_3 := hO2.c 1 3
  have c1_4 := hO2.c 1 4
  have c1_5 := hO2.c 1 5
  have cf1 := hO2.fr 1
  have hbw := hO2.below
  have hge1 := hO2.lt 0
  have hm_ : ∀ ob, OwnB w (w2.alloc ob) [(w.heap.size + 1, [.int .i64 0, .slice none 0 0]), (w.heap.size, [.int .i64 k, .bool b, .int .i64 i, .string s, .slice A n c, .slice A2 n2 c2])] := fun ob => hO2.kept ((Below.refl _ _).alloc (Nat.le_refl _) _)
  clear hm_
  go_upto_region 11 with (fail)
  generalize hx_ : World.alloc w2 _ = w3
  have hO3 : OwnB w w3 [(w2.heap.size, [.int .i64 7, .slice none 0 0]), (w.heap.size + 1, [.int .i64 0, .slice none 0 0]), (w.heap.size, [.int .i64 k, .bool b, .int .i64 i, .string s, .slice A n c, .slice A2 n2 c2])] := by rw [← hx_]; exact hO2.new #[.int .i64 7, .slice none 0 0] _ (g := w2.heap.size)
  have hw3 : w2.heap.size < w3.heap.size := by rw [← hx_]; simp
  clear hx_ c0_0 c0_1 cf0 c1_0 c1_1 c1_2 c1_3 c1_4 c1_5 cf1 hO2
  have c0_0 := hO3.c 0 0
  have c0_1 := hO3.c 0 1
  have cf0 := hO3.fr 0
  have c1_0 := hO3.c 1 0
  have c1_1 := hO3.c 1 1
  have cf1 := hO3.fr 1
  have c2_0 := hO3.c 2 0
  have c2_1 := hO3.c 2 1
  have c2_2 := hO3.c 2 2
  have c2_3 := hO3.c 2 3
  have c2_4 := hO3.c 2 4
  have c2_5 := hO3.c 2 5
  have cf2 := hO3.fr 2
  repeat' ((fail_if_success at_builtin); (first | go_skip | go_guarded | go_step))
  go_loopw [4] (fun u4 wr => ∃ i' : Nat, i' ≤ n ∧ u4 = .int .i64 (i' : Int) ∧ ∃ A7 n7 c7, OwnB w wr [(w2.heap.size, [.int .i64 ((accV f l i').kind : Int), .slice A7 n7 c7]), (w.heap.size + 1, [.int .i64 0, .slice none 0 0]), (w.heap.size, [.int .i64 k, .bool b, .int .i64 i, .string s, .slice A n c, .slice A2 n2 c2])] ∧ w2.heap.size < wr.heap.size ∧ RV wr (fun b => w2.heap.size < b ∧ b < wr.heap.size) (accV f l i') [.int .i64 ((accV f l i').kind : Int), .slice A7 n7 c7]) (fun u4 _ => n - (intOf u4).toNat)
  case atStart => exact ⟨0, by omega, rfl, none, 0, 0, hO3, hw3, rv_scalar _ _ 7⟩
  case round =>
   clear c0_0 c0_1 cf0 c1_0 c1_1 cf1 c2_0 c2_1 c2_2 c2_3 c2_4 c2_5 cf2 hO3 hw3
   obtain ⟨i', hi, rfl, A7, n7, c7, hO4, hsz, hra⟩ := hrel
   have c0_0 := hO4.c 0 0
   have c0_1 := hO4.c 0 1
   have cf0 := hO4.fr 0
   have c1_0 := hO4.c 1 0
   have c1_1 := hO4.c 1 1
   have cf1 := hO4.fr 1
   have c2_0 := hO4.c 2 0
   have c2_1 := hO4.c 2 1
   have c2_2 := hO4.c 2 2
   have c2_3 := hO4.c 2 3
   have c2_4 := hO4.c 2 4
   have c2_5 := hO4.c 2 5
   have cf2 := hO4.fr 2
   have i1 : (0 : Int) ≤ (i' : Int) := by omega
   have i2 : IntKind.i64.wrap ((i' : Int) + 1) = ((i' + 1 : Nat) : Int) := by rw [IntWalk.i64_in _ (by omega)]; omega
   have hb4 := hO4.below
   by_cases hlt : i' < n
   ·
    have i3 : (i' : Int) < (n : Int) := by omega
    obtain ⟨x, hx⟩ : ∃ x, l[i']? = some x := ⟨_, List.getElem?_eq_getElem (by rw [← hn.out]; exact hlt)⟩
    have hcx := hel.out x (List.mem_of_getElem? hx)
    obtain ⟨bx, ox, cx, rfl, hbx, hlx, hrx, hcl⟩ := hs.out.at_ hx
    obtain ⟨xk, xb, xi, xs, XA, xn, xc, XB, xn2, xc2, rfl⟩ := vl_form hrx
    have y0 : wr.cell? ⟨bx, ox + i' * 6, none⟩ = some (.int .i64 xk) := (hb4.cell (p := ⟨bx, ox + i' * 6 + 0, none⟩) hbx).trans (hcl 0 _ rfl)
    have y1 : wr.cell? ⟨bx, ox + i' * 6 + 1, none⟩ = some (.bool xb) := (hb4.cell (p := ⟨bx, ox + i' * 6 + 1, none⟩) hbx).trans (hcl 1 _ rfl)
    have y2 : wr.cell? ⟨bx, ox + i' * 6 + 2, none⟩ = some (.int .i64 xi) := (hb4.cell (p := ⟨bx, ox + i' * 6 + 2, none⟩) hbx).trans (hcl 2 _ rfl)
    have y3 : wr.cell? ⟨bx, ox + i' * 6 + 3, none⟩ = some (.string xs) := (hb4.cell (p := ⟨bx, ox + i' * 6 + 3, none⟩) hbx).trans (hcl 3 _ rfl)
    have y4 : wr.cell? ⟨bx, ox + i' * 6 + 4, none⟩ = some (.slice XA xn xc) := (hb4.cell (p := ⟨bx, ox + i' * 6 + 4, none⟩) hbx).trans (hcl 4 _ rfl)
    have y5 : wr.cell? ⟨bx, ox + i' * 6 + 5, none⟩ = some (.slice XB xn2 xc2) := (hb4.cell (p := ⟨bx, ox + i' * 6 + 5, none⟩) hbx).trans (hcl 5 _ rfl)
    have hacc := accV_succ f hx
    replace hacc := Lib.hid hacc
    clear hx
    go_upto_region 14 with (fail)
    clear y0 y1 y2 y3 y4 y5
    have hO5 : OwnB w wr.drew [(w2.heap.size, [.int .i64 ((accV f l i').kind : Int), .slice A7 n7 c7]), (w.heap.size + 1, [.int .i64 0, .slice none 0 0]), (w.heap.size, [.int .i64 k, .bool b, .int .i64 i, .string s, .slice (some ⟨bx, ox, none⟩) n c, .slice A2 n2 c2])] := hO4.kept ((Below.refl _ _).drew)
    clear c0_0 c0_1 cf0 c1_0 c1_1 cf1 c2_0 c2_1 c2_2 c2_3 c2_4 c2_5 cf2 hO4
    have c0_0 := hO5.c 0 0
    have c0_1 := hO5.c 0 1
    have cf0 := hO5.fr 0
    have c1_0 := hO5.c 1 0
    have c1_1 := hO5.c 1 1
    have cf1 := hO5.fr 1
    have c2_0 := hO5.c 2 0
    have c2_1 := hO5.c 2 1
    have c2_2 := hO5.c 2 2
    have c2_3 := hO5.c 2 3
    have c2_4 := hO5.c 2 4
    have c2_5 := hO5.c 2 5
    have cf2 := hO5.fr 2
    have hb6 := hO5.below
    have hbr6 : Below wr.heap.size wr wr.drew := (Below.refl _ _).drew
    have y0 : wr.drew.cell? ⟨bx, ox + i' * 6, none⟩ = some (.int .i64 xk) := (hb6.cell (p := ⟨bx, ox + i' * 6 + 0, none⟩) hbx).trans (hcl 0 _ rfl)
    have y1 : wr.drew.cell? ⟨bx, ox + i' * 6 + 1, none⟩ = some (.bool xb) := (hb6.cell (p := ⟨bx, ox + i' * 6 + 1, none⟩) hbx).trans (hcl 1 _ rfl)
    have y2 : wr.drew.cell? ⟨bx, ox + i' * 6 + 2, none⟩ = some (.int .i64 xi) := (hb6.cell (p := ⟨bx, ox + i' * 6 + 2, none⟩) hbx).trans (hcl 2 _ rfl)
    have y3 : wr.drew.cell? ⟨bx, ox + i' * 6 + 3, none⟩ = some (.string xs) := (hb6.cell (p := ⟨bx, ox + i' * 6 + 3, none⟩) hbx).trans (hcl 3 _ rfl)
    have y4 : wr.drew.cell? ⟨bx, ox + i' * 6 + 4, none⟩ = some (.slice XA xn xc) := (hb6.cell (p := ⟨bx, ox + i' * 6 + 4, none⟩) hbx).trans (hcl 4 _ rfl)
    have y5 : wr.drew.cell? ⟨bx, ox + i' * 6 + 5, none⟩ = some (.slice XB xn2 xc2) := (hb6.cell (p := ⟨bx, ox + i' * 6 + 5, none⟩) hbx).trans (hcl 5 _ rfl)
    have hl5 := hO5.lt 0
    have hrx6 := Lib.hid (RVl.at_ hrx hb6)
    have hra6 : Hid (RV wr.drew (fun b => w2.heap.size < b ∧ b < wr.drew.heap.size) (accV f l i') [.int .i64 ((accV f l i').kind : Int), .slice A7 n7 c7]) := Lib.hid ((RV.at_ hra (fun b h => h.2) hbr6).imp (fun b h => ⟨h.1, Nat.lt_of_lt_of_le h.2 hbr6.size⟩))
    clear hra hrx hcl
    refine wp_region_held_drew (S := fun _ => True) (by kernel_rfl) trivial (fun hHeld => ?_)
    refine tkY 1 (v := ?v18) rfl (.inl ⟨by rfl, ?hy18⟩) ?rest18
    case hy18 => (intro w hSw; (try dsimp only at hSw); go_simp; try with_reducible rfl)
    simp only [Act.put, List.getElem_toArray, List.getElem_cons_zero, List.getElem_cons_succ, List.setIfInBounds_toArray, List.set_cons_zero, List.set_cons_succ]
    refine tkY 3 (v := ?v19) rfl (.inl ⟨by rfl, ?hy19⟩) ?rest19
    case hy19 => (intro w hSw; (try dsimp only at hSw); go_simp; try with_reducible rfl)
    simp only [Act.put, List.getElem_toArray, List.getElem_cons_zero, List.getElem_cons_succ, List.setIfInBounds_toArray, List.set_cons_zero, List.set_cons_succ]
    refine wpAnyH_ready (rs := [0, 2]) (by kernel_rfl) (by simp) ?_
    refine AllReadyH.cons rfl (fun K hK => ?_) ?_
    ·
     go_simp
     refine hK.out _ _ trivial (fun hHeld => ?_)
     clear hK K
     try simp only [Act.put, List.getElem_toArray, List.getElem_cons_zero, List.getElem_cons_succ, List.setIfInBounds_toArray, List.set_cons_zero, List.set_cons_succ]
     refine wpAnyH_ready (rs := [2]) (by kernel_rfl) (by simp) ?_
     refine AllReadyH.cons rfl (fun K hK => ?_) ?_
     ·
      go_simp
      refine hK.out _ _ trivial (fun hHeld => ?_)
      clear hK K
      try simp only [Act.put, List.getElem_toArray, List.getElem_cons_zero, List.getElem_cons_succ, List.setIfInBounds_toArray, List.set_cons_zero, List.set_cons_succ]
      refine tkY 4 (v := ?v20) rfl (.inl ⟨by rfl, ?hy20⟩) ?rest20
      case hy20 => (intro w hSw; (try dsimp only at hSw); go_simp; try with_reducible rfl)
      simp only [Act.put, List.getElem_toArray, List.getElem_cons_zero, List.getElem_cons_succ, List.setIfInBounds_toArray, List.set_cons_zero, List.set_cons_succ]
      refine wpAnyH_ready (rs := [5]) (by kernel_rfl) (by simp) ?_
      refine AllReadyH.cons rfl (fun K hK => ?_) ?_
      ·
       go_simp
       refine hK.out _ _ trivial (fun hHeld => ?_)
       clear hK K
       try simp only [Act.put, List.getElem_toArray, List.getElem_cons_zero, List.getElem_cons_succ, List.setIfInBounds_toArray, List.set_cons_zero, List.set_cons_succ]
       refine wpAnyH_ready (rs := [6]) (by kernel_rfl) (by simp) ?_
       refine AllReadyH.cons rfl (fun K hK => ?_) ?_
       ·
        go_simp
        go_at_call 38
        refine (ih.out gj x xk xb xi xs XA xn xc XB xn2 xc2 _ hcx hrx6.out).mono ?_
        rintro e7 w7 ⟨A9, n9, c9, rfl, hr9, hb9⟩
        dsimp only
        have hO7 := hO5.kept hb9
        have q0 := hO7.c 0 0
        have q1 := hO7.c 0 1
        refine hK.out _ _ trivial (fun hHeld => ?_)
        clear hK K
        try simp only [Act.put, List.getElem_toArray, List.getElem_cons_zero, List.getElem_cons_succ, List.setIfInBounds_toArray, List.set_cons_zero, List.set_cons_succ]
        refine wpAnyH_ready (rs := [7]) (by kernel_rfl) (by simp) ?_
        refine AllReadyH.cons rfl (fun K hK => ?_) ?_
        ·
         go_simp
         go_at_call 44
         refine (rjoin_any (accV f l i') (findV f x) _ A7 n7 c7 _ A9 n9 c9 _ (fun b => w2.heap.size < b ∧ b < w7.heap.size) (accV_ok f l i') (findV_ok f x) (fun b h => h.2) ((RV.at_ hra6.out (fun b h => h.2) hb9).imp (fun b h => ⟨h.1, Nat.lt_of_lt_of_le h.2 hb9.size⟩)) (hr9.imp (fun b h => h.elim False.elim (fun h => ⟨by omega, h.2⟩)))).mono ?_
         rintro e8 w8 ⟨A8, n8, c8, rfl, hr8, hb8⟩
         dsimp only
         have hO8 := hO7.kept hb8
         have z0 := hO8.c 0 0
         have z1 := hO8.c 0 1
         have zf := hO8.fr 0
         have hs78 := hb8.size
         have hs67 := hb9.size
         refine hK.out _ _ trivial (fun hHeld => ?_)
         clear hK K
         try simp only [Act.put, List.getElem_toArray, List.getElem_cons_zero, List.getElem_cons_succ, List.setIfInBounds_toArray, List.set_cons_zero, List.set_cons_succ]
         refine wpAnyH_ready (rs := [8]) (by kernel_rfl) (by simp) ?_
         refine AllReadyH.cons rfl (fun K hK => ?_) ?_
         ·
          go_simp
          refine hK.out _ _ trivial (fun hHeld => ?_)
          clear hK K
          try simp only [Act.put, List.getElem_toArray, List.getElem_cons_zero, List.getElem_cons_succ, List.setIfInBounds_toArray, List.set_cons_zero, List.set_cons_succ]
          refine wpAnyH_done (by kernel_rfl) ?_ _
          have hO9 := ((hO8.store 0 rfl 0 (.int .i64 ((VT.join (accV f l i') (findV f x)).kind : Int))).store 0 rfl 1 (.slice A8 n8 c8))
          have hr7 := RV.set2 (g := w2.heap.size) (.int .i64 ((VT.join (accV f l i') (findV f x)).kind : Int)) (.slice A8 n8 c8) (S := fun b => w2.heap.size < b ∧ b < w8.heap.size) (fun b h => by have := h.1; omega) (hr8.imp (fun b h => h.elim (fun h => ⟨h.1, by omega⟩) (fun h => ⟨by omega, h.2⟩)))
          generalize hx_ : World.setCell (World.setCell w8 _ _) _ _ = w9 at hO9 hr7 ⊢
          have hs9 : w9.heap.size = w8.heap.size := by rw [← hx_]; simp [World.setCell]
          clear hx_ z0 z1 zf hHeld
          rw [← hacc.out] at hO9 hr7
          repeat' ((fail_if_success at_builtin); (first | go_skip | go_guarded | go_step))
          go_roundw
          case rel => exact ⟨i' + 1, by omega, by first | rfl | go_num, A8, n8, c8, hO9, by omega, hr7.imp (fun b h => ⟨h.1, by omega⟩)⟩
          case measure => (try go_num); (try simp [intOf]); (try omega)
         exact AllReadyH.nil
        exact AllReadyH.nil
       exact AllReadyH.nil
      exact AllReadyH.nil
     exact AllReadyH.nil
    refine AllReadyH.cons rfl (fun K hK => ?_) ?_
    ·
     go_simp
     refine hK.out _ _ trivial (fun hHeld => ?_)
     clear hK K
     try simp only [Act.put, List.getElem_toArray, List.getElem_cons_zero, List.getElem_cons_succ, List.setIfInBounds_toArray, List.set_cons_zero, List.set_cons_succ]
     refine tkY 4 (v := ?v21) rfl (.inl ⟨by rfl, ?hy21⟩) ?rest21
     case hy21 => (intro w hSw; (try dsimp only at hSw); go_simp; try with_reducible rfl)
     simp only [Act.put, List.getElem_toArray, List.getElem_cons_zero, List.getElem_cons_succ, List.setIfInBounds_toArray, List.set_cons_zero, List.set_cons_succ]
     refine wpAnyH_ready (rs := [0, 5]) (by kernel_rfl) (by simp) ?_
     refine AllReadyH.cons rfl (fun K hK => ?_) ?_
     ·
      go_simp
      refine hK.out _ _ trivial (fun hHeld => ?_)
      clear hK K
      try simp only [Act.put, List.getElem_toArray, List.getElem_cons_zero, List.getElem_cons_succ, List.setIfInBounds_toArray, List.set_cons_zero, List.set_cons_succ]
      refine wpAnyH_ready (rs := [5]) (by kernel_rfl) (by simp) ?_
      refine AllReadyH.cons rfl (fun K hK => ?_) ?_
      ·
       go_simp
       refine hK.out _ _ trivial (fun hHeld => ?_)
       clear hK K
       try simp only [Act.put, List.getElem_toArray, List.getElem_cons_zero, List.getElem_cons_succ, List.setIfInBounds_toArray, List.set_cons_zero, List.set_cons_succ]
       refine wpAnyH_ready (rs := [6]) (by kernel_rfl) (by simp) ?_
       refine AllReadyH.cons rfl (fun K hK => ?_) ?_
       ·
        go_simp
        go_at_call 38
        refine (ih.out gj x xk xb xi xs XA xn xc XB xn2 xc2 _ hcx hrx6.out).mono ?_
        rintro e7 w7 ⟨A9, n9, c9, rfl, hr9, hb9⟩
        dsimp only
        have hO7 := hO5.kept hb9
        have q0 := hO7.c 0 0
        have q1 := hO7.c 0 1
        refine hK.out _ _ trivial (fun hHeld => ?_)
        clear hK K
        try simp only [Act.put, List.getElem_toArray, List.getElem_cons_zero, List.getElem_cons_succ, List.setIfInBounds_toArray, List.set_cons_zero, List.set_cons_succ]
        refine wpAnyH_ready (rs := [7]) (by kernel_rfl) (by simp) ?_
        refine AllReadyH.cons rfl (fun K hK => ?_) ?_
        ·
         go_simp
         go_at_call 44
         refine (rjoin_any (accV f l i') (findV f x) _ A7 n7 c7 _ A9 n9 c9 _ (fun b => w2.heap.size < b ∧ b < w7.heap.size) (accV_ok f l i') (findV_ok f x) (fun b h => h.2) ((RV.at_ hra6.out (fun b h => h.2) hb9).imp (fun b h => ⟨h.1, Nat.lt_of_lt_of_le h.2 hb9.size⟩)) (hr9.imp (fun b h => h.elim False.elim (fun h => ⟨by omega, h.2⟩)))).mono ?_
         rintro e8 w8 ⟨A8, n8, c8, rfl, hr8, hb8⟩
         dsimp only
         have hO8 := hO7.kept hb8
         have z0 := hO8.c 0 0
         have z1 := hO8.c 0 1
         have zf := hO8.fr 0
         have hs78 := hb8.size
         have hs67 := hb9.size
         refine hK.out _ _ trivial (fun hHeld => ?_)
         clear hK K
         try simp only [Act.put, List.getElem_toArray, List.getElem_cons_zero, List.getElem_cons_succ, List.setIfInBounds_toArray, List.set_cons_zero, List.set_cons_succ]
         refine wpAnyH_ready (rs := [8]) (by kernel_rfl) (by simp) ?_
         refine AllReadyH.cons rfl (fun K hK => ?_) ?_
         ·
          go_simp
          refine hK.out _ _ trivial (fun hHeld => ?_)
          clear hK K
          try simp only [Act.put, List.getElem_toArray, List.getElem_cons_zero, List.getElem_cons_succ, List.setIfInBounds_toArray, List.set_cons_zero, List.set_cons_succ]
          refine wpAnyH_done (by kernel_rfl) ?_ _
          have hO9 := ((hO8.store 0 rfl 0 (.int .i64 ((VT.join (accV f l i') (findV f x)).kind : Int))).store 0 rfl 1 (.slice A8 n8 c8))
          have hr7 := RV.set2 (g := w2.heap.size) (.int .i64 ((VT.join (accV f l i') (findV f x)).kind : Int)) (.slice A8 n8 c8) (S := fun b => w2.heap.size < b ∧ b < w8.heap.size) (fun b h => by have := h.1; omega) (hr8.imp (fun b h => h.elim (fun h => ⟨h.1, by omega⟩) (fun h => ⟨by omega, h.2⟩)))
          generalize hx_ : World.setCell (World.setCell w8 _ _) _ _ = w9 at hO9 hr7 ⊢
          have hs9 : w9.heap.size = w8.heap.size := by rw [← hx_]; simp [World.setCell]
          clear hx_ z0 z1 zf hHeld
          rw [← hacc.out] at hO9 hr7
          repeat' ((fail_if_success at_builtin); (first | go_skip | go_guarded | go_step))
          go_roundw
          case rel => exact ⟨i' + 1, by omega, by first | rfl | go_num, A8, n8, c8, hO9, by omega, hr7.imp (fun b h => ⟨h.1, by omega⟩)⟩
          case measure => (try go_num); (try simp [intOf]); (try omega)
         exact AllReadyH.nil
        exact AllReadyH.nil
       exact AllReadyH.nil
      exact AllReadyH.nil
     refine AllReadyH.cons rfl (fun K hK => ?_) ?_
     ·
      go_simp
      refine hK.out _ _ trivial (fun hHeld => ?_)
      clear hK K
      try simp only [Act.put, List.getElem_toArray, List.getElem_cons_zero, List.getElem_cons_succ, List.setIfInBounds_toArray, List.set_cons_zero, List.set_cons_succ]
      refine wpAnyH_ready (rs := [0, 6]) (by kernel_rfl) (by simp) ?_
      refine AllReadyH.cons rfl (fun K hK => ?_) ?_
      ·
       go_simp
       refine hK.out _ _ trivial (fun hHeld => ?_)
       clear hK K
       try simp only [Act.put, List.getElem_toArray, List.getElem_cons_zero, List.getElem_cons_succ, List.setIfInBounds_toArray, List.set_cons_zero, List.set_cons_succ]
       refine wpAnyH_ready (rs := [6]) (by kernel_rfl) (by simp) ?_
       refine AllReadyH.cons rfl (fun K hK => ?_) ?_
       ·
        go_simp
        go_at_call 38
        refine (ih.out gj x xk xb xi xs XA xn xc XB xn2 xc2 _ hcx hrx6.out).mono ?_
        rintro e7 w7 ⟨A9, n9, c9, rfl, hr9, hb9⟩
        dsimp only
        have hO7 := hO5.kept hb9
        have q0 := hO7.c 0 0
        have q1 := hO7.c 0 1
        refine hK.out _ _ trivial (fun hHeld => ?_)
        clear hK K
        try simp only [Act.put, List.getElem_toArray, List.getElem_cons_zero, List.getElem_cons_succ, List.setIfInBounds_toArray, List.set_cons_zero, List.set_cons_succ]
        refine wpAnyH_ready (rs := [7]) (by kernel_rfl) (by simp) ?_
        refine AllReadyH.cons rfl (fun K hK => ?_) ?_
        ·
         go_simp
         go_at_call 44
         refine (rjoin_any (accV f l i') (findV f x) _ A7 n7 c7 _ A9 n9 c9 _ (fun b => w2.heap.size < b ∧ b < w7.heap.size) (accV_ok f l i') (findV_ok f x) (fun b h => h.2) ((RV.at_ hra6.out (fun b h => h.2) hb9).imp (fun b h => ⟨h.1, Nat.lt_of_lt_of_le h.2 hb9.size⟩)) (hr9.imp (fun b h => h.elim False.elim (fun h => ⟨by omega, h.2⟩)))).mono ?_
         rintro e8 w8 ⟨A8, n8, c8, rfl, hr8, hb8⟩
         dsimp only
         have hO8 := hO7.kept hb8
         have z0 := hO8.c 0 0
         have z1 := hO8.c 0 1
         have zf := hO8.fr 0
         have hs78 := hb8.size
         have hs67 := hb9.size
         refine hK.out _ _ trivial (fun hHeld => ?_)
         clear hK K
         try simp only [Act.put, List.getElem_toArray, List.getElem_cons_zero, List.getElem_cons_succ, List.setIfInBounds_toArray, List.set_cons_zero, List.set_cons_succ]
         refine wpAnyH_ready (rs := [8]) (by kernel_rfl) (by simp) ?_
         refine AllReadyH.cons rfl (fun K hK => ?_) ?_
         ·
          go_simp
          refine hK.out _ _ trivial (fun hHeld => ?_)
          clear hK K
          try simp only [Act.put, List.getElem_toArray, List.getElem_cons_zero, List.getElem_cons_succ, List.setIfInBounds_toArray, List.set_cons_zero, List.set_cons_succ]
          refine wpAnyH_done (by kernel_rfl) ?_ _
          have hO9 := ((hO8.store 0 rfl 0 (.int .i64 ((VT.join (accV f l i') (findV f x)).kind : Int))).store 0 rfl 1 (.slice A8 n8 c8))
          have hr7 := RV.set2 (g := w2.heap.size) (.int .i64 ((VT.join (accV f l i') (findV f x)).kind : Int)) (.slice A8 n8 c8) (S := fun b => w2.heap.size < b ∧ b < w8.heap.size) (fun b h => by have := h.1; omega) (hr8.imp (fun b h => h.elim (fun h => ⟨h.1, by omega⟩) (fun h => ⟨by omega, h.2⟩)))
          generalize hx_ : World.setCell (World.setCell w8 _ _) _ _ = w9 at hO9 hr7 ⊢
          have hs9 : w9.heap.size = w8.heap.size := by rw [← hx_]; simp [World.setCell]
          clear hx_ z0 z1 zf hHeld
          rw [← hacc.out] at hO9 hr7
          repeat' ((fail_if_success at_builtin); (first | go_skip | go_guarded | go_step))
          go_roundw
          case rel => exact ⟨i' + 1, by omega, by first | rfl | go_num, A8, n8, c8, hO9, by omega, hr7.imp (fun b h => ⟨h.1, by omega⟩)⟩
          case measure => (try go_num); (try simp [intOf]); (try omega)
         exact AllReadyH.nil
        exact AllReadyH.nil
       exact AllReadyH.nil
      refine AllReadyH.cons rfl (fun K hK => ?_) ?_
      ·
       go_simp
       go_at_call 38
       refine (ih.out gj x xk xb xi xs XA xn xc XB xn2 xc2 _ hcx hrx6.out).mono ?_
       rintro e7 w7 ⟨A9, n9, c9, rfl, hr9, hb9⟩
       dsimp only
       have hO7 := hO5.kept hb9
       have q0 := hO7.c 0 0
       have q1 := hO7.c 0 1
       refine hK.out _ _ trivial (fun hHeld => ?_)
       clear hK K
       try simp only [Act.put, List.getElem_toArray, List.getElem_cons_zero, List.getElem_cons_succ, List.setIfInBounds_toArray, List.set_cons_zero, List.set_cons_succ]
       refine wpAnyH_ready (rs := [0]) (by kernel_rfl) (by simp) ?_
       refine AllReadyH.cons rfl (fun K hK => ?_) ?_
       ·
        go_simp
        refine hK.out _ _ trivial (fun hHeld => ?_)
        clear hK K
        try simp only [Act.put, List.getElem_toArray, List.getElem_cons_zero, List.getElem_cons_succ, List.setIfInBounds_toArray, List.set_cons_zero, List.set_cons_succ]
        refine wpAnyH_ready (rs := [7]) (by kernel_rfl) (by simp) ?_
        refine AllReadyH.cons rfl (fun K hK => ?_) ?_
        ·
         go_simp
         go_at_call 44
         refine (rjoin_any (accV f l i') (findV f x) _ A7 n7 c7 _ A9 n9 c9 _ (fun b => w2.heap.size < b ∧ b < w7.heap.size) (accV_ok f l i') (findV_ok f x) (fun b h => h.2) ((RV.at_ hra6.out (fun b h => h.2) hb9).imp (fun b h => ⟨h.1, Nat.lt_of_lt_of_le h.2 hb9.size⟩)) (hr9.imp (fun b h => h.elim False.elim (fun h => ⟨by omega, h.2⟩)))).mono ?_
         rintro e8 w8 ⟨A8, n8, c8, rfl, hr8, hb8⟩
         dsimp only
         have hO8 := hO7.kept hb8
         have z0 := hO8.c 0 0
         have z1 := hO8.c 0 1
         have zf := hO8.fr 0
         have hs78 := hb8.size
         have hs67 := hb9.size
         refine hK.out _ _ trivial (fun hHeld => ?_)
         clear hK K
         try simp only [Act.put, List.getElem_toArray, List.getElem_cons_zero, List.getElem_cons_succ, List.setIfInBounds_toArray, List.set_cons_zero, List.set_cons_succ]
         refine wpAnyH_ready (rs := [8]) (by kernel_rfl) (by simp) ?_
         refine AllReadyH.cons rfl (fun K hK => ?_) ?_
         ·
          go_simp
          refine hK.out _ _ trivial (fun hHeld => ?_)
          clear hK K
          try simp only [Act.put, List.getElem_toArray, List.getElem_cons_zero, List.getElem_cons_succ, List.setIfInBounds_toArray, List.set_cons_zero, List.set_cons_succ]
          refine wpAnyH_done (by kernel_rfl) ?_ _
          have hO9 := ((hO8.store 0 rfl 0 (.int .i64 ((VT.join (accV f l i') (findV f x)).kind : Int))).store 0 rfl 1 (.slice A8 n8 c8))
          have hr7 := RV.set2 (g := w2.heap.size) (.int .i64 ((VT.join (accV f l i') (findV f x)).kind : Int)) (.slice A8 n8 c8) (S := fun b => w2.heap.size < b ∧ b < w8.heap.size) (fun b h => by have := h.1; omega) (hr8.imp (fun b h => h.elim (fun h => ⟨h.1, by omega⟩) (fun h => ⟨by omega, h.2⟩)))
          generalize hx_ : World.setCell (World.setCell w8 _ _) _ _ = w9 at hO9 hr7 ⊢
          have hs9 : w9.heap.size = w8.heap.size := by rw [← hx_]; simp [World.setCell]
          clear hx_ z0 z1 zf hHeld
          rw [← hacc.out] at hO9 hr7
          repeat' ((fail_if_success at_builtin); (first | go_skip | go_guarded | go_step))
          go_roundw
          case rel => exact ⟨i' + 1, by omega, by first | rfl | go_num, A8, n8, c8, hO9, by omega, hr7.imp (fun b h => ⟨h.1, by omega⟩)⟩
          case measure => (try go_num); (try simp [intOf]); (try omega)
         exact AllReadyH.nil
        exact AllReadyH.nil
       exact AllReadyH.nil
      exact AllReadyH.nil
     exact AllReadyH.nil
    exact AllReadyH.nil
   ·
    obtain rfl : i' = n := by omega
    have i3 : ¬ (i' : Int) < (i' : Int) := by omega
    have hra2 := hra
    clear hra
    replace hra2 := Lib.hid hra2
    clear hlt
    by_cases hk5 : k = 5
    ·
     subst hk5
     have hvv : Hid ((VT.of (if (5 : Int) = 4 then 5 else 6) (accV f l l.length)) = VT.of 6 (accV f l i')) := Lib.hid (by rw [if_neg (by decide), ← hn.out])
     repeat' ((fail_if_success at_builtin); (first | go_skip | go_guarded | go_step))
     refine (with_any (6 : Int) ((accV f l i').kind : Int) A7 n7 c7 _).mono ?_
     rintro e8 w8 ⟨g8, rfl, hg8, hC8, hb8⟩
     dsimp only
     have hlt8 := hC8.lt
     have hw24 := hO4.lo 0
     have hlo1 := hO4.lt 1
     have hwr := hO4.below.size
     have hO5 : OwnB w w8 [(w2.heap.size, [.int .i64 ((accV f l i').kind : Int), .slice A7 n7 c7]), (w.heap.size + 1, [.int .i64 0, .slice none 0 0]), (w.heap.size, [.int .i64 5, .bool b, .int .i64 i, .string s, .slice A i' c, .slice A2 n2 c2])] := hO4.kept hb8
     clear c0_0 c0_1 cf0 c1_0 c1_1 cf1 c2_0 c2_1 c2_2 c2_3 c2_4 c2_5 cf2 hO4
     have c0_0 := hO5.c 0 0
     have c0_1 := hO5.c 0 1
     have cf0 := hO5.fr 0
     have c1_0 := hO5.c 1 0
     have c1_1 := hO5.c 1 1
     have cf1 := hO5.fr 1
     have c2_0 := hO5.c 2 0
     have c2_1 := hO5.c 2 1
     have c2_2 := hO5.c 2 2
     have c2_3 := hO5.c 2 3
     have c2_4 := hO5.c 2 4
     have c2_5 := hO5.c 2 5
     have cf2 := hO5.fr 2
     repeat' ((fail_if_success at_builtin); (first | go_skip | go_guarded | go_step))
     have hC9 := cells_back (b4 := w.heap.size + 1) (.int .i64 6) (.slice (some ⟨g8, 0, none⟩) 1 1) hC8 (by omega)
     have hr9 := RV.set2 (g := w.heap.size + 1) (.int .i64 6) (.slice (some ⟨g8, 0, none⟩) 1 1) (fun b h => by have := h.1; omega) (RV.at_ hra2.out (fun b h => h.2) hb8)
     have hs9 : ((w8.setCell ⟨w.heap.size + 1, 0, none⟩ (.int .i64 6)).setCell ⟨w.heap.size + 1, 1, none⟩ (.slice (some ⟨g8, 0, none⟩) 1 1)).heap.size = w8.heap.size := by simp [World.setCell]
     generalize hx_ : World.setCell (World.setCell _ _ _) _ _ = wo6 at hC9 hr9 hs9 ⊢
     have hO6 : OwnB w wo6 [(w2.heap.size, [.int .i64 ((accV f l i').kind : Int), .slice A7 n7 c7]), (w.heap.size + 1, [.int .i64 6, .slice (some ⟨g8, 0, none⟩) 1 1]), (w.heap.size, [.int .i64 5, .bool b, .int .i64 i, .string s, .slice A i' c, .slice A2 n2 c2])] := by rw [← hx_]; exact (hO5.store 1 rfl 0 _).store 1 rfl 1 _
     clear hx_ c0_0 c0_1 cf0 c1_0 c1_1 cf1 c2_0 c2_1 c2_2 c2_3 c2_4 c2_5 cf2 hO5
     have c0_0 := hO6.c 0 0
     have c0_1 := hO6.c 0 1
     have cf0 := hO6.fr 0
     have c1_0 := hO6.c 1 0
     have c1_1 := hO6.c 1 1
     have cf1 := hO6.fr 1
     have c2_0 := hO6.c 2 0
     have c2_1 := hO6.c 2 1
     have c2_2 := hO6.c 2 2
     have c2_3 := hO6.c 2 3
     have c2_4 := hO6.c 2 4
     have c2_5 := hO6.c 2 5
     have cf2 := hO6.fr 2
     have hb := hO6.below
     have hs8 := hb8.size
     refine bodyPost_ret (v := .agg #[.int .i64 6, .slice (some ⟨g8, 0, none⟩) 1 1]) (by simp only [results, Tryd.results38]; go_simp; first | done | exact ⟨rfl, rfl, rfl⟩ | rfl) rfl ?_
     exact retT_eq hv.out (retT_eq hvv.out ⟨some ⟨g8, 0, none⟩, 1, 1, rfl, rv_mk hC9 (.inr ⟨by omega, by omega⟩) (hr9.imp (fun b h => .inr ⟨by have := h.1; omega, by have := h.2; omega⟩)), hb⟩)
    ·
     have g5 : (k == 5) = false := by simpa using hk5
     have hvv : Hid ((VT.of (if (k : Int) = 4 then 5 else 6) (accV f l l.length)) = VT.of 5 (accV f l i')) := Lib.hid (by rw [if_pos (by have h := hk45.out; omega), ← hn.out])
     clear hk5 hk45
     repeat' ((fail_if_success at_builtin); (first | go_skip | go_guarded | go_step))
     refine (with_any (5 : Int) ((accV f l i').kind : Int) A7 n7 c7 _).mono ?_
     rintro e8 w8 ⟨g8, rfl, hg8, hC8, hb8⟩
     dsimp only
     have hlt8 := hC8.lt
     have hw24 := hO4.lo 0
     have hlo1 := hO4.lt 1
     have hwr := hO4.below.size
     have hO5 : OwnB w w8 [(w2.heap.size, [.int .i64 ((accV f l i').kind : Int), .slice A7 n7 c7]), (w.heap.size + 1, [.int .i64 0, .slice none 0 0]), (w.heap.size, [.int .i64 k, .bool b, .int .i64 i, .string s, .slice A i' c, .slice A2 n2 c2])] := hO4.kept hb8
     clear c0_0 c0_1 cf0 c1_0 c1_1 cf1 c2_0 c2_1 c2_2 c2_3 c2_4 c2_5 cf2 hO4
     have c0_0 := hO5.c 0 0
     have c0_1 := hO5.c 0 1
     have cf0 := hO5.fr 0
     have c1_0 := hO5.c 1 0
     have c1_1 := hO5.c 1 1
     have cf1 := hO5.fr 1
     have c2_0 := hO5.c 2 0
     have c2_1 := hO5.c 2 1
     have c2_2 := hO5.c 2 2
     have c2_3 := hO5.c 2 3
     have c2_4 := hO5.c 2 4
     have c2_5 := hO5.c 2 5
     have cf2 := hO5.fr 2
     repeat' ((fail_if_success at_builtin); (first | go_skip | go_guarded | go_step))
     have hC9 := cells_back (b4 := w.heap.size + 1) (.int .i64 5) (.slice (some ⟨g8, 0, none⟩) 1 1) hC8 (by omega)
     have hr9 := RV.set2 (g := w.heap.size + 1) (.int .i64 5) (.slice (some ⟨g8, 0, none⟩) 1 1) (fun b h => by have := h.1; omega) (RV.at_ hra2.out (fun b h => h.2) hb8)
     have hs9 : ((w8.setCell ⟨w.heap.size + 1, 0, none⟩ (.int .i64 5)).setCell ⟨w.heap.size + 1, 1, none⟩ (.slice (some ⟨g8, 0, none⟩) 1 1)).heap.size = w8.heap.size := by simp [World.setCell]
     generalize hx_ : World.setCell (World.setCell _ _ _) _ _ = wo6 at hC9 hr9 hs9 ⊢
     have hO6 : OwnB w wo6 [(w2.heap.size, [.int .i64 ((accV f l i').kind : Int), .slice A7 n7 c7]), (w.heap.size + 1, [.int .i64 5, .slice (some ⟨g8, 0, none⟩) 1 1]), (w.heap.size, [.int .i64 k, .bool b, .int .i64 i, .string s, .slice A i' c, .slice A2 n2 c2])] := by rw [← hx_]; exact (hO5.store 1 rfl 0 _).store 1 rfl 1 _
     clear hx_ c0_0 c0_1 cf0 c1_0 c1_1 cf1 c2_0 c2_1 c2_2 c2_3 c2_4 c2_5 cf2 hO5
     have c0_0 := hO6.c 0 0
     have c0_1 := hO6.c 0 1
     have cf0 := hO6.fr 0
     have c1_0 := hO6.c 1 0
     have c1_1 := hO6.c 1 1
     have cf1 := hO6.fr 1
     have c2_0 := hO6.c 2 0
     have c2_1 := hO6.c 2 1
     have c2_2 := hO6.c 2 2
     have c2_3 := hO6.c 2 3
     have c2_4 := hO6.c 2 4
     have c2_5 := hO6.c 2 5
     have cf2 := hO6.fr 2
     have hb := hO6.below
     have hs8 := hb8.size
     refine bodyPost_ret (v := .agg #[.int .i64 5, .slice (some ⟨g8, 0, none⟩) 1 1]) (by simp only [results, Tryd.results38]; go_simp; first | done | exact ⟨rfl, rfl, rfl⟩ | rfl) rfl ?_
     exact retT_eq hv.out (retT_eq hvv.out ⟨some ⟨g8, 0, none⟩, 1, 1, rfl, rv_mk hC9 (.inr ⟨by omega, by omega⟩) (hr9.imp (fun b h => .inr ⟨by have := h.1; omega, by have := h.2; omega⟩)), hb⟩)
end Go.Proofs.YtgcpffbaejodiaaDoor
