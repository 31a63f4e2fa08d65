/- Typing: what a value does not use; a key. -/
import Derived.Test.YtgcpffbaejodiaaDoorTyM
import Derived.Test.YtgcpffbaejodiaaDoorCel
import Derived.Test.YtgcpffbaejodiaaDoorIdN
import Derived.Test.YtgcpffbaejodiaaDoorCmpR
import Derived.Test.YtgcpffbaejodiaaDoorTyA
import Derived.Deep.DeepCutAuto
namespace Go.Proofs.YtgcpffbaejodiaaDoor
open Go.RowKit
theorem toList_someT {s : ByteArray} (h : s.size ≠ 0) : (s.toList == []) = false := by
 rw [ByteArray.toList_eq, beq_eq_false_iff_ne]
 intro e
 have := list_size s
 rw [e] at this
 simp at this
 omega
theorem toList_noneT {s : ByteArray} (h : s.size = 0) : (s.toList == []) = true := by
 rw [ByteArray.toList_eq, beq_iff_eq]
 exact List.eq_nil_of_length_eq_zero (by rw [list_size]; omega)
/-- fields that the kind does not use are zero or empty -/
def unusedZ (k : Int) (b : Bool) (i : Int) (s : ByteArray) (n n2 : Nat) : Bool := (k == 1 || !b) && ((k == 2 || i == 0) && ((k == 3 || s.size == 0) && ((k == 4 || k == 5 || n == 0) && (k == 5 || n2 == 0))))
set_option maxRecDepth 100000 in
set_option maxHeartbeats 4000000 in
theorem unused_any (k : Int) (b : Bool) (i : Int) (s : ByteArray) (A : Option Addr) (n c : Nat) (A2 : Option Addr) (n2 c2 : Nat) (w : World) : Calls Tryd.prog 63 #[.agg #[.int .i64 k, .bool b, .int .i64 i, .string s, .slice A n c, .slice A2 n2 c2]] w fun e w' => e = .returned (.bool (unusedZ k b i s n n2)) ∧ Below w.heap.size w w' := by
 by_cases hk1 : k = 1
 ·
  subst hk1
  by_cases hi : i = 0
  ·
   subst hi
   by_cases hs : s.size = 0
   ·
    have gs := toList_noneT hs
    have gs2 : (s.size == 0) = true := by simpa using hs
    have gs3 : s.toList = [] := by simpa using gs
    clear hs
    by_cases hn : n = 0
    ·
     subst hn
     by_cases hn2 : n2 = 0
     ·
      subst hn2
      have hv : unusedZ (1 : Int) b 0 s 0 0 = true := by unfold unusedZ; simp [gs2]
      rw [hv]
      clear hv
      go_enter Tryd.func63, Tryd.ntmps63
      go_upto_region 1 with (fail)
      generalize hx_ : World.alloc w _ = wo1
      have hO1 : OwnB w wo1 [(w.heap.size, [.int .i64 (1 : Int), .bool b, .int .i64 0, .string s, .slice A 0 c, .slice A2 0 c2])] := by rw [← hx_]; exact (OwnB.refl w).new #[.int .i64 (1 : Int), .bool b, .int .i64 0, .string s, .slice A 0 c, .slice A2 0 c2] _ (g := w.heap.size)
      clear hx_
      have c0_0 := hO1.c 0 0
      have c0_1 := hO1.c 0 1
      have c0_2 := hO1.c 0 2
      have c0_3 := hO1.c 0 3
      have c0_4 := hO1.c 0 4
      have c0_5 := hO1.c 0 5
      have cf0 := hO1.fr 0
      have hb := hO1.below
      repeat' ((fail_if_success at_builtin); (first | go_skip | go_guarded | go_step))
      all_goals go_ret
      all_goals exact ⟨rfl, hb⟩
     ·
      have gn2 : (n2 == 0) = false := by simpa using hn2
      have gpn2 : (0 : Int) < (n2 : Int) := by omega
      have gqn2 : ((n2 : Int) == 0) = false := by simp; omega
      clear hn2
      have hv : unusedZ (1 : Int) b 0 s 0 n2 = false := by unfold unusedZ; simp [gs2, gn2]
      rw [hv]
      clear hv
      go_enter Tryd.func63, Tryd.ntmps63
      go_upto_region 1 with (fail)
      generalize hx_ : World.alloc w _ = wo1
      have hO1 : OwnB w wo1 [(w.heap.size, [.int .i64 (1 : Int), .bool b, .int .i64 0, .string s, .slice A 0 c, .slice A2 n2 c2])] := by rw [← hx_]; exact (OwnB.refl w).new #[.int .i64 (1 : Int), .bool b, .int .i64 0, .string s, .slice A 0 c, .slice A2 n2 c2] _ (g := w.heap.size)
      clear hx_
      have c0_0 := hO1.c 0 0
      have c0_1 := hO1.c 0 1
      have c0_2 := hO1.c 0 2
      have c0_3 := hO1.c 0 3
      have c0_4 := hO1.c 0 4
      have c0_5 := hO1.c 0 5
      have cf0 := hO1.fr 0
      have hb := hO1.below
      repeat' ((fail_if_success at_builtin); (first | go_skip | go_guarded | go_step))
      all_goals go_ret
      all_goals exact ⟨rfl, hb⟩
    ·
     have gn : (n == 0) = false := by simpa using hn
     have gpn : (0 : Int) < (n : Int) := by omega
     have gqn : ((n : Int) == 0) = false := by simp; omega
     clear hn
     have hv : unusedZ (1 : Int) b 0 s n n2 = false := by unfold unusedZ; simp [gs2, gn]
     rw [hv]
     clear hv
     go_enter Tryd.func63, Tryd.ntmps63
     go_upto_region 1 with (fail)
     generalize hx_ : World.alloc w _ = wo1
     have hO1 : OwnB w wo1 [(w.heap.size, [.int .i64 (1 : Int), .bool b, .int .i64 0, .string s, .slice A n c, .slice A2 n2 c2])] := by rw [← hx_]; exact (OwnB.refl w).new #[.int .i64 (1 : Int), .bool b, .int .i64 0, .string s, .slice A n c, .slice A2 n2 c2] _ (g := w.heap.size)
     clear hx_
     have c0_0 := hO1.c 0 0
     have c0_1 := hO1.c 0 1
     have c0_2 := hO1.c 0 2
     have c0_3 := hO1.c 0 3
     have c0_4 := hO1.c 0 4
     have c0_5 := hO1.c 0 5
     have cf0 := hO1.fr 0
     have hb := hO1.below
     repeat' ((fail_if_success at_builtin); (first | go_skip | go_guarded | go_step))
     all_goals go_ret
     all_goals exact ⟨rfl, hb⟩
   ·
    have gs := toList_someT hs
    have gs2 : (s.size == 0) = false := by simpa using hs
    have gs3 : ¬ s.toList = [] := by simpa using gs
    clear hs
    have hv : unusedZ (1 : Int) b 0 s n n2 = false := by unfold unusedZ; simp [gs2]
    rw [hv]
    clear hv
    go_enter Tryd.func63, Tryd.ntmps63
    go_upto_region 1 with (fail)
    generalize hx_ : World.alloc w _ = wo1
    have hO1 : OwnB w wo1 [(w.heap.size, [.int .i64 (1 : Int), .bool b, .int .i64 0, .string s, .slice A n c, .slice A2 n2 c2])] := by rw [← hx_]; exact (OwnB.refl w).new #[.int .i64 (1 : Int), .bool b, .int .i64 0, .string s, .slice A n c, .slice A2 n2 c2] _ (g := w.heap.size)
    clear hx_
    have c0_0 := hO1.c 0 0
    have c0_1 := hO1.c 0 1
    have c0_2 := hO1.c 0 2
    have c0_3 := hO1.c 0 3
    have c0_4 := hO1.c 0 4
    have c0_5 := hO1.c 0 5
    have cf0 := hO1.fr 0
    have hb := hO1.below
    repeat' ((fail_if_success at_builtin); (first | go_skip | go_guarded | go_step))
    all_goals go_ret
    all_goals exact ⟨rfl, hb⟩
  ·
   have gi : (i == 0) = false := by simpa using hi
   have hv : unusedZ (1 : Int) b i s n n2 = false := by unfold unusedZ; simp [gi]
   rw [hv]
   clear hv
   go_enter Tryd.func63, Tryd.ntmps63
   go_upto_region 1 with (fail)
   generalize hx_ : World.alloc w _ = wo1
   have hO1 : OwnB w wo1 [(w.heap.size, [.int .i64 (1 : Int), .bool b, .int .i64 i, .string s, .slice A n c, .slice A2 n2 c2])] := by rw [← hx_]; exact (OwnB.refl w).new #[.int .i64 (1 : Int), .bool b, .int .i64 i, .string s, .slice A n c, .slice A2 n2 c2] _ (g := w.heap.size)
   clear hx_
   have c0_0 := hO1.c 0 0
   have c0_1 := hO1.c 0 1
   have c0_2 := hO1.c 0 2
   have c0_3 := hO1.c 0 3
   have c0_4 := hO1.c 0 4
   have c0_5 := hO1.c 0 5
   have cf0 := hO1.fr 0
   have hb := hO1.below
   repeat' ((fail_if_success at_builtin); (first | go_skip | go_guarded | go_step))
   all_goals go_ret
   all_goals exact ⟨rfl, hb⟩
 by_cases hk2 : k = 2
 ·
  subst hk2
  cases b with
  | true =>
   have hv : unusedZ (2 : Int) true i s n n2 = false := by unfold unusedZ; simp []
   rw [hv]
   clear hv
   go_enter Tryd.func63, Tryd.ntmps63
   go_upto_region 1 with (fail)
   generalize hx_ : World.alloc w _ = wo1
   have hO1 : OwnB w wo1 [(w.heap.size, [.int .i64 (2 : Int), .bool true, .int .i64 i, .string s, .slice A n c, .slice A2 n2 c2])] := by rw [← hx_]; exact (OwnB.refl w).new #[.int .i64 (2 : Int), .bool true, .int .i64 i, .string s, .slice A n c, .slice A2 n2 c2] _ (g := w.heap.size)
   clear hx_
   have c0_0 := hO1.c 0 0
   have c0_1 := hO1.c 0 1
   have c0_2 := hO1.c 0 2
   have c0_3 := hO1.c 0 3
   have c0_4 := hO1.c 0 4
   have c0_5 := hO1.c 0 5
   have cf0 := hO1.fr 0
   have hb := hO1.below
   repeat' ((fail_if_success at_builtin); (first | go_skip | go_guarded | go_step))
   all_goals go_ret
   all_goals exact ⟨rfl, hb⟩
  | false =>
   by_cases hs : s.size = 0
   ·
    have gs := toList_noneT hs
    have gs2 : (s.size == 0) = true := by simpa using hs
    have gs3 : s.toList = [] := by simpa using gs
    clear hs
    by_cases hn : n = 0
    ·
     subst hn
     by_cases hn2 : n2 = 0
     ·
      subst hn2
      have hv : unusedZ (2 : Int) false i s 0 0 = true := by unfold unusedZ; simp [gs2]
      rw [hv]
      clear hv
      go_enter Tryd.func63, Tryd.ntmps63
      go_upto_region 1 with (fail)
      generalize hx_ : World.alloc w _ = wo1
      have hO1 : OwnB w wo1 [(w.heap.size, [.int .i64 (2 : Int), .bool false, .int .i64 i, .string s, .slice A 0 c, .slice A2 0 c2])] := by rw [← hx_]; exact (OwnB.refl w).new #[.int .i64 (2 : Int), .bool false, .int .i64 i, .string s, .slice A 0 c, .slice A2 0 c2] _ (g := w.heap.size)
      clear hx_
      have c0_0 := hO1.c 0 0
      have c0_1 := hO1.c 0 1
      have c0_2 := hO1.c 0 2
      have c0_3 := hO1.c 0 3
      have c0_4 := hO1.c 0 4
      have c0_5 := hO1.c 0 5
      have cf0 := hO1.fr 0
      have hb := hO1.below
      repeat' ((fail_if_success at_builtin); (first | go_skip | go_guarded | go_step))
      all_goals go_ret
      all_goals exact ⟨rfl, hb⟩
     ·
      have gn2 : (n2 == 0) = false := by simpa using hn2
      have gpn2 : (0 : Int) < (n2 : Int) := by omega
      have gqn2 : ((n2 : Int) == 0) = false := by simp; omega
      clear hn2
      have hv : unusedZ (2 : Int) false i s 0 n2 = false := by unfold unusedZ; simp [gs2, gn2]
      rw [hv]
      clear hv
      go_enter Tryd.func63, Tryd.ntmps63
      go_upto_region 1 with (fail)
      generalize hx_ : World.alloc w _ = wo1
      have hO1 : OwnB w wo1 [(w.heap.size, [.int .i64 (2 : Int), .bool false, .int .i64 i, .string s, .slice A 0 c, .slice A2 n2 c2])] := by rw [← hx_]; exact (OwnB.refl w).new #[.int .i64 (2 : Int), .bool false, .int .i64 i, .string s, .slice A 0 c, .slice A2 n2 c2] _ (g := w.heap.size)
      clear hx_
      have c0_0 := hO1.c 0 0
      have c0_1 := hO1.c 0 1
      have c0_2 := hO1.c 0 2
      have c0_3 := hO1.c 0 3
      have c0_4 := hO1.c 0 4
      have c0_5 := hO1.c 0 5
      have cf0 := hO1.fr 0
      have hb := hO1.below
      repeat' ((fail_if_success at_builtin); (first | go_skip | go_guarded | go_step))
      all_goals go_ret
      all_goals exact ⟨rfl, hb⟩
    ·
     have gn : (n == 0) = false := by simpa using hn
     have gpn : (0 : Int) < (n : Int) := by omega
     have gqn : ((n : Int) == 0) = false := by simp; omega
     clear hn
     have hv : unusedZ (2 : Int) false i s n n2 = false := by unfold unusedZ; simp [gs2, gn]
     rw [hv]
     clear hv
     go_enter Tryd.func63, Tryd.ntmps63
     go_upto_region 1 with (fail)
     generalize hx_ : World.alloc w _ = wo1
     have hO1 : OwnB w wo1 [(w.heap.size, [.int .i64 (2 : Int), .bool false, .int .i64 i, .string s, .slice A n c, .slice A2 n2 c2])] := by rw [← hx_]; exact (OwnB.refl w).new #[.int .i64 (2 : Int), .bool false, .int .i64 i, .string s, .slice A n c, .slice A2 n2 c2] _ (g := w.heap.size)
     clear hx_
     have c0_0 := hO1.c 0 0
     have c0_1 := hO1.c 0 1
     have c0_2 := hO1.c 0 2
     have c0_3 := hO1.c 0 3
     have c0_4 := hO1.c 0 4
     have c0_5 := hO1.c 0 5
     have cf0 := hO1.fr 0
     have hb := hO1.below
     repeat' ((fail_if_success at_builtin); (first | go_skip | go_guarded | go_step))
     all_goals go_ret
     all_goals exact ⟨rfl, hb⟩
   ·
    have gs := toList_someT hs
    have gs2 : (s.size == 0) = false := by simpa using hs
    have gs3 : ¬ s.toList = [] := by simpa using gs
    clear hs
    have hv : unusedZ (2 : Int) false i s n n2 = false := by unfold unusedZ; simp [gs2]
    rw [hv]
    clear hv
    go_enter Tryd.func63, Tryd.ntmps63
    go_upto_region 1 with (fail)
    generalize hx_ : World.alloc w _ = wo1
    have hO1 : OwnB w wo1 [(w.heap.size, [.int .i64 (2 : Int), .bool false, .int .i64 i, .string s, .slice A n c, .slice A2 n2 c2])] := by rw [← hx_]; exact (OwnB.refl w).new #[.int .i64 (2 : Int), .bool false, .int .i64 i, .string s, .slice A n c, .slice A2 n2 c2] _ (g := w.heap.size)
    clear hx_
    have c0_0 := hO1.c 0 0
    have c0_1 := hO1.c 0 1
    have c0_2 := hO1.c 0 2
    have c0_3 := hO1.c 0 3
    have c0_4 := hO1.c 0 4
    have c0_5 := hO1.c 0 5
    have cf0 := hO1.fr 0
    have hb := hO1.below
    repeat' ((fail_if_success at_builtin); (first | go_skip | go_guarded | go_step))
    all_goals go_ret
    all_goals exact ⟨rfl, hb⟩
 by_cases hk3 : k = 3
 ·
  subst hk3
  cases b with
  | true =>
   have hv : unusedZ (3 : Int) true i s n n2 = false := by unfold unusedZ; simp []
   rw [hv]
   clear hv
   go_enter Tryd.func63, Tryd.ntmps63
   go_upto_region 1 with (fail)
   generalize hx_ : World.alloc w _ = wo1
   have hO1 : OwnB w wo1 [(w.heap.size, [.int .i64 (3 : Int), .bool true, .int .i64 i, .string s, .slice A n c, .slice A2 n2 c2])] := by rw [← hx_]; exact (OwnB.refl w).new #[.int .i64 (3 : Int), .bool true, .int .i64 i, .string s, .slice A n c, .slice A2 n2 c2] _ (g := w.heap.size)
   clear hx_
   have c0_0 := hO1.c 0 0
   have c0_1 := hO1.c 0 1
   have c0_2 := hO1.c 0 2
   have c0_3 := hO1.c 0 3
   have c0_4 := hO1.c 0 4
   have c0_5 := hO1.c 0 5
   have cf0 := hO1.fr 0
   have hb := hO1.below
   repeat' ((fail_if_success at_builtin); (first | go_skip | go_guarded | go_step))
   all_goals go_ret
   all_goals exact ⟨rfl, hb⟩
  | false =>
   by_cases hi : i = 0
   ·
    subst hi
    by_cases hn : n = 0
    ·
     subst hn
     by_cases hn2 : n2 = 0
     ·
      subst hn2
      have hv : unusedZ (3 : Int) false 0 s 0 0 = true := by unfold unusedZ; simp []
      rw [hv]
      clear hv
      go_enter Tryd.func63, Tryd.ntmps63
      go_upto_region 1 with (fail)
      generalize hx_ : World.alloc w _ = wo1
      have hO1 : OwnB w wo1 [(w.heap.size, [.int .i64 (3 : Int), .bool false, .int .i64 0, .string s, .slice A 0 c, .slice A2 0 c2])] := by rw [← hx_]; exact (OwnB.refl w).new #[.int .i64 (3 : Int), .bool false, .int .i64 0, .string s, .slice A 0 c, .slice A2 0 c2] _ (g := w.heap.size)
      clear hx_
      have c0_0 := hO1.c 0 0
      have c0_1 := hO1.c 0 1
      have c0_2 := hO1.c 0 2
      have c0_3 := hO1.c 0 3
      have c0_4 := hO1.c 0 4
      have c0_5 := hO1.c 0 5
      have cf0 := hO1.fr 0
      have hb := hO1.below
      repeat' ((fail_if_success at_builtin); (first | go_skip | go_guarded | go_step))
      all_goals go_ret
      all_goals exact ⟨rfl, hb⟩
     ·
      have gn2 : (n2 == 0) = false := by simpa using hn2
      have gpn2 : (0 : Int) < (n2 : Int) := by omega
      have gqn2 : ((n2 : Int) == 0) = false := by simp; omega
      clear hn2
      have hv : unusedZ (3 : Int) false 0 s 0 n2 = false := by unfold unusedZ; simp [gn2]
      rw [hv]
      clear hv
      go_enter Tryd.func63, Tryd.ntmps63
      go_upto_region 1 with (fail)
      generalize hx_ : World.alloc w _ = wo1
      have hO1 : OwnB w wo1 [(w.heap.size, [.int .i64 (3 : Int), .bool false, .int .i64 0, .string s, .slice A 0 c, .slice A2 n2 c2])] := by rw [← hx_]; exact (OwnB.refl w).new #[.int .i64 (3 : Int), .bool false, .int .i64 0, .string s, .slice A 0 c, .slice A2 n2 c2] _ (g := w.heap.size)
      clear hx_
      have c0_0 := hO1.c 0 0
      have c0_1 := hO1.c 0 1
      have c0_2 := hO1.c 0 2
      have c0_3 := hO1.c 0 3
      have c0_4 := hO1.c 0 4
      have c0_5 := hO1.c 0 5
      have cf0 := hO1.fr 0
      have hb := hO1.below
      repeat' ((fail_if_success at_builtin); (first | go_skip | go_guarded | go_step))
      all_goals go_ret
      all_goals exact ⟨rfl, hb⟩
    ·
     have gn : (n == 0) = false := by simpa using hn
     have gpn : (0 : Int) < (n : Int) := by omega
     have gqn : ((n : Int) == 0) = false := by simp; omega
     clear hn
     have hv : unusedZ (3 : Int) false 0 s n n2 = false := by unfold unusedZ; simp [gn]
     rw [hv]
     clear hv
     go_enter Tryd.func63, Tryd.ntmps63
     go_upto_region 1 with (fail)
     generalize hx_ : World.alloc w _ = wo1
     have hO1 : OwnB w wo1 [(w.heap.size, [.int .i64 (3 : Int), .bool false, .int .i64 0, .string s, .slice A n c, .slice A2 n2 c2])] := by rw [← hx_]; exact (OwnB.refl w).new #[.int .i64 (3 : Int), .bool false, .int .i64 0, .string s, .slice A n c, .slice A2 n2 c2] _ (g := w.heap.size)
     clear hx_
     have c0_0 := hO1.c 0 0
     have c0_1 := hO1.c 0 1
     have c0_2 := hO1.c 0 2
     have c0_3 := hO1.c 0 3
     have c0_4 := hO1.c 0 4
     have c0_5 := hO1.c 0 5
     have cf0 := hO1.fr 0
     have hb := hO1.below
     repeat' ((fail_if_success at_builtin); (first | go_skip | go_guarded | go_step))
     all_goals go_ret
     all_goals exact ⟨rfl, hb⟩
   ·
    have gi : (i == 0) = false := by simpa using hi
    have hv : unusedZ (3 : Int) false i s n n2 = false := by unfold unusedZ; simp [gi]
    rw [hv]
    clear hv
    go_enter Tryd.func63, Tryd.ntmps63
    go_upto_region 1 with (fail)
    generalize hx_ : World.alloc w _ = wo1
    have hO1 : OwnB w wo1 [(w.heap.size, [.int .i64 (3 : Int), .bool false, .int .i64 i, .string s, .slice A n c, .slice A2 n2 c2])] := by rw [← hx_]; exact (OwnB.refl w).new #[.int .i64 (3 : Int), .bool false, .int .i64 i, .string s, .slice A n c, .slice A2 n2 c2] _ (g := w.heap.size)
    clear hx_
    have c0_0 := hO1.c 0 0
    have c0_1 := hO1.c 0 1
    have c0_2 := hO1.c 0 2
    have c0_3 := hO1.c 0 3
    have c0_4 := hO1.c 0 4
    have c0_5 := hO1.c 0 5
    have cf0 := hO1.fr 0
    have hb := hO1.below
    repeat' ((fail_if_success at_builtin); (first | go_skip | go_guarded | go_step))
    all_goals go_ret
    all_goals exact ⟨rfl, hb⟩
 by_cases hk4 : k = 4
 ·
  subst hk4
  cases b with
  | true =>
   have hv : unusedZ (4 : Int) true i s n n2 = false := by unfold unusedZ; simp []
   rw [hv]
   clear hv
   go_enter Tryd.func63, Tryd.ntmps63
   go_upto_region 1 with (fail)
   generalize hx_ : World.alloc w _ = wo1
   have hO1 : OwnB w wo1 [(w.heap.size, [.int .i64 (4 : Int), .bool true, .int .i64 i, .string s, .slice A n c, .slice A2 n2 c2])] := by rw [← hx_]; exact (OwnB.refl w).new #[.int .i64 (4 : Int), .bool true, .int .i64 i, .string s, .slice A n c, .slice A2 n2 c2] _ (g := w.heap.size)
   clear hx_
   have c0_0 := hO1.c 0 0
   have c0_1 := hO1.c 0 1
   have c0_2 := hO1.c 0 2
   have c0_3 := hO1.c 0 3
   have c0_4 := hO1.c 0 4
   have c0_5 := hO1.c 0 5
   have cf0 := hO1.fr 0
   have hb := hO1.below
   repeat' ((fail_if_success at_builtin); (first | go_skip | go_guarded | go_step))
   all_goals go_ret
   all_goals exact ⟨rfl, hb⟩
  | false =>
   by_cases hi : i = 0
   ·
    subst hi
    by_cases hs : s.size = 0
    ·
     have gs := toList_noneT hs
     have gs2 : (s.size == 0) = true := by simpa using hs
     have gs3 : s.toList = [] := by simpa using gs
     clear hs
     by_cases hn2 : n2 = 0
     ·
      subst hn2
      have hv : unusedZ (4 : Int) false 0 s n 0 = true := by unfold unusedZ; simp [gs2]
      rw [hv]
      clear hv
      go_enter Tryd.func63, Tryd.ntmps63
      go_upto_region 1 with (fail)
      generalize hx_ : World.alloc w _ = wo1
      have hO1 : OwnB w wo1 [(w.heap.size, [.int .i64 (4 : Int), .bool false, .int .i64 0, .string s, .slice A n c, .slice A2 0 c2])] := by rw [← hx_]; exact (OwnB.refl w).new #[.int .i64 (4 : Int), .bool false, .int .i64 0, .string s, .slice A n c, .slice A2 0 c2] _ (g := w.heap.size)
      clear hx_
      have c0_0 := hO1.c 0 0
      have c0_1 := hO1.c 0 1
      have c0_2 := hO1.c 0 2
      have c0_3 := hO1.c 0 3
      have c0_4 := hO1.c 0 4
      have c0_5 := hO1.c 0 5
      have cf0 := hO1.fr 0
      have hb := hO1.below
      repeat' ((fail_if_success at_builtin); (first | go_skip | go_guarded | go_step))
      all_goals go_ret
      all_goals exact ⟨rfl, hb⟩
     ·
      have gn2 : (n2 == 0) = false := by simpa using hn2
      have gpn2 : (0 : Int) < (n2 : Int) := by omega
      have gqn2 : ((n2 : Int) == 0) = false := by simp; omega
      clear hn2
      have hv : unusedZ (4 : Int) false 0 s n n2 = false := by unfold unusedZ; simp [gs2, gn2]
      rw [hv]
      clear hv
      go_enter Tryd.func63, Tryd.ntmps63
      go_upto_region 1 with (fail)
      generalize hx_ : World.alloc w _ = wo1
      have hO1 : OwnB w wo1 [(w.heap.size, [.int .i64 (4 : Int), .bool false, .int .i64 0, .string s, .slice A n c, .slice A2 n2 c2])] := by rw [← hx_]; exact (OwnB.refl w).new #[.int .i64 (4 : Int), .bool false, .int .i64 0, .string s, .slice A n c, .slice A2 n2 c2] _ (g := w.heap.size)
      clear hx_
      have c0_0 := hO1.c 0 0
      have c0_1 := hO1.c 0 1
      have c0_2 := hO1.c 0 2
      have c0_3 := hO1.c 0 3
      have c0_4 := hO1.c 0 4
      have c0_5 := hO1.c 0 5
      have cf0 := hO1.fr 0
      have hb := hO1.below
      repeat' ((fail_if_success at_builtin); (first | go_skip | go_guarded | go_step))
      all_goals go_ret
      all_goals exact ⟨rfl, hb⟩
    ·
     have gs := toList_someT hs
     have gs2 : (s.size == 0) = false := by simpa using hs
     have gs3 : ¬ s.toList = [] := by simpa using gs
     clear hs
     have hv : unusedZ (4 : Int) false 0 s n n2 = false := by unfold unusedZ; simp [gs2]
     rw [hv]
     clear hv
     go_enter Tryd.func63, Tryd.ntmps63
     go_upto_region 1 with (fail)
     generalize hx_ : World.alloc w _ = wo1
     have hO1 : OwnB w wo1 [(w.heap.size, [.int .i64 (4 : Int), .bool false, .int .i64 0, .string s, .slice A n c, .slice A2 n2 c2])] := by rw [← hx_]; exact (OwnB.refl w).new #[.int .i64 (4 : Int), .bool false, .int .i64 0, .string s, .slice A n c, .slice A2 n2 c2] _ (g := w.heap.size)
     clear hx_
     have c0_0 := hO1.c 0 0
     have c0_1 := hO1.c 0 1
     have c0_2 := hO1.c 0 2
     have c0_3 := hO1.c 0 3
     have c0_4 := hO1.c 0 4
     have c0_5 := hO1.c 0 5
     have cf0 := hO1.fr 0
     have hb := hO1.below
     repeat' ((fail_if_success at_builtin); (first | go_skip | go_guarded | go_step))
     all_goals go_ret
     all_goals exact ⟨rfl, hb⟩
   ·
    have gi : (i == 0) = false := by simpa using hi
    have hv : unusedZ (4 : Int) false i s n n2 = false := by unfold unusedZ; simp [gi]
    rw [hv]
    clear hv
    go_enter Tryd.func63, Tryd.ntmps63
    go_upto_region 1 with (fail)
    generalize hx_ : World.alloc w _ = wo1
    have hO1 : OwnB w wo1 [(w.heap.size, [.int .i64 (4 : Int), .bool false, .int .i64 i, .string s, .slice A n c, .slice A2 n2 c2])] := by rw [← hx_]; exact (OwnB.refl w).new #[.int .i64 (4 : Int), .bool false, .int .i64 i, .string s, .slice A n c, .slice A2 n2 c2] _ (g := w.heap.size)
    clear hx_
    have c0_0 := hO1.c 0 0
    have c0_1 := hO1.c 0 1
    have c0_2 := hO1.c 0 2
    have c0_3 := hO1.c 0 3
    have c0_4 := hO1.c 0 4
    have c0_5 := hO1.c 0 5
    have cf0 := hO1.fr 0
    have hb := hO1.below
    repeat' ((fail_if_success at_builtin); (first | go_skip | go_guarded | go_step))
    all_goals go_ret
    all_goals exact ⟨rfl, hb⟩
 by_cases hk5 : k = 5
 ·
  subst hk5
  cases b with
  | true =>
   have hv : unusedZ (5 : Int) true i s n n2 = false := by unfold unusedZ; simp []
   rw [hv]
   clear hv
   go_enter Tryd.func63, Tryd.ntmps63
   go_upto_region 1 with (fail)
   generalize hx_ : World.alloc w _ = wo1
   have hO1 : OwnB w wo1 [(w.heap.size, [.int .i64 (5 : Int), .bool true, .int .i64 i, .string s, .slice A n c, .slice A2 n2 c2])] := by rw [← hx_]; exact (OwnB.refl w).new #[.int .i64 (5 : Int), .bool true, .int .i64 i, .string s, .slice A n c, .slice A2 n2 c2] _ (g := w.heap.size)
   clear hx_
   have c0_0 := hO1.c 0 0
   have c0_1 := hO1.c 0 1
   have c0_2 := hO1.c 0 2
   have c0_3 := hO1.c 0 3
   have c0_4 := hO1.c 0 4
   have c0_5 := hO1.c 0 5
   have cf0 := hO1.fr 0
   have hb := hO1.below
   repeat' ((fail_if_success at_builtin); (first | go_skip | go_guarded | go_step))
   all_goals go_ret
   all_goals exact ⟨rfl, hb⟩
  | false =>
   by_cases hi : i = 0
   ·
    subst hi
    by_cases hs : s.size = 0
    ·
     have gs := toList_noneT hs
     have gs2 : (s.size == 0) = true := by simpa using hs
     have gs3 : s.toList = [] := by simpa using gs
     clear hs
     have hv : unusedZ (5 : Int) false 0 s n n2 = true := by unfold unusedZ; simp [gs2]
     rw [hv]
     clear hv
     go_enter Tryd.func63, Tryd.ntmps63
     go_upto_region 1 with (fail)
     generalize hx_ : World.alloc w _ = wo1
     have hO1 : OwnB w wo1 [(w.heap.size, [.int .i64 (5 : Int), .bool false, .int .i64 0, .string s, .slice A n c, .slice A2 n2 c2])] := by rw [← hx_]; exact (OwnB.refl w).new #[.int .i64 (5 : Int), .bool false, .int .i64 0, .string s, .slice A n c, .slice A2 n2 c2] _ (g := w.heap.size)
     clear hx_
     have c0_0 := hO1.c 0 0
     have c0_1 := hO1.c 0 1
     have c0_2 := hO1.c 0 2
     have c0_3 := hO1.c 0 3
     have c0_4 := hO1.c 0 4
     have c0_5 := hO1.c 0 5
     have cf0 := hO1.fr 0
     have hb := hO1.below
     repeat' ((fail_if_success at_builtin); (first | go_skip | go_guarded | go_step))
     all_goals go_ret
     all_goals exact ⟨rfl, hb⟩
    ·
     have gs := toList_someT hs
     have gs2 : (s.size == 0) = false := by simpa using hs
     have gs3 : ¬ s.toList = [] := by simpa using gs
     clear hs
     have hv : unusedZ (5 : Int) false 0 s n n2 = false := by unfold unusedZ; simp [gs2]
     rw [hv]
     clear hv
     go_enter Tryd.func63, Tryd.ntmps63
     go_upto_region 1 with (fail)
     generalize hx_ : World.alloc w _ = wo1
     have hO1 : OwnB w wo1 [(w.heap.size, [.int .i64 (5 : Int), .bool false, .int .i64 0, .string s, .slice A n c, .slice A2 n2 c2])] := by rw [← hx_]; exact (OwnB.refl w).new #[.int .i64 (5 : Int), .bool false, .int .i64 0, .string s, .slice A n c, .slice A2 n2 c2] _ (g := w.heap.size)
     clear hx_
     have c0_0 := hO1.c 0 0
     have c0_1 := hO1.c 0 1
     have c0_2 := hO1.c 0 2
     have c0_3 := hO1.c 0 3
     have c0_4 := hO1.c 0 4
     have c0_5 := hO1.c 0 5
     have cf0 := hO1.fr 0
     have hb := hO1.below
     repeat' ((fail_if_success at_builtin); (first | go_skip | go_guarded | go_step))
     all_goals go_ret
     all_goals exact ⟨rfl, hb⟩
   ·
    have gi : (i == 0) = false := by simpa using hi
    have hv : unusedZ (5 : Int) false i s n n2 = false := by unfold unusedZ; simp [gi]
    rw [hv]
    clear hv
    go_enter Tryd.func63, Tryd.ntmps63
    go_upto_region 1 with (fail)
    generalize hx_ : World.alloc w _ = wo1
    have hO1 : OwnB w wo1 [(w.heap.size, [.int .i64 (5 : Int), .bool false, .int .i64 i, .string s, .slice A n c, .slice A2 n2 c2])] := by rw [← hx_]; exact (OwnB.refl w).new #[.int .i64 (5 : Int), .bool false, .int .i64 i, .string s, .slice A n c, .slice A2 n2 c2] _ (g := w.heap.size)
    clear hx_
    have c0_0 := hO1.c 0 0
    have c0_1 := hO1.c 0 1
    have c0_2 := hO1.c 0 2
    have c0_3 := hO1.c 0 3
    have c0_4 := hO1.c 0 4
    have c0_5 := hO1.c 0 5
    have cf0 := hO1.fr 0
    have hb := hO1.below
    repeat' ((fail_if_success at_builtin); (first | go_skip | go_guarded | go_step))
    all_goals go_ret
    all_goals exact ⟨rfl, hb⟩
 have k1 : (k == 1) = false := by simpa using hk1
 have k2 : (k == 2) = false := by simpa using hk2
 have k3 : (k == 3) = false := by simpa using hk3
 have k4 : (k == 4) = false := by simpa using hk4
 have k5 : (k == 5) = false := by simpa using hk5
 have m4 : (k != 4) = true := by simpa using hk4
 have m5 : (k != 5) = true := by simpa using hk5
 cases b with
 | true =>
  have hv : unusedZ k true i s n n2 = false := by unfold unusedZ; simp [k1, k2, k3, k4, k5]
  rw [hv]
  clear hv
  go_enter Tryd.func63, Tryd.ntmps63
  go_upto_region 1 with (fail)
  generalize hx_ : World.alloc w _ = wo1
  have hO1 : OwnB w wo1 [(w.heap.size, [.int .i64 k, .bool true, .int .i64 i, .string s, .slice A n c, .slice A2 n2 c2])] := by rw [← hx_]; exact (OwnB.refl w).new #[.int .i64 k, .bool true, .int .i64 i, .string s, .slice A n c, .slice A2 n2 c2] _ (g := w.heap.size)
  clear hx_
  have c0_0 := hO1.c 0 0
  have c0_1 := hO1.c 0 1
  have c0_2 := hO1.c 0 2
  have c0_3 := hO1.c 0 3
  have c0_4 := hO1.c 0 4
  have c0_5 := hO1.c 0 5
  have cf0 := hO1.fr 0
  have hb := hO1.below
  repeat' ((fail_if_success at_builtin); (first | go_skip | go_guarded | go_step))
  all_goals go_ret
  all_goals exact ⟨rfl, hb⟩
 | false =>
  by_cases hi : i = 0
  ·
   subst hi
   by_cases hs : s.size = 0
   ·
    have gs := toList_noneT hs
    have gs2 : (s.size == 0) = true := by simpa using hs
    have gs3 : s.toList = [] := by simpa using gs
    clear hs
    by_cases hn : n = 0
    ·
     subst hn
     by_cases hn2 : n2 = 0
     ·
      subst hn2
      have hv : unusedZ k false 0 s 0 0 = true := by unfold unusedZ; simp [k1, k2, k3, k4, k5, gs2]
      rw [hv]
      clear hv
      go_enter Tryd.func63, Tryd.ntmps63
      go_upto_region 1 with (fail)
      generalize hx_ : World.alloc w _ = wo1
      have hO1 : OwnB w wo1 [(w.heap.size, [.int .i64 k, .bool false, .int .i64 0, .string s, .slice A 0 c, .slice A2 0 c2])] := by rw [← hx_]; exact (OwnB.refl w).new #[.int .i64 k, .bool false, .int .i64 0, .string s, .slice A 0 c, .slice A2 0 c2] _ (g := w.heap.size)
      clear hx_
      have c0_0 := hO1.c 0 0
      have c0_1 := hO1.c 0 1
      have c0_2 := hO1.c 0 2
      have c0_3 := hO1.c 0 3
      have c0_4 := hO1.c 0 4
      have c0_5 := hO1.c 0 5
      have cf0 := hO1.fr 0
      have hb := hO1.below
      repeat' ((fail_if_success at_builtin); (first | go_skip | go_guarded | go_step))
      all_goals go_ret
      all_goals exact ⟨rfl, hb⟩
     ·
      have gn2 : (n2 == 0) = false := by simpa using hn2
      have gpn2 : (0 : Int) < (n2 : Int) := by omega
      have gqn2 : ((n2 : Int) == 0) = false := by simp; omega
      clear hn2
      have hv : unusedZ k false 0 s 0 n2 = false := by unfold unusedZ; simp [k1, k2, k3, k4, k5, gs2, gn2]
      rw [hv]
      clear hv
      go_enter Tryd.func63, Tryd.ntmps63
      go_upto_region 1 with (fail)
      generalize hx_ : World.alloc w _ = wo1
      have hO1 : OwnB w wo1 [(w.heap.size, [.int .i64 k, .bool false, .int .i64 0, .string s, .slice A 0 c, .slice A2 n2 c2])] := by rw [← hx_]; exact (OwnB.refl w).new #[.int .i64 k, .bool false, .int .i64 0, .string s, .slice A 0 c, .slice A2 n2 c2] _ (g := w.heap.size)
      clear hx_
      have c0_0 := hO1.c 0 0
      have c0_1 := hO1.c 0 1
      have c0_2 := hO1.c 0 2
      have c0_3 := hO1.c 0 3
      have c0_4 := hO1.c 0 4
      have c0_5 := hO1.c 0 5
      have cf0 := hO1.fr 0
      have hb := hO1.below
      repeat' ((fail_if_success at_builtin); (first | go_skip | go_guarded | go_step))
      all_goals go_ret
      all_goals exact ⟨rfl, hb⟩
    ·
     have gn : (n == 0) = false := by simpa using hn
     have gpn : (0 : Int) < (n : Int) := by omega
     have gqn : ((n : Int) == 0) = false := by simp; omega
     clear hn
     have hv : unusedZ k false 0 s n n2 = false := by unfold unusedZ; simp [k1, k2, k3, k4, k5, gs2, gn]
     rw [hv]
     clear hv
     go_enter Tryd.func63, Tryd.ntmps63
     go_upto_region 1 with (fail)
     generalize hx_ : World.alloc w _ = wo1
     have hO1 : OwnB w wo1 [(w.heap.size, [.int .i64 k, .bool false, .int .i64 0, .string s, .slice A n c, .slice A2 n2 c2])] := by rw [← hx_]; exact (OwnB.refl w).new #[.int .i64 k, .bool false, .int .i64 0, .string s, .slice A n c, .slice A2 n2 c2] _ (g := w.heap.size)
     clear hx_
     have c0_0 := hO1.c 0 0
     have c0_1 := hO1.c 0 1
     have c0_2 := hO1.c 0 2
     have c0_3 := hO1.c 0 3
     have c0_4 := hO1.c 0 4
     have c0_5 := hO1.c 0 5
     have cf0 := hO1.fr 0
     have hb := hO1.below
     repeat' ((fail_if_success at_builtin); (first | go_skip | go_guarded | go_step))
     all_goals go_ret
     all_goals exact ⟨rfl, hb⟩
   ·
    have gs := toList_someT hs
    have gs2 : (s.size == 0) = false := by simpa using hs
    have gs3 : ¬ s.toList = [] := by simpa using gs
    clear hs
    have hv : unusedZ k false 0 s n n2 = false := by unfold unusedZ; simp [k1, k2, k3, k4, k5, gs2]
    rw [hv]
    clear hv
    go_enter Tryd.func63, Tryd.ntmps63
    go_upto_region 1 with (fail)
    generalize hx_ : World.alloc w _ = wo1
    have hO1 : OwnB w wo1 [(w.heap.size, [.int .i64 k, .bool false, .int .i64 0, .string s, .slice A n c, .slice A2 n2 c2])] := by rw [← hx_]; exact (OwnB.refl w).new #[.int .i64 k, .bool false, .int .i64 0, .string s, .slice A n c, .slice A2 n2 c2] _ (g := w.heap.size)
    clear hx_
    have c0_0 := hO1.c 0 0
    have c0_1 := hO1.c 0 1
    have c0_2 := hO1.c 0 2
    have c0_3 := hO1.c 0 3
    have c0_4 := hO1.c 0 4
    have c0_5 := hO1.c 0 5
    have cf0 := hO1.fr 0
    have hb := hO1.below
    repeat' ((fail_if_success at_builtin); (first | go_skip | go_guarded | go_step))
    all_goals go_ret
    all_goals exact ⟨rfl, hb⟩
  ·
   have gi : (i == 0) = false := by simpa using hi
   have hv : unusedZ k false i s n n2 = false := by unfold unusedZ; simp [k1, k2, k3, k4, k5, gi]
   rw [hv]
   clear hv
   go_enter Tryd.func63, Tryd.ntmps63
   go_upto_region 1 with (fail)
   generalize hx_ : World.alloc w _ = wo1
   have hO1 : OwnB w wo1 [(w.heap.size, [.int .i64 k, .bool false, .int .i64 i, .string s, .slice A n c, .slice A2 n2 c2])] := by rw [← hx_]; exact (OwnB.refl w).new #[.int .i64 k, .bool false, .int .i64 i, .string s, .slice A n c, .slice A2 n2 c2] _ (g := w.heap.size)
   clear hx_
   have c0_0 := hO1.c 0 0
   have c0_1 := hO1.c 0 1
   have c0_2 := hO1.c 0 2
   have c0_3 := hO1.c 0 3
   have c0_4 := hO1.c 0 4
   have c0_5 := hO1.c 0 5
   have cf0 := hO1.fr 0
   have hb := hO1.below
   repeat' ((fail_if_success at_builtin); (first | go_skip | go_guarded | go_step))
   all_goals go_ret
   all_goals exact ⟨rfl, hb⟩
set_option maxRecDepth 100000 in
set_option maxHeartbeats 4000000 in
theorem plain_any (k : Int) (b : Bool) (i : Int) (s : ByteArray) (A : Option Addr) (n c : Nat) (A2 : Option Addr) (n2 c2 : Nat) (w : World) : Calls Tryd.prog 56 #[.agg #[.int .i64 k, .bool b, .int .i64 i, .string s, .slice A n c, .slice A2 n2 c2]] w fun e w' => e = .returned (.bool (unusedZ k b i s n n2)) ∧ Below w.heap.size w w' := by
 by_cases hk1 : k = 1
 ·
  subst hk1
  by_cases hi : i = 0
  ·
   subst hi
   by_cases hs : s.size = 0
   ·
    have gs := toList_noneT hs
    have gs2 : (s.size == 0) = true := by simpa using hs
    have gs3 : s.toList = [] := by simpa using gs
    clear hs
    by_cases hn : n = 0
    ·
     subst hn
     by_cases hn2 : n2 = 0
     ·
      subst hn2
      have hv : unusedZ (1 : Int) b 0 s 0 0 = true := by unfold unusedZ; simp [gs2]
      rw [hv]
      clear hv
      go_enter Tryd.func56, Tryd.ntmps56
      go_upto_region 1 with (fail)
      generalize hx_ : World.alloc w _ = wo1
      have hO1 : OwnB w wo1 [(w.heap.size, [.int .i64 (1 : Int), .bool b, .int .i64 0, .string s, .slice A 0 c, .slice A2 0 c2])] := by rw [← hx_]; exact (OwnB.refl w).new #[.int .i64 (1 : Int), .bool b, .int .i64 0, .string s, .slice A 0 c, .slice A2 0 c2] _ (g := w.heap.size)
      clear hx_
      have c0_0 := hO1.c 0 0
      have c0_1 := hO1.c 0 1
      have c0_2 := hO1.c 0 2
      have c0_3 := hO1.c 0 3
      have c0_4 := hO1.c 0 4
      have c0_5 := hO1.c 0 5
      have cf0 := hO1.fr 0
      have hb := hO1.below
      repeat' ((fail_if_success at_builtin); (first | go_skip | go_guarded | go_step))
      all_goals go_ret
      all_goals exact ⟨rfl, hb⟩
     ·
      have gn2 : (n2 == 0) = false := by simpa using hn2
      have gpn2 : (0 : Int) < (n2 : Int) := by omega
      have gqn2 : ((n2 : Int) == 0) = false := by simp; omega
      clear hn2
      have hv : unusedZ (1 : Int) b 0 s 0 n2 = false := by unfold unusedZ; simp [gs2, gn2]
      rw [hv]
      clear hv
      go_enter Tryd.func56, Tryd.ntmps56
      go_upto_region 1 with (fail)
      generalize hx_ : World.alloc w _ = wo1
      have hO1 : OwnB w wo1 [(w.heap.size, [.int .i64 (1 : Int), .bool b, .int .i64 0, .string s, .slice A 0 c, .slice A2 n2 c2])] := by rw [← hx_]; exact (OwnB.refl w).new #[.int .i64 (1 : Int), .bool b, .int .i64 0, .string s, .slice A 0 c, .slice A2 n2 c2] _ (g := w.heap.size)
      clear hx_
      have c0_0 := hO1.c 0 0
      have c0_1 := hO1.c 0 1
      have c0_2 := hO1.c 0 2
      have c0_3 := hO1.c 0 3
      have c0_4 := hO1.c 0 4
      have c0_5 := hO1.c 0 5
      have cf0 := hO1.fr 0
      have hb := hO1.below
      repeat' ((fail_if_success at_builtin); (first | go_skip | go_guarded | go_step))
      all_goals go_ret
      all_goals exact ⟨rfl, hb⟩
    ·
     have gn : (n == 0) = false := by simpa using hn
     have gpn : (0 : Int) < (n : Int) := by omega
     have gqn : ((n : Int) == 0) = false := by simp; omega
     clear hn
     have hv : unusedZ (1 : Int) b 0 s n n2 = false := by unfold unusedZ; simp [gs2, gn]
     rw [hv]
     clear hv
     go_enter Tryd.func56, Tryd.ntmps56
     go_upto_region 1 with (fail)
     generalize hx_ : World.alloc w _ = wo1
     have hO1 : OwnB w wo1 [(w.heap.size, [.int .i64 (1 : Int), .bool b, .int .i64 0, .string s, .slice A n c, .slice A2 n2 c2])] := by rw [← hx_]; exact (OwnB.refl w).new #[.int .i64 (1 : Int), .bool b, .int .i64 0, .string s, .slice A n c, .slice A2 n2 c2] _ (g := w.heap.size)
     clear hx_
     have c0_0 := hO1.c 0 0
     have c0_1 := hO1.c 0 1
     have c0_2 := hO1.c 0 2
     have c0_3 := hO1.c 0 3
     have c0_4 := hO1.c 0 4
     have c0_5 := hO1.c 0 5
     have cf0 := hO1.fr 0
     have hb := hO1.below
     repeat' ((fail_if_success at_builtin); (first | go_skip | go_guarded | go_step))
     all_goals go_ret
     all_goals exact ⟨rfl, hb⟩
   ·
    have gs := toList_someT hs
    have gs2 : (s.size == 0) = false := by simpa using hs
    have gs3 : ¬ s.toList = [] := by simpa using gs
    clear hs
    have hv : unusedZ (1 : Int) b 0 s n n2 = false := by unfold unusedZ; simp [gs2]
    rw [hv]
    clear hv
    go_enter Tryd.func56, Tryd.ntmps56
    go_upto_region 1 with (fail)
    generalize hx_ : World.alloc w _ = wo1
    have hO1 : OwnB w wo1 [(w.heap.size, [.int .i64 (1 : Int), .bool b, .int .i64 0, .string s, .slice A n c, .slice A2 n2 c2])] := by rw [← hx_]; exact (OwnB.refl w).new #[.int .i64 (1 : Int), .bool b, .int .i64 0, .string s, .slice A n c, .slice A2 n2 c2] _ (g := w.heap.size)
    clear hx_
    have c0_0 := hO1.c 0 0
    have c0_1 := hO1.c 0 1
    have c0_2 := hO1.c 0 2
    have c0_3 := hO1.c 0 3
    have c0_4 := hO1.c 0 4
    have c0_5 := hO1.c 0 5
    have cf0 := hO1.fr 0
    have hb := hO1.below
    repeat' ((fail_if_success at_builtin); (first | go_skip | go_guarded | go_step))
    all_goals go_ret
    all_goals exact ⟨rfl, hb⟩
  ·
   have gi : (i == 0) = false := by simpa using hi
   have hv : unusedZ (1 : Int) b i s n n2 = false := by unfold unusedZ; simp [gi]
   rw [hv]
   clear hv
   go_enter Tryd.func56, Tryd.ntmps56
   go_upto_region 1 with (fail)
   generalize hx_ : World.alloc w _ = wo1
   have hO1 : OwnB w wo1 [(w.heap.size, [.int .i64 (1 : Int), .bool b, .int .i64 i, .string s, .slice A n c, .slice A2 n2 c2])] := by rw [← hx_]; exact (OwnB.refl w).new #[.int .i64 (1 : Int), .bool b, .int .i64 i, .string s, .slice A n c, .slice A2 n2 c2] _ (g := w.heap.size)
   clear hx_
   have c0_0 := hO1.c 0 0
   have c0_1 := hO1.c 0 1
   have c0_2 := hO1.c 0 2
   have c0_3 := hO1.c 0 3
   have c0_4 := hO1.c 0 4
   have c0_5 := hO1.c 0 5
   have cf0 := hO1.fr 0
   have hb := hO1.below
   repeat' ((fail_if_success at_builtin); (first | go_skip | go_guarded | go_step))
   all_goals go_ret
   all_goals exact ⟨rfl, hb⟩
 by_cases hk2 : k = 2
 ·
  subst hk2
  cases b with
  | true =>
   have hv : unusedZ (2 : Int) true i s n n2 = false := by unfold unusedZ; simp []
   rw [hv]
   clear hv
   go_enter Tryd.func56, Tryd.ntmps56
   go_upto_region 1 with (fail)
   generalize hx_ : World.alloc w _ = wo1
   have hO1 : OwnB w wo1 [(w.heap.size, [.int .i64 (2 : Int), .bool true, .int .i64 i, .string s, .slice A n c, .slice A2 n2 c2])] := by rw [← hx_]; exact (OwnB.refl w).new #[.int .i64 (2 : Int), .bool true, .int .i64 i, .string s, .slice A n c, .slice A2 n2 c2] _ (g := w.heap.size)
   clear hx_
   have c0_0 := hO1.c 0 0
   have c0_1 := hO1.c 0 1
   have c0_2 := hO1.c 0 2
   have c0_3 := hO1.c 0 3
   have c0_4 := hO1.c 0 4
   have c0_5 := hO1.c 0 5
   have cf0 := hO1.fr 0
   have hb := hO1.below
   repeat' ((fail_if_success at_builtin); (first | go_skip | go_guarded | go_step))
   all_goals go_ret
   all_goals exact ⟨rfl, hb⟩
  | false =>
   by_cases hs : s.size = 0
   ·
    have gs := toList_noneT hs
    have gs2 : (s.size == 0) = true := by simpa using hs
    have gs3 : s.toList = [] := by simpa using gs
    clear hs
    by_cases hn : n = 0
    ·
     subst hn
     by_cases hn2 : n2 = 0
     ·
      subst hn2
      have hv : unusedZ (2 : Int) false i s 0 0 = true := by unfold unusedZ; simp [gs2]
      rw [hv]
      clear hv
      go_enter Tryd.func56, Tryd.ntmps56
      go_upto_region 1 with (fail)
      generalize hx_ : World.alloc w _ = wo1
      have hO1 : OwnB w wo1 [(w.heap.size, [.int .i64 (2 : Int), .bool false, .int .i64 i, .string s, .slice A 0 c, .slice A2 0 c2])] := by rw [← hx_]; exact (OwnB.refl w).new #[.int .i64 (2 : Int), .bool false, .int .i64 i, .string s, .slice A 0 c, .slice A2 0 c2] _ (g := w.heap.size)
      clear hx_
      have c0_0 := hO1.c 0 0
      have c0_1 := hO1.c 0 1
      have c0_2 := hO1.c 0 2
      have c0_3 := hO1.c 0 3
      have c0_4 := hO1.c 0 4
      have c0_5 := hO1.c 0 5
      have cf0 := hO1.fr 0
      have hb := hO1.below
      repeat' ((fail_if_success at_builtin); (first | go_skip | go_guarded | go_step))
      all_goals go_ret
      all_goals exact ⟨rfl, hb⟩
     ·
      have gn2 : (n2 == 0) = false := by simpa using hn2
      have gpn2 : (0 : Int) < (n2 : Int) := by omega
      have gqn2 : ((n2 : Int) == 0) = false := by simp; omega
      clear hn2
      have hv : unusedZ (2 : Int) false i s 0 n2 = false := by unfold unusedZ; simp [gs2, gn2]
      rw [hv]
      clear hv
      go_enter Tryd.func56, Tryd.ntmps56
      go_upto_region 1 with (fail)
      generalize hx_ : World.alloc w _ = wo1
      have hO1 : OwnB w wo1 [(w.heap.size, [.int .i64 (2 : Int), .bool false, .int .i64 i, .string s, .slice A 0 c, .slice A2 n2 c2])] := by rw [← hx_]; exact (OwnB.refl w).new #[.int .i64 (2 : Int), .bool false, .int .i64 i, .string s, .slice A 0 c, .slice A2 n2 c2] _ (g := w.heap.size)
      clear hx_
      have c0_0 := hO1.c 0 0
      have c0_1 := hO1.c 0 1
      have c0_2 := hO1.c 0 2
      have c0_3 := hO1.c 0 3
      have c0_4 := hO1.c 0 4
      have c0_5 := hO1.c 0 5
      have cf0 := hO1.fr 0
      have hb := hO1.below
      repeat' ((fail_if_success at_builtin); (first | go_skip | go_guarded | go_step))
      all_goals go_ret
      all_goals exact ⟨rfl, hb⟩
    ·
     have gn : (n == 0) = false := by simpa using hn
     have gpn : (0 : Int) < (n : Int) := by omega
     have gqn : ((n : Int) == 0) = false := by simp; omega
     clear hn
     have hv : unusedZ (2 : Int) false i s n n2 = false := by unfold unusedZ; simp [gs2, gn]
     rw [hv]
     clear hv
     go_enter Tryd.func56, Tryd.ntmps56
     go_upto_region 1 with (fail)
     generalize hx_ : World.alloc w _ = wo1
     have hO1 : OwnB w wo1 [(w.heap.size, [.int .i64 (2 : Int), .bool false, .int .i64 i, .string s, .slice A n c, .slice A2 n2 c2])] := by rw [← hx_]; exact (OwnB.refl w).new #[.int .i64 (2 : Int), .bool false, .int .i64 i, .string s, .slice A n c, .slice A2 n2 c2] _ (g := w.heap.size)
     clear hx_
     have c0_0 := hO1.c 0 0
     have c0_1 := hO1.c 0 1
     have c0_2 := hO1.c 0 2
     have c0_3 := hO1.c 0 3
     have c0_4 := hO1.c 0 4
     have c0_5 := hO1.c 0 5
     have cf0 := hO1.fr 0
     have hb := hO1.below
     repeat' ((fail_if_success at_builtin); (first | go_skip | go_guarded | go_step))
     all_goals go_ret
     all_goals exact ⟨rfl, hb⟩
   ·
    have gs := toList_someT hs
    have gs2 : (s.size == 0) = false := by simpa using hs
    have gs3 : ¬ s.toList = [] := by simpa using gs
    clear hs
    have hv : unusedZ (2 : Int) false i s n n2 = false := by unfold unusedZ; simp [gs2]
    rw [hv]
    clear hv
    go_enter Tryd.func56, Tryd.ntmps56
    go_upto_region 1 with (fail)
    generalize hx_ : World.alloc w _ = wo1
    have hO1 : OwnB w wo1 [(w.heap.size, [.int .i64 (2 : Int), .bool false, .int .i64 i, .string s, .slice A n c, .slice A2 n2 c2])] := by rw [← hx_]; exact (OwnB.refl w).new #[.int .i64 (2 : Int), .bool false, .int .i64 i, .string s, .slice A n c, .slice A2 n2 c2] _ (g := w.heap.size)
    clear hx_
    have c0_0 := hO1.c 0 0
    have c0_1 := hO1.c 0 1
    have c0_2 := hO1.c 0 2
    have c0_3 := hO1.c 0 3
    have c0_4 := hO1.c 0 4
    have c0_5 := hO1.c 0 5
    have cf0 := hO1.fr 0
    have hb := hO1.below
    repeat' ((fail_if_success at_builtin); (first | go_skip | go_guarded | go_step))
    all_goals go_ret
    all_goals exact ⟨rfl, hb⟩
 by_cases hk3 : k = 3
 ·
  subst hk3
  cases b with
  | true =>
   have hv : unusedZ (3 : Int) true i s n n2 = false := by unfold unusedZ; simp []
   rw [hv]
   clear hv
   go_enter Tryd.func56, Tryd.ntmps56
   go_upto_region 1 with (fail)
   generalize hx_ : World.alloc w _ = wo1
   have hO1 : OwnB w wo1 [(w.heap.size, [.int .i64 (3 : Int), .bool true, .int .i64 i, .string s, .slice A n c, .slice A2 n2 c2])] := by rw [← hx_]; exact (OwnB.refl w).new #[.int .i64 (3 : Int), .bool true, .int .i64 i, .string s, .slice A n c, .slice A2 n2 c2] _ (g := w.heap.size)
   clear hx_
   have c0_0 := hO1.c 0 0
   have c0_1 := hO1.c 0 1
   have c0_2 := hO1.c 0 2
   have c0_3 := hO1.c 0 3
   have c0_4 := hO1.c 0 4
   have c0_5 := hO1.c 0 5
   have cf0 := hO1.fr 0
   have hb := hO1.below
   repeat' ((fail_if_success at_builtin); (first | go_skip | go_guarded | go_step))
   all_goals go_ret
   all_goals exact ⟨rfl, hb⟩
  | false =>
   by_cases hi : i = 0
   ·
    subst hi
    by_cases hn : n = 0
    ·
     subst hn
     by_cases hn2 : n2 = 0
     ·
      subst hn2
      have hv : unusedZ (3 : Int) false 0 s 0 0 = true := by unfold unusedZ; simp []
      rw [hv]
      clear hv
      go_enter Tryd.func56, Tryd.ntmps56
      go_upto_region 1 with (fail)
      generalize hx_ : World.alloc w _ = wo1
      have hO1 : OwnB w wo1 [(w.heap.size, [.int .i64 (3 : Int), .bool false, .int .i64 0, .string s, .slice A 0 c, .slice A2 0 c2])] := by rw [← hx_]; exact (OwnB.refl w).new #[.int .i64 (3 : Int), .bool false, .int .i64 0, .string s, .slice A 0 c, .slice A2 0 c2] _ (g := w.heap.size)
      clear hx_
      have c0_0 := hO1.c 0 0
      have c0_1 := hO1.c 0 1
      have c0_2 := hO1.c 0 2
      have c0_3 := hO1.c 0 3
      have c0_4 := hO1.c 0 4
      have c0_5 := hO1.c 0 5
      have cf0 := hO1.fr 0
      have hb := hO1.below
      repeat' ((fail_if_success at_builtin); (first | go_skip | go_guarded | go_step))
      all_goals go_ret
      all_goals exact ⟨rfl, hb⟩
     ·
      have gn2 : (n2 == 0) = false := by simpa using hn2
      have gpn2 : (0 : Int) < (n2 : Int) := by omega
      have gqn2 : ((n2 : Int) == 0) = false := by simp; omega
      clear hn2
      have hv : unusedZ (3 : Int) false 0 s 0 n2 = false := by unfold unusedZ; simp [gn2]
      rw [hv]
      clear hv
      go_enter Tryd.func56, Tryd.ntmps56
      go_upto_region 1 with (fail)
      generalize hx_ : World.alloc w _ = wo1
      have hO1 : OwnB w wo1 [(w.heap.size, [.int .i64 (3 : Int), .bool false, .int .i64 0, .string s, .slice A 0 c, .slice A2 n2 c2])] := by rw [← hx_]; exact (OwnB.refl w).new #[.int .i64 (3 : Int), .bool false, .int .i64 0, .string s, .slice A 0 c, .slice A2 n2 c2] _ (g := w.heap.size)
      clear hx_
      have c0_0 := hO1.c 0 0
      have c0_1 := hO1.c 0 1
      have c0_2 := hO1.c 0 2
      have c0_3 := hO1.c 0 3
      have c0_4 := hO1.c 0 4
      have c0_5 := hO1.c 0 5
      have cf0 := hO1.fr 0
      have hb := hO1.below
      repeat' ((fail_if_success at_builtin); (first | go_skip | go_guarded | go_step))
      all_goals go_ret
      all_goals exact ⟨rfl, hb⟩
    ·
     have gn : (n == 0) = false := by simpa using hn
     have gpn : (0 : Int) < (n : Int) := by omega
     have gqn : ((n : Int) == 0) = false := by simp; omega
     clear hn
     have hv : unusedZ (3 : Int) false 0 s n n2 = false := by unfold unusedZ; simp [gn]
     rw [hv]
     clear hv
     go_enter Tryd.func56, Tryd.ntmps56
     go_upto_region 1 with (fail)
     generalize hx_ : World.alloc w _ = wo1
     have hO1 : OwnB w wo1 [(w.heap.size, [.int .i64 (3 : Int), .bool false, .int .i64 0, .string s, .slice A n c, .slice A2 n2 c2])] := by rw [← hx_]; exact (OwnB.refl w).new #[.int .i64 (3 : Int), .bool false, .int .i64 0, .string s, .slice A n c, .slice A2 n2 c2] _ (g := w.heap.size)
     clear hx_
     have c0_0 := hO1.c 0 0
     have c0_1 := hO1.c 0 1
     have c0_2 := hO1.c 0 2
     have c0_3 := hO1.c 0 3
     have c0_4 := hO1.c 0 4
     have c0_5 := hO1.c 0 5
     have cf0 := hO1.fr 0
     have hb := hO1.below
     repeat' ((fail_if_success at_builtin); (first | go_skip | go_guarded | go_step))
     all_goals go_ret
     all_goals exact ⟨rfl, hb⟩
   ·
    have gi : (i == 0) = false := by simpa using hi
    have hv : unusedZ (3 : Int) false i s n n2 = false := by unfold unusedZ; simp [gi]
    rw [hv]
    clear hv
    go_enter Tryd.func56, Tryd.ntmps56
    go_upto_region 1 with (fail)
    generalize hx_ : World.alloc w _ = wo1
    have hO1 : OwnB w wo1 [(w.heap.size, [.int .i64 (3 : Int), .bool false, .int .i64 i, .string s, .slice A n c, .slice A2 n2 c2])] := by rw [← hx_]; exact (OwnB.refl w).new #[.int .i64 (3 : Int), .bool false, .int .i64 i, .string s, .slice A n c, .slice A2 n2 c2] _ (g := w.heap.size)
    clear hx_
    have c0_0 := hO1.c 0 0
    have c0_1 := hO1.c 0 1
    have c0_2 := hO1.c 0 2
    have c0_3 := hO1.c 0 3
    have c0_4 := hO1.c 0 4
    have c0_5 := hO1.c 0 5
    have cf0 := hO1.fr 0
    have hb := hO1.below
    repeat' ((fail_if_success at_builtin); (first | go_skip | go_guarded | go_step))
    all_goals go_ret
    all_goals exact ⟨rfl, hb⟩
 by_cases hk4 : k = 4
 ·
  subst hk4
  cases b with
  | true =>
   have hv : unusedZ (4 : Int) true i s n n2 = false := by unfold unusedZ; simp []
   rw [hv]
   clear hv
   go_enter Tryd.func56, Tryd.ntmps56
   go_upto_region 1 with (fail)
   generalize hx_ : World.alloc w _ = wo1
   have hO1 : OwnB w wo1 [(w.heap.size, [.int .i64 (4 : Int), .bool true, .int .i64 i, .string s, .slice A n c, .slice A2 n2 c2])] := by rw [← hx_]; exact (OwnB.refl w).new #[.int .i64 (4 : Int), .bool true, .int .i64 i, .string s, .slice A n c, .slice A2 n2 c2] _ (g := w.heap.size)
   clear hx_
   have c0_0 := hO1.c 0 0
   have c0_1 := hO1.c 0 1
   have c0_2 := hO1.c 0 2
   have c0_3 := hO1.c 0 3
   have c0_4 := hO1.c 0 4
   have c0_5 := hO1.c 0 5
   have cf0 := hO1.fr 0
   have hb := hO1.below
   repeat' ((fail_if_success at_builtin); (first | go_skip | go_guarded | go_step))
   all_goals go_ret
   all_goals exact ⟨rfl, hb⟩
  | false =>
   by_cases hi : i = 0
   ·
    subst hi
    by_cases hs : s.size = 0
    ·
     have gs := toList_noneT hs
     have gs2 : (s.size == 0) = true := by simpa using hs
     have gs3 : s.toList = [] := by simpa using gs
     clear hs
     by_cases hn2 : n2 = 0
     ·
      subst hn2
      have hv : unusedZ (4 : Int) false 0 s n 0 = true := by unfold unusedZ; simp [gs2]
      rw [hv]
      clear hv
      go_enter Tryd.func56, Tryd.ntmps56
      go_upto_region 1 with (fail)
      generalize hx_ : World.alloc w _ = wo1
      have hO1 : OwnB w wo1 [(w.heap.size, [.int .i64 (4 : Int), .bool false, .int .i64 0, .string s, .slice A n c, .slice A2 0 c2])] := by rw [← hx_]; exact (OwnB.refl w).new #[.int .i64 (4 : Int), .bool false, .int .i64 0, .string s, .slice A n c, .slice A2 0 c2] _ (g := w.heap.size)
      clear hx_
      have c0_0 := hO1.c 0 0
      have c0_1 := hO1.c 0 1
      have c0_2 := hO1.c 0 2
      have c0_3 := hO1.c 0 3
      have c0_4 := hO1.c 0 4
      have c0_5 := hO1.c 0 5
      have cf0 := hO1.fr 0
      have hb := hO1.below
      repeat' ((fail_if_success at_builtin); (first | go_skip | go_guarded | go_step))
      all_goals go_ret
      all_goals exact ⟨rfl, hb⟩
     ·
      have gn2 : (n2 == 0) = false := by simpa using hn2
      have gpn2 : (0 : Int) < (n2 : Int) := by omega
      have gqn2 : ((n2 : Int) == 0) = false := by simp; omega
      clear hn2
      have hv : unusedZ (4 : Int) false 0 s n n2 = false := by unfold unusedZ; simp [gs2, gn2]
      rw [hv]
      clear hv
      go_enter Tryd.func56, Tryd.ntmps56
      go_upto_region 1 with (fail)
      generalize hx_ : World.alloc w _ = wo1
      have hO1 : OwnB w wo1 [(w.heap.size, [.int .i64 (4 : Int), .bool false, .int .i64 0, .string s, .slice A n c, .slice A2 n2 c2])] := by rw [← hx_]; exact (OwnB.refl w).new #[.int .i64 (4 : Int), .bool false, .int .i64 0, .string s, .slice A n c, .slice A2 n2 c2] _ (g := w.heap.size)
      clear hx_
      have c0_0 := hO1.c 0 0
      have c0_1 := hO1.c 0 1
      have c0_2 := hO1.c 0 2
      have c0_3 := hO1.c 0 3
      have c0_4 := hO1.c 0 4
      have c0_5 := hO1.c 0 5
      have cf0 := hO1.fr 0
      have hb := hO1.below
      repeat' ((fail_if_success at_builtin); (first | go_skip | go_guarded | go_step))
      all_goals go_ret
      all_goals exact ⟨rfl, hb⟩
    ·
     have gs := toList_someT hs
     have gs2 : (s.size == 0) = false := by simpa using hs
     have gs3 : ¬ s.toList = [] := by simpa using gs
     clear hs
     have hv : unusedZ (4 : Int) false 0 s n n2 = false := by unfold unusedZ; simp [gs2]
     rw [hv]
     clear hv
     go_enter Tryd.func56, Tryd.ntmps56
     go_upto_region 1 with (fail)
     generalize hx_ : World.alloc w _ = wo1
     have hO1 : OwnB w wo1 [(w.heap.size, [.int .i64 (4 : Int), .bool false, .int .i64 0, .string s, .slice A n c, .slice A2 n2 c2])] := by rw [← hx_]; exact (OwnB.refl w).new #[.int .i64 (4 : Int), .bool false, .int .i64 0, .string s, .slice A n c, .slice A2 n2 c2] _ (g := w.heap.size)
     clear hx_
     have c0_0 := hO1.c 0 0
     have c0_1 := hO1.c 0 1
     have c0_2 := hO1.c 0 2
     have c0_3 := hO1.c 0 3
     have c0_4 := hO1.c 0 4
     have c0_5 := hO1.c 0 5
     have cf0 := hO1.fr 0
     have hb := hO1.below
     repeat' ((fail_if_success at_builtin); (first | go_skip | go_guarded | go_step))
     all_goals go_ret
     all_goals exact ⟨rfl, hb⟩
   ·
    have gi : (i == 0) = false := by simpa using hi
    have hv : unusedZ (4 : Int) false i s n n2 = false := by unfold unusedZ; simp [gi]
    rw [hv]
    clear hv
    go_enter Tryd.func56, Tryd.ntmps56
    go_upto_region 1 with (fail)
    generalize hx_ : World.alloc w _ = wo1
    have hO1 : OwnB w wo1 [(w.heap.size, [.int .i64 (4 : Int), .bool false, .int .i64 i, .string s, .slice A n c, .slice A2 n2 c2])] := by rw [← hx_]; exact (OwnB.refl w).new #[.int .i64 (4 : Int), .bool false, .int .i64 i, .string s, .slice A n c, .slice A2 n2 c2] _ (g := w.heap.size)
    clear hx_
    have c0_0 := hO1.c 0 0
    have c0_1 := hO1.c 0 1
    have c0_2 := hO1.c 0 2
    have c0_3 := hO1.c 0 3
    have c0_4 := hO1.c 0 4
    have c0_5 := hO1.c 0 5
    have cf0 := hO1.fr 0
    have hb := hO1.below
    repeat' ((fail_if_success at_builtin); (first | go_skip | go_guarded | go_step))
    all_goals go_ret
    all_goals exact ⟨rfl, hb⟩
 by_cases hk5 : k = 5
 ·
  subst hk5
  cases b with
  | true =>
   have hv : unusedZ (5 : Int) true i s n n2 = false := by unfold unusedZ; simp []
   rw [hv]
   clear hv
   go_enter Tryd.func56, Tryd.ntmps56
   go_upto_region 1 with (fail)
   generalize hx_ : World.alloc w _ = wo1
   have hO1 : OwnB w wo1 [(w.heap.size, [.int .i64 (5 : Int), .bool true, .int .i64 i, .string s, .slice A n c, .slice A2 n2 c2])] := by rw [← hx_]; exact (OwnB.refl w).new #[.int .i64 (5 : Int), .bool true, .int .i64 i, .string s, .slice A n c, .slice A2 n2 c2] _ (g := w.heap.size)
   clear hx_
   have c0_0 := hO1.c 0 0
   have c0_1 := hO1.c 0 1
   have c0_2 := hO1.c 0 2
   have c0_3 := hO1.c 0 3
   have c0_4 := hO1.c 0 4
   have c0_5 := hO1.c 0 5
   have cf0 := hO1.fr 0
   have hb := hO1.below
   repeat' ((fail_if_success at_builtin); (first | go_skip | go_guarded | go_step))
   all_goals go_ret
   all_goals exact ⟨rfl, hb⟩
  | false =>
   by_cases hi : i = 0
   ·
    subst hi
    by_cases hs : s.size = 0
    ·
     have gs := toList_noneT hs
     have gs2 : (s.size == 0) = true := by simpa using hs
     have gs3 : s.toList = [] := by simpa using gs
     clear hs
     have hv : unusedZ (5 : Int) false 0 s n n2 = true := by unfold unusedZ; simp [gs2]
     rw [hv]
     clear hv
     go_enter Tryd.func56, Tryd.ntmps56
     go_upto_region 1 with (fail)
     generalize hx_ : World.alloc w _ = wo1
     have hO1 : OwnB w wo1 [(w.heap.size, [.int .i64 (5 : Int), .bool false, .int .i64 0, .string s, .slice A n c, .slice A2 n2 c2])] := by rw [← hx_]; exact (OwnB.refl w).new #[.int .i64 (5 : Int), .bool false, .int .i64 0, .string s, .slice A n c, .slice A2 n2 c2] _ (g := w.heap.size)
     clear hx_
     have c0_0 := hO1.c 0 0
     have c0_1 := hO1.c 0 1
     have c0_2 := hO1.c 0 2
     have c0_3 := hO1.c 0 3
     have c0_4 := hO1.c 0 4
     have c0_5 := hO1.c 0 5
     have cf0 := hO1.fr 0
     have hb := hO1.below
     repeat' ((fail_if_success at_builtin); (first | go_skip | go_guarded | go_step))
     all_goals go_ret
     all_goals exact ⟨rfl, hb⟩
    ·
     have gs := toList_someT hs
     have gs2 : (s.size == 0) = false := by simpa using hs
     have gs3 : ¬ s.toList = [] := by simpa using gs
     clear hs
     have hv : unusedZ (5 : Int) false 0 s n n2 = false := by unfold unusedZ; simp [gs2]
     rw [hv]
     clear hv
     go_enter Tryd.func56, Tryd.ntmps56
     go_upto_region 1 with (fail)
     generalize hx_ : World.alloc w _ = wo1
     have hO1 : OwnB w wo1 [(w.heap.size, [.int .i64 (5 : Int), .bool false, .int .i64 0, .string s, .slice A n c, .slice A2 n2 c2])] := by rw [← hx_]; exact (OwnB.refl w).new #[.int .i64 (5 : Int), .bool false, .int .i64 0, .string s, .slice A n c, .slice A2 n2 c2] _ (g := w.heap.size)
     clear hx_
     have c0_0 := hO1.c 0 0
     have c0_1 := hO1.c 0 1
     have c0_2 := hO1.c 0 2
     have c0_3 := hO1.c 0 3
     have c0_4 := hO1.c 0 4
     have c0_5 := hO1.c 0 5
     have cf0 := hO1.fr 0
     have hb := hO1.below
     repeat' ((fail_if_success at_builtin); (first | go_skip | go_guarded | go_step))
     all_goals go_ret
     all_goals exact ⟨rfl, hb⟩
   ·
    have gi : (i == 0) = false := by simpa using hi
    have hv : unusedZ (5 : Int) false i s n n2 = false := by unfold unusedZ; simp [gi]
    rw [hv]
    clear hv
    go_enter Tryd.func56, Tryd.ntmps56
    go_upto_region 1 with (fail)
    generalize hx_ : World.alloc w _ = wo1
    have hO1 : OwnB w wo1 [(w.heap.size, [.int .i64 (5 : Int), .bool false, .int .i64 i, .string s, .slice A n c, .slice A2 n2 c2])] := by rw [← hx_]; exact (OwnB.refl w).new #[.int .i64 (5 : Int), .bool false, .int .i64 i, .string s, .slice A n c, .slice A2 n2 c2] _ (g := w.heap.size)
    clear hx_
    have c0_0 := hO1.c 0 0
    have c0_1 := hO1.c 0 1
    have c0_2 := hO1.c 0 2
    have c0_3 := hO1.c 0 3
    have c0_4 := hO1.c 0 4
    have c0_5 := hO1.c 0 5
    have cf0 := hO1.fr 0
    have hb := hO1.below
    repeat' ((fail_if_success at_builtin); (first | go_skip | go_guarded | go_step))
    all_goals go_ret
    all_goals exact ⟨rfl, hb⟩
 have k1 : (k == 1) = false := by simpa using hk1
 have k2 : (k == 2) = false := by simpa using hk2
 have k3 : (k == 3) = false := by simpa using hk3
 have k4 : (k == 4) = false := by simpa using hk4
 have k5 : (k == 5) = false := by simpa using hk5
 have m4 : (k != 4) = true := by simpa using hk4
 have m5 : (k != 5) = true := by simpa using hk5
 cases b with
 | true =>
  have hv : unusedZ k true i s n n2 = false := by unfold unusedZ; simp [k1, k2, k3, k4, k5]
  rw [hv]
  clear hv
  go_enter Tryd.func56, Tryd.ntmps56
  go_upto_region 1 with (fail)
  generalize hx_ : World.alloc w _ = wo1
  have hO1 : OwnB w wo1 [(w.heap.size, [.int .i64 k, .bool true, .int .i64 i, .string s, .slice A n c, .slice A2 n2 c2])] := by rw [← hx_]; exact (OwnB.refl w).new #[.int .i64 k, .bool true, .int .i64 i, .string s, .slice A n c, .slice A2 n2 c2] _ (g := w.heap.size)
  clear hx_
  have c0_0 := hO1.c 0 0
  have c0_1 := hO1.c 0 1
  have c0_2 := hO1.c 0 2
  have c0_3 := hO1.c 0 3
  have c0_4 := hO1.c 0 4
  have c0_5 := hO1.c 0 5
  have cf0 := hO1.fr 0
  have hb := hO1.below
  repeat' ((fail_if_success at_builtin); (first | go_skip | go_guarded | go_step))
  all_goals go_ret
  all_goals exact ⟨rfl, hb⟩
 | false =>
  by_cases hi : i = 0
  ·
   subst hi
   by_cases hs : s.size = 0
   ·
    have gs := toList_noneT hs
    have gs2 : (s.size == 0) = true := by simpa using hs
    have gs3 : s.toList = [] := by simpa using gs
    clear hs
    by_cases hn : n = 0
    ·
     subst hn
     by_cases hn2 : n2 = 0
     ·
      subst hn2
      have hv : unusedZ k false 0 s 0 0 = true := by unfold unusedZ; simp [k1, k2, k3, k4, k5, gs2]
      rw [hv]
      clear hv
      go_enter Tryd.func56, Tryd.ntmps56
      go_upto_region 1 with (fail)
      generalize hx_ : World.alloc w _ = wo1
      have hO1 : OwnB w wo1 [(w.heap.size, [.int .i64 k, .bool false, .int .i64 0, .string s, .slice A 0 c, .slice A2 0 c2])] := by rw [← hx_]; exact (OwnB.refl w).new #[.int .i64 k, .bool false, .int .i64 0, .string s, .slice A 0 c, .slice A2 0 c2] _ (g := w.heap.size)
      clear hx_
      have c0_0 := hO1.c 0 0
      have c0_1 := hO1.c 0 1
      have c0_2 := hO1.c 0 2
      have c0_3 := hO1.c 0 3
      have c0_4 := hO1.c 0 4
      have c0_5 := hO1.c 0 5
      have cf0 := hO1.fr 0
      have hb := hO1.below
      repeat' ((fail_if_success at_builtin); (first | go_skip | go_guarded | go_step))
      all_goals go_ret
      all_goals exact ⟨rfl, hb⟩
     ·
      have gn2 : (n2 == 0) = false := by simpa using hn2
      have gpn2 : (0 : Int) < (n2 : Int) := by omega
      have gqn2 : ((n2 : Int) == 0) = false := by simp; omega
      clear hn2
      have hv : unusedZ k false 0 s 0 n2 = false := by unfold unusedZ; simp [k1, k2, k3, k4, k5, gs2, gn2]
      rw [hv]
      clear hv
      go_enter Tryd.func56, Tryd.ntmps56
      go_upto_region 1 with (fail)
      generalize hx_ : World.alloc w _ = wo1
      have hO1 : OwnB w wo1 [(w.heap.size, [.int .i64 k, .bool false, .int .i64 0, .string s, .slice A 0 c, .slice A2 n2 c2])] := by rw [← hx_]; exact (OwnB.refl w).new #[.int .i64 k, .bool false, .int .i64 0, .string s, .slice A 0 c, .slice A2 n2 c2] _ (g := w.heap.size)
      clear hx_
      have c0_0 := hO1.c 0 0
      have c0_1 := hO1.c 0 1
      have c0_2 := hO1.c 0 2
      have c0_3 := hO1.c 0 3
      have c0_4 := hO1.c 0 4
      have c0_5 := hO1.c 0 5
      have cf0 := hO1.fr 0
      have hb := hO1.below
      repeat' ((fail_if_success at_builtin); (first | go_skip | go_guarded | go_step))
      all_goals go_ret
      all_goals exact ⟨rfl, hb⟩
    ·
     have gn : (n == 0) = false := by simpa using hn
     have gpn : (0 : Int) < (n : Int) := by omega
     have gqn : ((n : Int) == 0) = false := by simp; omega
     clear hn
     have hv : unusedZ k false 0 s n n2 = false := by unfold unusedZ; simp [k1, k2, k3, k4, k5, gs2, gn]
     rw [hv]
     clear hv
     go_enter Tryd.func56, Tryd.ntmps56
     go_upto_region 1 with (fail)
     generalize hx_ : World.alloc w _ = wo1
     have hO1 : OwnB w wo1 [(w.heap.size, [.int .i64 k, .bool false, .int .i64 0, .string s, .slice A n c, .slice A2 n2 c2])] := by rw [← hx_]; exact (OwnB.refl w).new #[.int .i64 k, .bool false, .int .i64 0, .string s, .slice A n c, .slice A2 n2 c2] _ (g := w.heap.size)
     clear hx_
     have c0_0 := hO1.c 0 0
     have c0_1 := hO1.c 0 1
     have c0_2 := hO1.c 0 2
     have c0_3 := hO1.c 0 3
     have c0_4 := hO1.c 0 4
     have c0_5 := hO1.c 0 5
     have cf0 := hO1.fr 0
     have hb := hO1.below
     repeat' ((fail_if_success at_builtin); (first | go_skip | go_guarded | go_step))
     all_goals go_ret
     all_goals exact ⟨rfl, hb⟩
   ·
    have gs := toList_someT hs
    have gs2 : (s.size == 0) = false := by simpa using hs
    have gs3 : ¬ s.toList = [] := by simpa using gs
    clear hs
    have hv : unusedZ k false 0 s n n2 = false := by unfold unusedZ; simp [k1, k2, k3, k4, k5, gs2]
    rw [hv]
    clear hv
    go_enter Tryd.func56, Tryd.ntmps56
    go_upto_region 1 with (fail)
    generalize hx_ : World.alloc w _ = wo1
    have hO1 : OwnB w wo1 [(w.heap.size, [.int .i64 k, .bool false, .int .i64 0, .string s, .slice A n c, .slice A2 n2 c2])] := by rw [← hx_]; exact (OwnB.refl w).new #[.int .i64 k, .bool false, .int .i64 0, .string s, .slice A n c, .slice A2 n2 c2] _ (g := w.heap.size)
    clear hx_
    have c0_0 := hO1.c 0 0
    have c0_1 := hO1.c 0 1
    have c0_2 := hO1.c 0 2
    have c0_3 := hO1.c 0 3
    have c0_4 := hO1.c 0 4
    have c0_5 := hO1.c 0 5
    have cf0 := hO1.fr 0
    have hb := hO1.below
    repeat' ((fail_if_success at_builtin); (first | go_skip | go_guarded | go_step))
    all_goals go_ret
    all_goals exact ⟨rfl, hb⟩
  ·
   have gi : (i == 0) = false := by simpa using hi
   have hv : unusedZ k false i s n n2 = false := by unfold unusedZ; simp [k1, k2, k3, k4, k5, gi]
   rw [hv]
   clear hv
   go_enter Tryd.func56, Tryd.ntmps56
   go_upto_region 1 with (fail)
   generalize hx_ : World.alloc w _ = wo1
   have hO1 : OwnB w wo1 [(w.heap.size, [.int .i64 k, .bool false, .int .i64 i, .string s, .slice A n c, .slice A2 n2 c2])] := by rw [← hx_]; exact (OwnB.refl w).new #[.int .i64 k, .bool false, .int .i64 i, .string s, .slice A n c, .slice A2 n2 c2] _ (g := w.heap.size)
   clear hx_
   have c0_0 := hO1.c 0 0
   have c0_1 := hO1.c 0 1
   have c0_2 := hO1.c 0 2
   have c0_3 := hO1.c 0 3
   have c0_4 := hO1.c 0 4
   have c0_5 := hO1.c 0 5
   have cf0 := hO1.fr 0
   have hb := hO1.below
   repeat' ((fail_if_success at_builtin); (first | go_skip | go_guarded | go_step))
   all_goals go_ret
   all_goals exact ⟨rfl, hb⟩
set_option maxRecDepth 100000 in
set_option maxHeartbeats 2000000 in
theorem key_any (s : ByteArray) (w : World) : Calls Tryd.prog 65 #[.string s] w fun e w' => e = .returned (.bool (decide (1 ≤ s.size) && decide (s.size ≤ 64))) ∧ w' = w := by
 by_cases h1 : 1 ≤ s.size
 ·
  have g1 : (1 : Int) ≤ (s.size : Int) := by omega
  by_cases h2 : s.size ≤ 64
  ·
   have g2 : (s.size : Int) ≤ 64 := by omega
   rw [decide_eq_true h1, decide_eq_true h2]
   clear h1 h2
   go_enter Tryd.func65, Tryd.ntmps65
   repeat' ((fail_if_success at_builtin); (first | go_skip | go_guarded | go_step))
   go_ret
   exact ⟨rfl, rfl⟩
  ·
   have g2 : ¬ (s.size : Int) ≤ 64 := by omega
   rw [decide_eq_true h1, decide_eq_false h2]
   clear h1 h2
   go_enter Tryd.func65, Tryd.ntmps65
   repeat' ((fail_if_success at_builtin); (first | go_skip | go_guarded | go_step))
   go_ret
   exact ⟨rfl, rfl⟩
 ·
  have g1 : ¬ (1 : Int) ≤ (s.size : Int) := by omega
  rw [decide_eq_false h1]
  clear h1
  go_enter Tryd.func65, Tryd.ntmps65
  repeat' ((fail_if_success at_builtin); (first | go_skip | go_guarded | go_step))
  go_ret
  exact ⟨rfl, rfl⟩
end Go.Proofs.YtgcpffbaejodiaaDoor
