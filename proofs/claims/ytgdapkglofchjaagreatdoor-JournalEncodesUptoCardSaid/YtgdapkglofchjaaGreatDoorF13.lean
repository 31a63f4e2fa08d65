/- Joined: TyU Shelf. -/
import Derived.Shelf.Strings.Trim
import Derived.Shelf.Small.Utf8
import Derived.Shelf.Small.Strs
import Derived.Shelf.Small.Wraps
import Derived.Shelf.Strings.Search1
import Derived.Test.YtgdapkglofchjaaGreatDoorF12
set_option maxRecDepth 100000
set_option maxHeartbeats 4000000
set_option linter.unusedVariables false
namespace Go.Proofs.YtgdapkglofchjaaGreatDoor
open Go.RowKit
theorem toList_someT {s : ByteArray} (h : s.size ≠ 0) : (s.toList == []) = false := by
 rw [ByteArray.toList_eq, beq_eq_false_iff_ne]
 intro e
 have := list_size s
 rw [e] at this
 simp at this
 omega
theorem toList_noneT {s : ByteArray} (h : s.size = 0) : (s.toList == []) = true := by
 rw [ByteArray.toList_eq, beq_iff_eq]
 exact List.eq_nil_of_length_eq_zero (by rw [list_size]; omega)
def unusedZ (k : Int) (b : Bool) (i : Int) (s : ByteArray) (n n2 : Nat) : Bool := (k == 1 || !b) && ((k == 2 || i == 0) && ((k == 3 || s.size == 0) && ((k == 4 || k == 5 || n == 0) && (k == 5 || n2 == 0))))
theorem unused_any (k : Int) (b : Bool) (i : Int) (s : ByteArray) (A : Option Addr) (n c : Nat) (A2 : Option Addr) (n2 c2 : Nat) (w : World) : Calls Tryz.prog 106 #[.agg #[.int .i64 k, .bool b, .int .i64 i, .string s, .slice A n c, .slice A2 n2 c2]] w fun e w' => e = .returned (.bool (unusedZ k b i s n n2)) ∧ Below w.heap.size w w' := by
 by_cases hk1 : k = 1
 ·subst hk1
  by_cases hi : i = 0
  ·subst hi
   by_cases hs : s.size = 0
   ·have gs := toList_noneT hs
    have gs2 : (s.size == 0) = true := by simpa using hs
    have gs3 : s.toList = [] := by simpa using gs
    clear hs
    by_cases hn : n = 0
    ·subst hn
     by_cases hn2 : n2 = 0
     ·subst hn2
      have hv : unusedZ (1 : Int) b 0 s 0 0 = true := by unfold unusedZ; simp [gs2]
      rw [hv]
      clear hv
      go_enter Tryz.func106, Tryz.ntmps106
      go_upto_region 1 with (fail)
      generalize hx_ : World.alloc w _ = wo1
      have hO1 := own_new hx_
      clear hx_
      obtain ⟨c0_0, c0_1, c0_2, c0_3, c0_4, c0_5, cf0⟩ := own6 hO1
      have hb := hO1.below
      repeat' ((fail_if_success at_builtin); first | go_skip | go_guarded | go_step)
      all_goals go_ret
      all_goals exact ⟨rfl, hb⟩
     ·have gn2 : (n2 == 0) = false := by simpa using hn2
      have gpn2 : (0 : Int) < (n2 : Int) := by omega
      have gqn2 : ((n2 : Int) == 0) = false := by simp; omega
      clear hn2
      have hv : unusedZ (1 : Int) b 0 s 0 n2 = false := by unfold unusedZ; simp [gs2, gn2]
      rw [hv]
      clear hv
      go_enter Tryz.func106, Tryz.ntmps106
      go_upto_region 1 with (fail)
      generalize hx_ : World.alloc w _ = wo1
      have hO1 := own_new hx_
      clear hx_
      obtain ⟨c0_0, c0_1, c0_2, c0_3, c0_4, c0_5, cf0⟩ := own6 hO1
      have hb := hO1.below
      repeat' ((fail_if_success at_builtin); first | go_skip | go_guarded | go_step)
      all_goals go_ret
      all_goals exact ⟨rfl, hb⟩
    ·have gn : (n == 0) = false := by simpa using hn
     have gpn : (0 : Int) < (n : Int) := by omega
     have gqn : ((n : Int) == 0) = false := by simp; omega
     clear hn
     have hv : unusedZ (1 : Int) b 0 s n n2 = false := by unfold unusedZ; simp [gs2, gn]
     rw [hv]
     clear hv
     go_enter Tryz.func106, Tryz.ntmps106
     go_upto_region 1 with (fail)
     generalize hx_ : World.alloc w _ = wo1
     have hO1 := own_new hx_
     clear hx_
     obtain ⟨c0_0, c0_1, c0_2, c0_3, c0_4, c0_5, cf0⟩ := own6 hO1
     have hb := hO1.below
     repeat' ((fail_if_success at_builtin); first | go_skip | go_guarded | go_step)
     all_goals go_ret
     all_goals exact ⟨rfl, hb⟩
   ·have gs := toList_someT hs
    have gs2 : (s.size == 0) = false := by simpa using hs
    have gs3 : ¬ s.toList = [] := by simpa using gs
    clear hs
    have hv : unusedZ (1 : Int) b 0 s n n2 = false := by unfold unusedZ; simp [gs2]
    rw [hv]
    clear hv
    go_enter Tryz.func106, Tryz.ntmps106
    go_upto_region 1 with (fail)
    generalize hx_ : World.alloc w _ = wo1
    have hO1 := own_new hx_
    clear hx_
    obtain ⟨c0_0, c0_1, c0_2, c0_3, c0_4, c0_5, cf0⟩ := own6 hO1
    have hb := hO1.below
    repeat' ((fail_if_success at_builtin); first | go_skip | go_guarded | go_step)
    all_goals go_ret
    all_goals exact ⟨rfl, hb⟩
  ·have gi : (i == 0) = false := by simpa using hi
   have hv : unusedZ (1 : Int) b i s n n2 = false := by unfold unusedZ; simp [gi]
   rw [hv]
   clear hv
   go_enter Tryz.func106, Tryz.ntmps106
   go_upto_region 1 with (fail)
   generalize hx_ : World.alloc w _ = wo1
   have hO1 := own_new hx_
   clear hx_
   obtain ⟨c0_0, c0_1, c0_2, c0_3, c0_4, c0_5, cf0⟩ := own6 hO1
   have hb := hO1.below
   repeat' ((fail_if_success at_builtin); first | go_skip | go_guarded | go_step)
   all_goals go_ret
   all_goals exact ⟨rfl, hb⟩
 by_cases hk2 : k = 2
 ·subst hk2
  cases b with
  | true =>
   have hv : unusedZ (2 : Int) true i s n n2 = false := by unfold unusedZ; simp []
   rw [hv]
   clear hv
   go_enter Tryz.func106, Tryz.ntmps106
   go_upto_region 1 with (fail)
   generalize hx_ : World.alloc w _ = wo1
   have hO1 := own_new hx_
   clear hx_
   obtain ⟨c0_0, c0_1, c0_2, c0_3, c0_4, c0_5, cf0⟩ := own6 hO1
   have hb := hO1.below
   repeat' ((fail_if_success at_builtin); first | go_skip | go_guarded | go_step)
   all_goals go_ret
   all_goals exact ⟨rfl, hb⟩
  | false =>
   by_cases hs : s.size = 0
   ·have gs := toList_noneT hs
    have gs2 : (s.size == 0) = true := by simpa using hs
    have gs3 : s.toList = [] := by simpa using gs
    clear hs
    by_cases hn : n = 0
    ·subst hn
     by_cases hn2 : n2 = 0
     ·subst hn2
      have hv : unusedZ (2 : Int) false i s 0 0 = true := by unfold unusedZ; simp [gs2]
      rw [hv]
      clear hv
      go_enter Tryz.func106, Tryz.ntmps106
      go_upto_region 1 with (fail)
      generalize hx_ : World.alloc w _ = wo1
      have hO1 := own_new hx_
      clear hx_
      obtain ⟨c0_0, c0_1, c0_2, c0_3, c0_4, c0_5, cf0⟩ := own6 hO1
      have hb := hO1.below
      repeat' ((fail_if_success at_builtin); first | go_skip | go_guarded | go_step)
      all_goals go_ret
      all_goals exact ⟨rfl, hb⟩
     ·have gn2 : (n2 == 0) = false := by simpa using hn2
      have gpn2 : (0 : Int) < (n2 : Int) := by omega
      have gqn2 : ((n2 : Int) == 0) = false := by simp; omega
      clear hn2
      have hv : unusedZ (2 : Int) false i s 0 n2 = false := by unfold unusedZ; simp [gs2, gn2]
      rw [hv]
      clear hv
      go_enter Tryz.func106, Tryz.ntmps106
      go_upto_region 1 with (fail)
      generalize hx_ : World.alloc w _ = wo1
      have hO1 := own_new hx_
      clear hx_
      obtain ⟨c0_0, c0_1, c0_2, c0_3, c0_4, c0_5, cf0⟩ := own6 hO1
      have hb := hO1.below
      repeat' ((fail_if_success at_builtin); first | go_skip | go_guarded | go_step)
      all_goals go_ret
      all_goals exact ⟨rfl, hb⟩
    ·have gn : (n == 0) = false := by simpa using hn
     have gpn : (0 : Int) < (n : Int) := by omega
     have gqn : ((n : Int) == 0) = false := by simp; omega
     clear hn
     have hv : unusedZ (2 : Int) false i s n n2 = false := by unfold unusedZ; simp [gs2, gn]
     rw [hv]
     clear hv
     go_enter Tryz.func106, Tryz.ntmps106
     go_upto_region 1 with (fail)
     generalize hx_ : World.alloc w _ = wo1
     have hO1 := own_new hx_
     clear hx_
     obtain ⟨c0_0, c0_1, c0_2, c0_3, c0_4, c0_5, cf0⟩ := own6 hO1
     have hb := hO1.below
     repeat' ((fail_if_success at_builtin); first | go_skip | go_guarded | go_step)
     all_goals go_ret
     all_goals exact ⟨rfl, hb⟩
   ·have gs := toList_someT hs
    have gs2 : (s.size == 0) = false := by simpa using hs
    have gs3 : ¬ s.toList = [] := by simpa using gs
    clear hs
    have hv : unusedZ (2 : Int) false i s n n2 = false := by unfold unusedZ; simp [gs2]
    rw [hv]
    clear hv
    go_enter Tryz.func106, Tryz.ntmps106
    go_upto_region 1 with (fail)
    generalize hx_ : World.alloc w _ = wo1
    have hO1 := own_new hx_
    clear hx_
    obtain ⟨c0_0, c0_1, c0_2, c0_3, c0_4, c0_5, cf0⟩ := own6 hO1
    have hb := hO1.below
    repeat' ((fail_if_success at_builtin); first | go_skip | go_guarded | go_step)
    all_goals go_ret
    all_goals exact ⟨rfl, hb⟩
 by_cases hk3 : k = 3
 ·subst hk3
  cases b with
  | true =>
   have hv : unusedZ (3 : Int) true i s n n2 = false := by unfold unusedZ; simp []
   rw [hv]
   clear hv
   go_enter Tryz.func106, Tryz.ntmps106
   go_upto_region 1 with (fail)
   generalize hx_ : World.alloc w _ = wo1
   have hO1 := own_new hx_
   clear hx_
   obtain ⟨c0_0, c0_1, c0_2, c0_3, c0_4, c0_5, cf0⟩ := own6 hO1
   have hb := hO1.below
   repeat' ((fail_if_success at_builtin); first | go_skip | go_guarded | go_step)
   all_goals go_ret
   all_goals exact ⟨rfl, hb⟩
  | false =>
   by_cases hi : i = 0
   ·subst hi
    by_cases hn : n = 0
    ·subst hn
     by_cases hn2 : n2 = 0
     ·subst hn2
      have hv : unusedZ (3 : Int) false 0 s 0 0 = true := by unfold unusedZ; simp []
      rw [hv]
      clear hv
      go_enter Tryz.func106, Tryz.ntmps106
      go_upto_region 1 with (fail)
      generalize hx_ : World.alloc w _ = wo1
      have hO1 := own_new hx_
      clear hx_
      obtain ⟨c0_0, c0_1, c0_2, c0_3, c0_4, c0_5, cf0⟩ := own6 hO1
      have hb := hO1.below
      repeat' ((fail_if_success at_builtin); first | go_skip | go_guarded | go_step)
      all_goals go_ret
      all_goals exact ⟨rfl, hb⟩
     ·have gn2 : (n2 == 0) = false := by simpa using hn2
      have gpn2 : (0 : Int) < (n2 : Int) := by omega
      have gqn2 : ((n2 : Int) == 0) = false := by simp; omega
      clear hn2
      have hv : unusedZ (3 : Int) false 0 s 0 n2 = false := by unfold unusedZ; simp [gn2]
      rw [hv]
      clear hv
      go_enter Tryz.func106, Tryz.ntmps106
      go_upto_region 1 with (fail)
      generalize hx_ : World.alloc w _ = wo1
      have hO1 := own_new hx_
      clear hx_
      obtain ⟨c0_0, c0_1, c0_2, c0_3, c0_4, c0_5, cf0⟩ := own6 hO1
      have hb := hO1.below
      repeat' ((fail_if_success at_builtin); first | go_skip | go_guarded | go_step)
      all_goals go_ret
      all_goals exact ⟨rfl, hb⟩
    ·have gn : (n == 0) = false := by simpa using hn
     have gpn : (0 : Int) < (n : Int) := by omega
     have gqn : ((n : Int) == 0) = false := by simp; omega
     clear hn
     have hv : unusedZ (3 : Int) false 0 s n n2 = false := by unfold unusedZ; simp [gn]
     rw [hv]
     clear hv
     go_enter Tryz.func106, Tryz.ntmps106
     go_upto_region 1 with (fail)
     generalize hx_ : World.alloc w _ = wo1
     have hO1 := own_new hx_
     clear hx_
     obtain ⟨c0_0, c0_1, c0_2, c0_3, c0_4, c0_5, cf0⟩ := own6 hO1
     have hb := hO1.below
     repeat' ((fail_if_success at_builtin); first | go_skip | go_guarded | go_step)
     all_goals go_ret
     all_goals exact ⟨rfl, hb⟩
   ·have gi : (i == 0) = false := by simpa using hi
    have hv : unusedZ (3 : Int) false i s n n2 = false := by unfold unusedZ; simp [gi]
    rw [hv]
    clear hv
    go_enter Tryz.func106, Tryz.ntmps106
    go_upto_region 1 with (fail)
    generalize hx_ : World.alloc w _ = wo1
    have hO1 := own_new hx_
    clear hx_
    obtain ⟨c0_0, c0_1, c0_2, c0_3, c0_4, c0_5, cf0⟩ := own6 hO1
    have hb := hO1.below
    repeat' ((fail_if_success at_builtin); first | go_skip | go_guarded | go_step)
    all_goals go_ret
    all_goals exact ⟨rfl, hb⟩
 by_cases hk4 : k = 4
 ·subst hk4
  cases b with
  | true =>
   have hv : unusedZ (4 : Int) true i s n n2 = false := by unfold unusedZ; simp []
   rw [hv]
   clear hv
   go_enter Tryz.func106, Tryz.ntmps106
   go_upto_region 1 with (fail)
   generalize hx_ : World.alloc w _ = wo1
   have hO1 := own_new hx_
   clear hx_
   obtain ⟨c0_0, c0_1, c0_2, c0_3, c0_4, c0_5, cf0⟩ := own6 hO1
   have hb := hO1.below
   repeat' ((fail_if_success at_builtin); first | go_skip | go_guarded | go_step)
   all_goals go_ret
   all_goals exact ⟨rfl, hb⟩
  | false =>
   by_cases hi : i = 0
   ·subst hi
    by_cases hs : s.size = 0
    ·have gs := toList_noneT hs
     have gs2 : (s.size == 0) = true := by simpa using hs
     have gs3 : s.toList = [] := by simpa using gs
     clear hs
     by_cases hn2 : n2 = 0
     ·subst hn2
      have hv : unusedZ (4 : Int) false 0 s n 0 = true := by unfold unusedZ; simp [gs2]
      rw [hv]
      clear hv
      go_enter Tryz.func106, Tryz.ntmps106
      go_upto_region 1 with (fail)
      generalize hx_ : World.alloc w _ = wo1
      have hO1 := own_new hx_
      clear hx_
      obtain ⟨c0_0, c0_1, c0_2, c0_3, c0_4, c0_5, cf0⟩ := own6 hO1
      have hb := hO1.below
      repeat' ((fail_if_success at_builtin); first | go_skip | go_guarded | go_step)
      all_goals go_ret
      all_goals exact ⟨rfl, hb⟩
     ·have gn2 : (n2 == 0) = false := by simpa using hn2
      have gpn2 : (0 : Int) < (n2 : Int) := by omega
      have gqn2 : ((n2 : Int) == 0) = false := by simp; omega
      clear hn2
      have hv : unusedZ (4 : Int) false 0 s n n2 = false := by unfold unusedZ; simp [gs2, gn2]
      rw [hv]
      clear hv
      go_enter Tryz.func106, Tryz.ntmps106
      go_upto_region 1 with (fail)
      generalize hx_ : World.alloc w _ = wo1
      have hO1 := own_new hx_
      clear hx_
      obtain ⟨c0_0, c0_1, c0_2, c0_3, c0_4, c0_5, cf0⟩ := own6 hO1
      have hb := hO1.below
      repeat' ((fail_if_success at_builtin); first | go_skip | go_guarded | go_step)
      all_goals go_ret
      all_goals exact ⟨rfl, hb⟩
    ·have gs := toList_someT hs
     have gs2 : (s.size == 0) = false := by simpa using hs
     have gs3 : ¬ s.toList = [] := by simpa using gs
     clear hs
     have hv : unusedZ (4 : Int) false 0 s n n2 = false := by unfold unusedZ; simp [gs2]
     rw [hv]
     clear hv
     go_enter Tryz.func106, Tryz.ntmps106
     go_upto_region 1 with (fail)
     generalize hx_ : World.alloc w _ = wo1
     have hO1 := own_new hx_
     clear hx_
     obtain ⟨c0_0, c0_1, c0_2, c0_3, c0_4, c0_5, cf0⟩ := own6 hO1
     have hb := hO1.below
     repeat' ((fail_if_success at_builtin); first | go_skip | go_guarded | go_step)
     all_goals go_ret
     all_goals exact ⟨rfl, hb⟩
   ·have gi : (i == 0) = false := by simpa using hi
    have hv : unusedZ (4 : Int) false i s n n2 = false := by unfold unusedZ; simp [gi]
    rw [hv]
    clear hv
    go_enter Tryz.func106, Tryz.ntmps106
    go_upto_region 1 with (fail)
    generalize hx_ : World.alloc w _ = wo1
    have hO1 := own_new hx_
    clear hx_
    obtain ⟨c0_0, c0_1, c0_2, c0_3, c0_4, c0_5, cf0⟩ := own6 hO1
    have hb := hO1.below
    repeat' ((fail_if_success at_builtin); first | go_skip | go_guarded | go_step)
    all_goals go_ret
    all_goals exact ⟨rfl, hb⟩
 by_cases hk5 : k = 5
 ·subst hk5
  cases b with
  | true =>
   have hv : unusedZ (5 : Int) true i s n n2 = false := by unfold unusedZ; simp []
   rw [hv]
   clear hv
   go_enter Tryz.func106, Tryz.ntmps106
   go_upto_region 1 with (fail)
   generalize hx_ : World.alloc w _ = wo1
   have hO1 := own_new hx_
   clear hx_
   obtain ⟨c0_0, c0_1, c0_2, c0_3, c0_4, c0_5, cf0⟩ := own6 hO1
   have hb := hO1.below
   repeat' ((fail_if_success at_builtin); first | go_skip | go_guarded | go_step)
   all_goals go_ret
   all_goals exact ⟨rfl, hb⟩
  | false =>
   by_cases hi : i = 0
   ·subst hi
    by_cases hs : s.size = 0
    ·have gs := toList_noneT hs
     have gs2 : (s.size == 0) = true := by simpa using hs
     have gs3 : s.toList = [] := by simpa using gs
     clear hs
     have hv : unusedZ (5 : Int) false 0 s n n2 = true := by unfold unusedZ; simp [gs2]
     rw [hv]
     clear hv
     go_enter Tryz.func106, Tryz.ntmps106
     go_upto_region 1 with (fail)
     generalize hx_ : World.alloc w _ = wo1
     have hO1 := own_new hx_
     clear hx_
     obtain ⟨c0_0, c0_1, c0_2, c0_3, c0_4, c0_5, cf0⟩ := own6 hO1
     have hb := hO1.below
     repeat' ((fail_if_success at_builtin); first | go_skip | go_guarded | go_step)
     all_goals go_ret
     all_goals exact ⟨rfl, hb⟩
    ·have gs := toList_someT hs
     have gs2 : (s.size == 0) = false := by simpa using hs
     have gs3 : ¬ s.toList = [] := by simpa using gs
     clear hs
     have hv : unusedZ (5 : Int) false 0 s n n2 = false := by unfold unusedZ; simp [gs2]
     rw [hv]
     clear hv
     go_enter Tryz.func106, Tryz.ntmps106
     go_upto_region 1 with (fail)
     generalize hx_ : World.alloc w _ = wo1
     have hO1 := own_new hx_
     clear hx_
     obtain ⟨c0_0, c0_1, c0_2, c0_3, c0_4, c0_5, cf0⟩ := own6 hO1
     have hb := hO1.below
     repeat' ((fail_if_success at_builtin); first | go_skip | go_guarded | go_step)
     all_goals go_ret
     all_goals exact ⟨rfl, hb⟩
   ·have gi : (i == 0) = false := by simpa using hi
    have hv : unusedZ (5 : Int) false i s n n2 = false := by unfold unusedZ; simp [gi]
    rw [hv]
    clear hv
    go_enter Tryz.func106, Tryz.ntmps106
    go_upto_region 1 with (fail)
    generalize hx_ : World.alloc w _ = wo1
    have hO1 := own_new hx_
    clear hx_
    obtain ⟨c0_0, c0_1, c0_2, c0_3, c0_4, c0_5, cf0⟩ := own6 hO1
    have hb := hO1.below
    repeat' ((fail_if_success at_builtin); first | go_skip | go_guarded | go_step)
    all_goals go_ret
    all_goals exact ⟨rfl, hb⟩
 have k1 : (k == 1) = false := by simpa using hk1
 have k2 : (k == 2) = false := by simpa using hk2
 have k3 : (k == 3) = false := by simpa using hk3
 have k4 : (k == 4) = false := by simpa using hk4
 have k5 : (k == 5) = false := by simpa using hk5
 have m4 : (k != 4) = true := by simpa using hk4
 have m5 : (k != 5) = true := by simpa using hk5
 cases b with
 | true =>
  have hv : unusedZ k true i s n n2 = false := by unfold unusedZ; simp [k1, k2, k3, k4, k5]
  rw [hv]
  clear hv
  go_enter Tryz.func106, Tryz.ntmps106
  go_upto_region 1 with (fail)
  generalize hx_ : World.alloc w _ = wo1
  have hO1 := own_new hx_
  clear hx_
  obtain ⟨c0_0, c0_1, c0_2, c0_3, c0_4, c0_5, cf0⟩ := own6 hO1
  have hb := hO1.below
  repeat' ((fail_if_success at_builtin); first | go_skip | go_guarded | go_step)
  all_goals go_ret
  all_goals exact ⟨rfl, hb⟩
 | false =>
  by_cases hi : i = 0
  ·subst hi
   by_cases hs : s.size = 0
   ·have gs := toList_noneT hs
    have gs2 : (s.size == 0) = true := by simpa using hs
    have gs3 : s.toList = [] := by simpa using gs
    clear hs
    by_cases hn : n = 0
    ·subst hn
     by_cases hn2 : n2 = 0
     ·subst hn2
      have hv : unusedZ k false 0 s 0 0 = true := by unfold unusedZ; simp [k1, k2, k3, k4, k5, gs2]
      rw [hv]
      clear hv
      go_enter Tryz.func106, Tryz.ntmps106
      go_upto_region 1 with (fail)
      generalize hx_ : World.alloc w _ = wo1
      have hO1 := own_new hx_
      clear hx_
      obtain ⟨c0_0, c0_1, c0_2, c0_3, c0_4, c0_5, cf0⟩ := own6 hO1
      have hb := hO1.below
      repeat' ((fail_if_success at_builtin); first | go_skip | go_guarded | go_step)
      all_goals go_ret
      all_goals exact ⟨rfl, hb⟩
     ·have gn2 : (n2 == 0) = false := by simpa using hn2
      have gpn2 : (0 : Int) < (n2 : Int) := by omega
      have gqn2 : ((n2 : Int) == 0) = false := by simp; omega
      clear hn2
      have hv : unusedZ k false 0 s 0 n2 = false := by unfold unusedZ; simp [k1, k2, k3, k4, k5, gs2, gn2]
      rw [hv]
      clear hv
      go_enter Tryz.func106, Tryz.ntmps106
      go_upto_region 1 with (fail)
      generalize hx_ : World.alloc w _ = wo1
      have hO1 := own_new hx_
      clear hx_
      obtain ⟨c0_0, c0_1, c0_2, c0_3, c0_4, c0_5, cf0⟩ := own6 hO1
      have hb := hO1.below
      repeat' ((fail_if_success at_builtin); first | go_skip | go_guarded | go_step)
      all_goals go_ret
      all_goals exact ⟨rfl, hb⟩
    ·have gn : (n == 0) = false := by simpa using hn
     have gpn : (0 : Int) < (n : Int) := by omega
     have gqn : ((n : Int) == 0) = false := by simp; omega
     clear hn
     have hv : unusedZ k false 0 s n n2 = false := by unfold unusedZ; simp [k1, k2, k3, k4, k5, gs2, gn]
     rw [hv]
     clear hv
     go_enter Tryz.func106, Tryz.ntmps106
     go_upto_region 1 with (fail)
     generalize hx_ : World.alloc w _ = wo1
     have hO1 := own_new hx_
     clear hx_
     obtain ⟨c0_0, c0_1, c0_2, c0_3, c0_4, c0_5, cf0⟩ := own6 hO1
     have hb := hO1.below
     repeat' ((fail_if_success at_builtin); first | go_skip | go_guarded | go_step)
     all_goals go_ret
     all_goals exact ⟨rfl, hb⟩
   ·have gs := toList_someT hs
    have gs2 : (s.size == 0) = false := by simpa using hs
    have gs3 : ¬ s.toList = [] := by simpa using gs
    clear hs
    have hv : unusedZ k false 0 s n n2 = false := by unfold unusedZ; simp [k1, k2, k3, k4, k5, gs2]
    rw [hv]
    clear hv
    go_enter Tryz.func106, Tryz.ntmps106
    go_upto_region 1 with (fail)
    generalize hx_ : World.alloc w _ = wo1
    have hO1 := own_new hx_
    clear hx_
    obtain ⟨c0_0, c0_1, c0_2, c0_3, c0_4, c0_5, cf0⟩ := own6 hO1
    have hb := hO1.below
    repeat' ((fail_if_success at_builtin); first | go_skip | go_guarded | go_step)
    all_goals go_ret
    all_goals exact ⟨rfl, hb⟩
  ·have gi : (i == 0) = false := by simpa using hi
   have hv : unusedZ k false i s n n2 = false := by unfold unusedZ; simp [k1, k2, k3, k4, k5, gi]
   rw [hv]
   clear hv
   go_enter Tryz.func106, Tryz.ntmps106
   go_upto_region 1 with (fail)
   generalize hx_ : World.alloc w _ = wo1
   have hO1 := own_new hx_
   clear hx_
   obtain ⟨c0_0, c0_1, c0_2, c0_3, c0_4, c0_5, cf0⟩ := own6 hO1
   have hb := hO1.below
   repeat' ((fail_if_success at_builtin); first | go_skip | go_guarded | go_step)
   all_goals go_ret
   all_goals exact ⟨rfl, hb⟩
theorem plain_any (k : Int) (b : Bool) (i : Int) (s : ByteArray) (A : Option Addr) (n c : Nat) (A2 : Option Addr) (n2 c2 : Nat) (w : World) : Calls Tryz.prog 99 #[.agg #[.int .i64 k, .bool b, .int .i64 i, .string s, .slice A n c, .slice A2 n2 c2]] w fun e w' => e = .returned (.bool (unusedZ k b i s n n2)) ∧ Below w.heap.size w w' := by
 by_cases hk1 : k = 1
 ·subst hk1
  by_cases hi : i = 0
  ·subst hi
   by_cases hs : s.size = 0
   ·have gs := toList_noneT hs
    have gs2 : (s.size == 0) = true := by simpa using hs
    have gs3 : s.toList = [] := by simpa using gs
    clear hs
    by_cases hn : n = 0
    ·subst hn
     by_cases hn2 : n2 = 0
     ·subst hn2
      have hv : unusedZ (1 : Int) b 0 s 0 0 = true := by unfold unusedZ; simp [gs2]
      rw [hv]
      clear hv
      go_enter Tryz.func99, Tryz.ntmps99
      go_upto_region 1 with (fail)
      generalize hx_ : World.alloc w _ = wo1
      have hO1 := own_new hx_
      clear hx_
      obtain ⟨c0_0, c0_1, c0_2, c0_3, c0_4, c0_5, cf0⟩ := own6 hO1
      have hb := hO1.below
      repeat' ((fail_if_success at_builtin); first | go_skip | go_guarded | go_step)
      all_goals go_ret
      all_goals exact ⟨rfl, hb⟩
     ·have gn2 : (n2 == 0) = false := by simpa using hn2
      have gpn2 : (0 : Int) < (n2 : Int) := by omega
      have gqn2 : ((n2 : Int) == 0) = false := by simp; omega
      clear hn2
      have hv : unusedZ (1 : Int) b 0 s 0 n2 = false := by unfold unusedZ; simp [gs2, gn2]
      rw [hv]
      clear hv
      go_enter Tryz.func99, Tryz.ntmps99
      go_upto_region 1 with (fail)
      generalize hx_ : World.alloc w _ = wo1
      have hO1 := own_new hx_
      clear hx_
      obtain ⟨c0_0, c0_1, c0_2, c0_3, c0_4, c0_5, cf0⟩ := own6 hO1
      have hb := hO1.below
      repeat' ((fail_if_success at_builtin); first | go_skip | go_guarded | go_step)
      all_goals go_ret
      all_goals exact ⟨rfl, hb⟩
    ·have gn : (n == 0) = false := by simpa using hn
     have gpn : (0 : Int) < (n : Int) := by omega
     have gqn : ((n : Int) == 0) = false := by simp; omega
     clear hn
     have hv : unusedZ (1 : Int) b 0 s n n2 = false := by unfold unusedZ; simp [gs2, gn]
     rw [hv]
     clear hv
     go_enter Tryz.func99, Tryz.ntmps99
     go_upto_region 1 with (fail)
     generalize hx_ : World.alloc w _ = wo1
     have hO1 := own_new hx_
     clear hx_
     obtain ⟨c0_0, c0_1, c0_2, c0_3, c0_4, c0_5, cf0⟩ := own6 hO1
     have hb := hO1.below
     repeat' ((fail_if_success at_builtin); first | go_skip | go_guarded | go_step)
     all_goals go_ret
     all_goals exact ⟨rfl, hb⟩
   ·have gs := toList_someT hs
    have gs2 : (s.size == 0) = false := by simpa using hs
    have gs3 : ¬ s.toList = [] := by simpa using gs
    clear hs
    have hv : unusedZ (1 : Int) b 0 s n n2 = false := by unfold unusedZ; simp [gs2]
    rw [hv]
    clear hv
    go_enter Tryz.func99, Tryz.ntmps99
    go_upto_region 1 with (fail)
    generalize hx_ : World.alloc w _ = wo1
    have hO1 := own_new hx_
    clear hx_
    obtain ⟨c0_0, c0_1, c0_2, c0_3, c0_4, c0_5, cf0⟩ := own6 hO1
    have hb := hO1.below
    repeat' ((fail_if_success at_builtin); first | go_skip | go_guarded | go_step)
    all_goals go_ret
    all_goals exact ⟨rfl, hb⟩
  ·have gi : (i == 0) = false := by simpa using hi
   have hv : unusedZ (1 : Int) b i s n n2 = false := by unfold unusedZ; simp [gi]
   rw [hv]
   clear hv
   go_enter Tryz.func99, Tryz.ntmps99
   go_upto_region 1 with (fail)
   generalize hx_ : World.alloc w _ = wo1
   have hO1 := own_new hx_
   clear hx_
   obtain ⟨c0_0, c0_1, c0_2, c0_3, c0_4, c0_5, cf0⟩ := own6 hO1
   have hb := hO1.below
   repeat' ((fail_if_success at_builtin); first | go_skip | go_guarded | go_step)
   all_goals go_ret
   all_goals exact ⟨rfl, hb⟩
 by_cases hk2 : k = 2
 ·subst hk2
  cases b with
  | true =>
   have hv : unusedZ (2 : Int) true i s n n2 = false := by unfold unusedZ; simp []
   rw [hv]
   clear hv
   go_enter Tryz.func99, Tryz.ntmps99
   go_upto_region 1 with (fail)
   generalize hx_ : World.alloc w _ = wo1
   have hO1 := own_new hx_
   clear hx_
   obtain ⟨c0_0, c0_1, c0_2, c0_3, c0_4, c0_5, cf0⟩ := own6 hO1
   have hb := hO1.below
   repeat' ((fail_if_success at_builtin); first | go_skip | go_guarded | go_step)
   all_goals go_ret
   all_goals exact ⟨rfl, hb⟩
  | false =>
   by_cases hs : s.size = 0
   ·have gs := toList_noneT hs
    have gs2 : (s.size == 0) = true := by simpa using hs
    have gs3 : s.toList = [] := by simpa using gs
    clear hs
    by_cases hn : n = 0
    ·subst hn
     by_cases hn2 : n2 = 0
     ·subst hn2
      have hv : unusedZ (2 : Int) false i s 0 0 = true := by unfold unusedZ; simp [gs2]
      rw [hv]
      clear hv
      go_enter Tryz.func99, Tryz.ntmps99
      go_upto_region 1 with (fail)
      generalize hx_ : World.alloc w _ = wo1
      have hO1 := own_new hx_
      clear hx_
      obtain ⟨c0_0, c0_1, c0_2, c0_3, c0_4, c0_5, cf0⟩ := own6 hO1
      have hb := hO1.below
      repeat' ((fail_if_success at_builtin); first | go_skip | go_guarded | go_step)
      all_goals go_ret
      all_goals exact ⟨rfl, hb⟩
     ·have gn2 : (n2 == 0) = false := by simpa using hn2
      have gpn2 : (0 : Int) < (n2 : Int) := by omega
      have gqn2 : ((n2 : Int) == 0) = false := by simp; omega
      clear hn2
      have hv : unusedZ (2 : Int) false i s 0 n2 = false := by unfold unusedZ; simp [gs2, gn2]
      rw [hv]
      clear hv
      go_enter Tryz.func99, Tryz.ntmps99
      go_upto_region 1 with (fail)
      generalize hx_ : World.alloc w _ = wo1
      have hO1 := own_new hx_
      clear hx_
      obtain ⟨c0_0, c0_1, c0_2, c0_3, c0_4, c0_5, cf0⟩ := own6 hO1
      have hb := hO1.below
      repeat' ((fail_if_success at_builtin); first | go_skip | go_guarded | go_step)
      all_goals go_ret
      all_goals exact ⟨rfl, hb⟩
    ·have gn : (n == 0) = false := by simpa using hn
     have gpn : (0 : Int) < (n : Int) := by omega
     have gqn : ((n : Int) == 0) = false := by simp; omega
     clear hn
     have hv : unusedZ (2 : Int) false i s n n2 = false := by unfold unusedZ; simp [gs2, gn]
     rw [hv]
     clear hv
     go_enter Tryz.func99, Tryz.ntmps99
     go_upto_region 1 with (fail)
     generalize hx_ : World.alloc w _ = wo1
     have hO1 := own_new hx_
     clear hx_
     obtain ⟨c0_0, c0_1, c0_2, c0_3, c0_4, c0_5, cf0⟩ := own6 hO1
     have hb := hO1.below
     repeat' ((fail_if_success at_builtin); first | go_skip | go_guarded | go_step)
     all_goals go_ret
     all_goals exact ⟨rfl, hb⟩
   ·have gs := toList_someT hs
    have gs2 : (s.size == 0) = false := by simpa using hs
    have gs3 : ¬ s.toList = [] := by simpa using gs
    clear hs
    have hv : unusedZ (2 : Int) false i s n n2 = false := by unfold unusedZ; simp [gs2]
    rw [hv]
    clear hv
    go_enter Tryz.func99, Tryz.ntmps99
    go_upto_region 1 with (fail)
    generalize hx_ : World.alloc w _ = wo1
    have hO1 := own_new hx_
    clear hx_
    obtain ⟨c0_0, c0_1, c0_2, c0_3, c0_4, c0_5, cf0⟩ := own6 hO1
    have hb := hO1.below
    repeat' ((fail_if_success at_builtin); first | go_skip | go_guarded | go_step)
    all_goals go_ret
    all_goals exact ⟨rfl, hb⟩
 by_cases hk3 : k = 3
 ·subst hk3
  cases b with
  | true =>
   have hv : unusedZ (3 : Int) true i s n n2 = false := by unfold unusedZ; simp []
   rw [hv]
   clear hv
   go_enter Tryz.func99, Tryz.ntmps99
   go_upto_region 1 with (fail)
   generalize hx_ : World.alloc w _ = wo1
   have hO1 := own_new hx_
   clear hx_
   obtain ⟨c0_0, c0_1, c0_2, c0_3, c0_4, c0_5, cf0⟩ := own6 hO1
   have hb := hO1.below
   repeat' ((fail_if_success at_builtin); first | go_skip | go_guarded | go_step)
   all_goals go_ret
   all_goals exact ⟨rfl, hb⟩
  | false =>
   by_cases hi : i = 0
   ·subst hi
    by_cases hn : n = 0
    ·subst hn
     by_cases hn2 : n2 = 0
     ·subst hn2
      have hv : unusedZ (3 : Int) false 0 s 0 0 = true := by unfold unusedZ; simp []
      rw [hv]
      clear hv
      go_enter Tryz.func99, Tryz.ntmps99
      go_upto_region 1 with (fail)
      generalize hx_ : World.alloc w _ = wo1
      have hO1 := own_new hx_
      clear hx_
      obtain ⟨c0_0, c0_1, c0_2, c0_3, c0_4, c0_5, cf0⟩ := own6 hO1
      have hb := hO1.below
      repeat' ((fail_if_success at_builtin); first | go_skip | go_guarded | go_step)
      all_goals go_ret
      all_goals exact ⟨rfl, hb⟩
     ·have gn2 : (n2 == 0) = false := by simpa using hn2
      have gpn2 : (0 : Int) < (n2 : Int) := by omega
      have gqn2 : ((n2 : Int) == 0) = false := by simp; omega
      clear hn2
      have hv : unusedZ (3 : Int) false 0 s 0 n2 = false := by unfold unusedZ; simp [gn2]
      rw [hv]
      clear hv
      go_enter Tryz.func99, Tryz.ntmps99
      go_upto_region 1 with (fail)
      generalize hx_ : World.alloc w _ = wo1
      have hO1 := own_new hx_
      clear hx_
      obtain ⟨c0_0, c0_1, c0_2, c0_3, c0_4, c0_5, cf0⟩ := own6 hO1
      have hb := hO1.below
      repeat' ((fail_if_success at_builtin); first | go_skip | go_guarded | go_step)
      all_goals go_ret
      all_goals exact ⟨rfl, hb⟩
    ·have gn : (n == 0) = false := by simpa using hn
     have gpn : (0 : Int) < (n : Int) := by omega
     have gqn : ((n : Int) == 0) = false := by simp; omega
     clear hn
     have hv : unusedZ (3 : Int) false 0 s n n2 = false := by unfold unusedZ; simp [gn]
     rw [hv]
     clear hv
     go_enter Tryz.func99, Tryz.ntmps99
     go_upto_region 1 with (fail)
     generalize hx_ : World.alloc w _ = wo1
     have hO1 := own_new hx_
     clear hx_
     obtain ⟨c0_0, c0_1, c0_2, c0_3, c0_4, c0_5, cf0⟩ := own6 hO1
     have hb := hO1.below
     repeat' ((fail_if_success at_builtin); first | go_skip | go_guarded | go_step)
     all_goals go_ret
     all_goals exact ⟨rfl, hb⟩
   ·have gi : (i == 0) = false := by simpa using hi
    have hv : unusedZ (3 : Int) false i s n n2 = false := by unfold unusedZ; simp [gi]
    rw [hv]
    clear hv
    go_enter Tryz.func99, Tryz.ntmps99
    go_upto_region 1 with (fail)
    generalize hx_ : World.alloc w _ = wo1
    have hO1 := own_new hx_
    clear hx_
    obtain ⟨c0_0, c0_1, c0_2, c0_3, c0_4, c0_5, cf0⟩ := own6 hO1
    have hb := hO1.below
    repeat' ((fail_if_success at_builtin); first | go_skip | go_guarded | go_step)
    all_goals go_ret
    all_goals exact ⟨rfl, hb⟩
 by_cases hk4 : k = 4
 ·subst hk4
  cases b with
  | true =>
   have hv : unusedZ (4 : Int) true i s n n2 = false := by unfold unusedZ; simp []
   rw [hv]
   clear hv
   go_enter Tryz.func99, Tryz.ntmps99
   go_upto_region 1 with (fail)
   generalize hx_ : World.alloc w _ = wo1
   have hO1 := own_new hx_
   clear hx_
   obtain ⟨c0_0, c0_1, c0_2, c0_3, c0_4, c0_5, cf0⟩ := own6 hO1
   have hb := hO1.below
   repeat' ((fail_if_success at_builtin); first | go_skip | go_guarded | go_step)
   all_goals go_ret
   all_goals exact ⟨rfl, hb⟩
  | false =>
   by_cases hi : i = 0
   ·subst hi
    by_cases hs : s.size = 0
    ·have gs := toList_noneT hs
     have gs2 : (s.size == 0) = true := by simpa using hs
     have gs3 : s.toList = [] := by simpa using gs
     clear hs
     by_cases hn2 : n2 = 0
     ·subst hn2
      have hv : unusedZ (4 : Int) false 0 s n 0 = true := by unfold unusedZ; simp [gs2]
      rw [hv]
      clear hv
      go_enter Tryz.func99, Tryz.ntmps99
      go_upto_region 1 with (fail)
      generalize hx_ : World.alloc w _ = wo1
      have hO1 := own_new hx_
      clear hx_
      obtain ⟨c0_0, c0_1, c0_2, c0_3, c0_4, c0_5, cf0⟩ := own6 hO1
      have hb := hO1.below
      repeat' ((fail_if_success at_builtin); first | go_skip | go_guarded | go_step)
      all_goals go_ret
      all_goals exact ⟨rfl, hb⟩
     ·have gn2 : (n2 == 0) = false := by simpa using hn2
      have gpn2 : (0 : Int) < (n2 : Int) := by omega
      have gqn2 : ((n2 : Int) == 0) = false := by simp; omega
      clear hn2
      have hv : unusedZ (4 : Int) false 0 s n n2 = false := by unfold unusedZ; simp [gs2, gn2]
      rw [hv]
      clear hv
      go_enter Tryz.func99, Tryz.ntmps99
      go_upto_region 1 with (fail)
      generalize hx_ : World.alloc w _ = wo1
      have hO1 := own_new hx_
      clear hx_
      obtain ⟨c0_0, c0_1, c0_2, c0_3, c0_4, c0_5, cf0⟩ := own6 hO1
      have hb := hO1.below
      repeat' ((fail_if_success at_builtin); first | go_skip | go_guarded | go_step)
      all_goals go_ret
      all_goals exact ⟨rfl, hb⟩
    ·have gs := toList_someT hs
     have gs2 : (s.size == 0) = false := by simpa using hs
     have gs3 : ¬ s.toList = [] := by simpa using gs
     clear hs
     have hv : unusedZ (4 : Int) false 0 s n n2 = false := by unfold unusedZ; simp [gs2]
     rw [hv]
     clear hv
     go_enter Tryz.func99, Tryz.ntmps99
     go_upto_region 1 with (fail)
     generalize hx_ : World.alloc w _ = wo1
     have hO1 := own_new hx_
     clear hx_
     obtain ⟨c0_0, c0_1, c0_2, c0_3, c0_4, c0_5, cf0⟩ := own6 hO1
     have hb := hO1.below
     repeat' ((fail_if_success at_builtin); first | go_skip | go_guarded | go_step)
     all_goals go_ret
     all_goals exact ⟨rfl, hb⟩
   ·have gi : (i == 0) = false := by simpa using hi
    have hv : unusedZ (4 : Int) false i s n n2 = false := by unfold unusedZ; simp [gi]
    rw [hv]
    clear hv
    go_enter Tryz.func99, Tryz.ntmps99
    go_upto_region 1 with (fail)
    generalize hx_ : World.alloc w _ = wo1
    have hO1 := own_new hx_
    clear hx_
    obtain ⟨c0_0, c0_1, c0_2, c0_3, c0_4, c0_5, cf0⟩ := own6 hO1
    have hb := hO1.below
    repeat' ((fail_if_success at_builtin); first | go_skip | go_guarded | go_step)
    all_goals go_ret
    all_goals exact ⟨rfl, hb⟩
 by_cases hk5 : k = 5
 ·subst hk5
  cases b with
  | true =>
   have hv : unusedZ (5 : Int) true i s n n2 = false := by unfold unusedZ; simp []
   rw [hv]
   clear hv
   go_enter Tryz.func99, Tryz.ntmps99
   go_upto_region 1 with (fail)
   generalize hx_ : World.alloc w _ = wo1
   have hO1 := own_new hx_
   clear hx_
   obtain ⟨c0_0, c0_1, c0_2, c0_3, c0_4, c0_5, cf0⟩ := own6 hO1
   have hb := hO1.below
   repeat' ((fail_if_success at_builtin); first | go_skip | go_guarded | go_step)
   all_goals go_ret
   all_goals exact ⟨rfl, hb⟩
  | false =>
   by_cases hi : i = 0
   ·subst hi
    by_cases hs : s.size = 0
    ·have gs := toList_noneT hs
     have gs2 : (s.size == 0) = true := by simpa using hs
     have gs3 : s.toList = [] := by simpa using gs
     clear hs
     have hv : unusedZ (5 : Int) false 0 s n n2 = true := by unfold unusedZ; simp [gs2]
     rw [hv]
     clear hv
     go_enter Tryz.func99, Tryz.ntmps99
     go_upto_region 1 with (fail)
     generalize hx_ : World.alloc w _ = wo1
     have hO1 := own_new hx_
     clear hx_
     obtain ⟨c0_0, c0_1, c0_2, c0_3, c0_4, c0_5, cf0⟩ := own6 hO1
     have hb := hO1.below
     repeat' ((fail_if_success at_builtin); first | go_skip | go_guarded | go_step)
     all_goals go_ret
     all_goals exact ⟨rfl, hb⟩
    ·have gs := toList_someT hs
     have gs2 : (s.size == 0) = false := by simpa using hs
     have gs3 : ¬ s.toList = [] := by simpa using gs
     clear hs
     have hv : unusedZ (5 : Int) false 0 s n n2 = false := by unfold unusedZ; simp [gs2]
     rw [hv]
     clear hv
     go_enter Tryz.func99, Tryz.ntmps99
     go_upto_region 1 with (fail)
     generalize hx_ : World.alloc w _ = wo1
     have hO1 := own_new hx_
     clear hx_
     obtain ⟨c0_0, c0_1, c0_2, c0_3, c0_4, c0_5, cf0⟩ := own6 hO1
     have hb := hO1.below
     repeat' ((fail_if_success at_builtin); first | go_skip | go_guarded | go_step)
     all_goals go_ret
     all_goals exact ⟨rfl, hb⟩
   ·have gi : (i == 0) = false := by simpa using hi
    have hv : unusedZ (5 : Int) false i s n n2 = false := by unfold unusedZ; simp [gi]
    rw [hv]
    clear hv
    go_enter Tryz.func99, Tryz.ntmps99
    go_upto_region 1 with (fail)
    generalize hx_ : World.alloc w _ = wo1
    have hO1 := own_new hx_
    clear hx_
    obtain ⟨c0_0, c0_1, c0_2, c0_3, c0_4, c0_5, cf0⟩ := own6 hO1
    have hb := hO1.below
    repeat' ((fail_if_success at_builtin); first | go_skip | go_guarded | go_step)
    all_goals go_ret
    all_goals exact ⟨rfl, hb⟩
 have k1 : (k == 1) = false := by simpa using hk1
 have k2 : (k == 2) = false := by simpa using hk2
 have k3 : (k == 3) = false := by simpa using hk3
 have k4 : (k == 4) = false := by simpa using hk4
 have k5 : (k == 5) = false := by simpa using hk5
 have m4 : (k != 4) = true := by simpa using hk4
 have m5 : (k != 5) = true := by simpa using hk5
 cases b with
 | true =>
  have hv : unusedZ k true i s n n2 = false := by unfold unusedZ; simp [k1, k2, k3, k4, k5]
  rw [hv]
  clear hv
  go_enter Tryz.func99, Tryz.ntmps99
  go_upto_region 1 with (fail)
  generalize hx_ : World.alloc w _ = wo1
  have hO1 := own_new hx_
  clear hx_
  obtain ⟨c0_0, c0_1, c0_2, c0_3, c0_4, c0_5, cf0⟩ := own6 hO1
  have hb := hO1.below
  repeat' ((fail_if_success at_builtin); first | go_skip | go_guarded | go_step)
  all_goals go_ret
  all_goals exact ⟨rfl, hb⟩
 | false =>
  by_cases hi : i = 0
  ·subst hi
   by_cases hs : s.size = 0
   ·have gs := toList_noneT hs
    have gs2 : (s.size == 0) = true := by simpa using hs
    have gs3 : s.toList = [] := by simpa using gs
    clear hs
    by_cases hn : n = 0
    ·subst hn
     by_cases hn2 : n2 = 0
     ·subst hn2
      have hv : unusedZ k false 0 s 0 0 = true := by unfold unusedZ; simp [k1, k2, k3, k4, k5, gs2]
      rw [hv]
      clear hv
      go_enter Tryz.func99, Tryz.ntmps99
      go_upto_region 1 with (fail)
      generalize hx_ : World.alloc w _ = wo1
      have hO1 := own_new hx_
      clear hx_
      obtain ⟨c0_0, c0_1, c0_2, c0_3, c0_4, c0_5, cf0⟩ := own6 hO1
      have hb := hO1.below
      repeat' ((fail_if_success at_builtin); first | go_skip | go_guarded | go_step)
      all_goals go_ret
      all_goals exact ⟨rfl, hb⟩
     ·have gn2 : (n2 == 0) = false := by simpa using hn2
      have gpn2 : (0 : Int) < (n2 : Int) := by omega
      have gqn2 : ((n2 : Int) == 0) = false := by simp; omega
      clear hn2
      have hv : unusedZ k false 0 s 0 n2 = false := by unfold unusedZ; simp [k1, k2, k3, k4, k5, gs2, gn2]
      rw [hv]
      clear hv
      go_enter Tryz.func99, Tryz.ntmps99
      go_upto_region 1 with (fail)
      generalize hx_ : World.alloc w _ = wo1
      have hO1 := own_new hx_
      clear hx_
      obtain ⟨c0_0, c0_1, c0_2, c0_3, c0_4, c0_5, cf0⟩ := own6 hO1
      have hb := hO1.below
      repeat' ((fail_if_success at_builtin); first | go_skip | go_guarded | go_step)
      all_goals go_ret
      all_goals exact ⟨rfl, hb⟩
    ·have gn : (n == 0) = false := by simpa using hn
     have gpn : (0 : Int) < (n : Int) := by omega
     have gqn : ((n : Int) == 0) = false := by simp; omega
     clear hn
     have hv : unusedZ k false 0 s n n2 = false := by unfold unusedZ; simp [k1, k2, k3, k4, k5, gs2, gn]
     rw [hv]
     clear hv
     go_enter Tryz.func99, Tryz.ntmps99
     go_upto_region 1 with (fail)
     generalize hx_ : World.alloc w _ = wo1
     have hO1 := own_new hx_
     clear hx_
     obtain ⟨c0_0, c0_1, c0_2, c0_3, c0_4, c0_5, cf0⟩ := own6 hO1
     have hb := hO1.below
     repeat' ((fail_if_success at_builtin); first | go_skip | go_guarded | go_step)
     all_goals go_ret
     all_goals exact ⟨rfl, hb⟩
   ·have gs := toList_someT hs
    have gs2 : (s.size == 0) = false := by simpa using hs
    have gs3 : ¬ s.toList = [] := by simpa using gs
    clear hs
    have hv : unusedZ k false 0 s n n2 = false := by unfold unusedZ; simp [k1, k2, k3, k4, k5, gs2]
    rw [hv]
    clear hv
    go_enter Tryz.func99, Tryz.ntmps99
    go_upto_region 1 with (fail)
    generalize hx_ : World.alloc w _ = wo1
    have hO1 := own_new hx_
    clear hx_
    obtain ⟨c0_0, c0_1, c0_2, c0_3, c0_4, c0_5, cf0⟩ := own6 hO1
    have hb := hO1.below
    repeat' ((fail_if_success at_builtin); first | go_skip | go_guarded | go_step)
    all_goals go_ret
    all_goals exact ⟨rfl, hb⟩
  ·have gi : (i == 0) = false := by simpa using hi
   have hv : unusedZ k false i s n n2 = false := by unfold unusedZ; simp [k1, k2, k3, k4, k5, gi]
   rw [hv]
   clear hv
   go_enter Tryz.func99, Tryz.ntmps99
   go_upto_region 1 with (fail)
   generalize hx_ : World.alloc w _ = wo1
   have hO1 := own_new hx_
   clear hx_
   obtain ⟨c0_0, c0_1, c0_2, c0_3, c0_4, c0_5, cf0⟩ := own6 hO1
   have hb := hO1.below
   repeat' ((fail_if_success at_builtin); first | go_skip | go_guarded | go_step)
   all_goals go_ret
   all_goals exact ⟨rfl, hb⟩
theorem key_any (s : ByteArray) (w : World) : Calls Tryz.prog 131 #[.string s] w fun e w' => e = .returned (.bool (decide (1 ≤ s.size) && decide (s.size ≤ 64))) ∧ w' = w := by
 by_cases h1 : 1 ≤ s.size
 ·have g1 : (1 : Int) ≤ (s.size : Int) := by omega
  by_cases h2 : s.size ≤ 64
  ·have g2 : (s.size : Int) ≤ 64 := by omega
   rw [decide_eq_true h1, decide_eq_true h2]
   clear h1 h2
   go_enter Tryz.func131, Tryz.ntmps131
   repeat' (first | go_skip | go_guarded | go_step)
   go_ret
   exact ⟨rfl, rfl⟩
  ·have g2 : ¬ (s.size : Int) ≤ 64 := by omega
   rw [decide_eq_true h1, decide_eq_false h2]
   clear h1 h2
   go_enter Tryz.func131, Tryz.ntmps131
   repeat' (first | go_skip | go_guarded | go_step)
   go_ret
   exact ⟨rfl, rfl⟩
 ·have g1 : ¬ (1 : Int) ≤ (s.size : Int) := by omega
  rw [decide_eq_false h1]
  clear h1
  go_enter Tryz.func131, Tryz.ntmps131
  repeat' (first | go_skip | go_guarded | go_step)
  go_ret
  exact ⟨rfl, rfl⟩
end Go.Proofs.YtgdapkglofchjaaGreatDoor
namespace Go.Proofs
open Go.Shelf
def Tryz.lays161_ren : Go.Shelf.Ren := ⟨fun | 161 => 158 | 231 => 163 | 227 => 164 | 233 => 165 | 235 => 166 | 228 => 168 | 197 => 169 | 151 => 170 | 260 => 171 | 152 => 172 | 137 => 173 | 119 => 174 | 224 => 175 | 225 => 176 | 217 => 177 | 266 => 178 | n => n, fun | 9 => 9 | 4 => 4 | 3 => 3 | 5 => 5 | 117 => 249 | 116 => 248 | 0 => 0 | 124 => 252 | 105 => 253 | 21 => 21 | 119 => 257 | 46 => 172 | 139 => 260 | 138 => 259 | n => n, fun | 3 => 0 | 4 => 1 | n => n⟩
theorem Tryz.lays161 : Go.Proofs.Lays.n161 Tryz.prog Tryz.lays161_ren := {
 mixed := by kernel_rfl
 f119 := Tryz.func174.trans (congrArg some (by kernel_rfl))
 f137 := Tryz.func173.trans (congrArg some (by kernel_rfl))
 f151 := Tryz.func170.trans (congrArg some (by kernel_rfl))
 f152 := Tryz.func172.trans (congrArg some (by kernel_rfl))
 f161 := Tryz.func158.trans (congrArg some (by kernel_rfl))
 f197 := Tryz.func169.trans (congrArg some (by kernel_rfl))
 f217 := Tryz.func177.trans (congrArg some (by kernel_rfl))
 f224 := Tryz.func175.trans (congrArg some (by kernel_rfl))
 f225 := Tryz.func176.trans (congrArg some (by kernel_rfl))
 f227 := Tryz.func164.trans (congrArg some (by kernel_rfl))
 f228 := Tryz.func168.trans (congrArg some (by kernel_rfl))
 f231 := Tryz.func163.trans (congrArg some (by kernel_rfl))
 f233 := Tryz.func165.trans (congrArg some (by kernel_rfl))
 f235 := Tryz.func166.trans (congrArg some (by kernel_rfl))
 f260 := Tryz.func171.trans (congrArg some (by kernel_rfl))
 f266 := Tryz.func178.trans (congrArg some (by kernel_rfl))
 t0 := Tryz.underlying0
 a0 := Tryz.isAgg0
 z0 := Tryz.sizeOf0
 v0 := Tryz.zeroValue0
 t3 := Tryz.underlying3
 a3 := Tryz.isAgg3
 z3 := Tryz.sizeOf3
 v3 := Tryz.zeroValue3
 t4 := Tryz.underlying4
 a4 := Tryz.isAgg4
 z4 := Tryz.sizeOf4
 v4 := Tryz.zeroValue4
 t5 := Tryz.underlying5
 a5 := Tryz.isAgg5
 z5 := Tryz.sizeOf5
 v5 := Tryz.zeroValue5
 t9 := Tryz.underlying9
 a9 := Tryz.isAgg9
 z9 := Tryz.sizeOf9
 v9 := Tryz.zeroValue9
 t21 := Tryz.underlying21
 a21 := Tryz.isAgg21
 z21 := Tryz.sizeOf21
 v21 := Tryz.zeroValue21
 t46 := Tryz.underlying172
 a46 := Tryz.isAgg172
 z46 := Tryz.sizeOf172
 v46 := Tryz.zeroValue172
 t105 := Tryz.underlying253
 a105 := Tryz.isAgg253
 z105 := Tryz.sizeOf253
 v105 := Tryz.zeroValue253
 t116 := Tryz.underlying248
 a116 := Tryz.isAgg248
 z116 := Tryz.sizeOf248
 t117 := Tryz.underlying249
 a117 := Tryz.isAgg249
 z117 := Tryz.sizeOf249
 v117 := Tryz.zeroValue249
 t119 := Tryz.underlying257
 a119 := Tryz.isAgg257
 z119 := Tryz.sizeOf257
 t124 := Tryz.underlying252
 a124 := Tryz.isAgg252
 z124 := Tryz.sizeOf252
 v124 := Tryz.zeroValue252
 t138 := Tryz.underlying259
 a138 := Tryz.isAgg259
 z138 := Tryz.sizeOf259
 v138 := Tryz.zeroValue259
 t139 := Tryz.underlying260
 a139 := Tryz.isAgg260
 z139 := Tryz.sizeOf260
 v139 := Tryz.zeroValue260
 g3 := by kernel_rfl
 g4 := by kernel_rfl }
open Go.RowKit in
theorem Tryz.strings_TrimLeft_one (s : ByteArray) (c : UInt8) (hc : c.toNat < 128) (w : World) :
 Calls Tryz.prog 158 #[.string s, .string ⟨#[c]⟩] w fun e w' => e = .returned (.string ⟨(Lib.trimLeftB s.data.toList c).toArray⟩) ∧ w' = w := Any.strings_TrimLeft_one Tryz.lays161 s c hc w
def Tryz.lays122_ren : Go.Shelf.Ren := ⟨fun | 122 => 155 | 215 => 162 | n => n, fun | 3 => 3 | 4 => 4 | n => n, fun | n => n⟩
theorem Tryz.lays122 : Go.Proofs.Lays.n122 Tryz.prog Tryz.lays122_ren := {
 mixed := by kernel_rfl
 f122 := Tryz.func155.trans (congrArg some (by kernel_rfl))
 f215 := Tryz.func162.trans (congrArg some (by kernel_rfl))
 t3 := Tryz.underlying3
 a3 := Tryz.isAgg3
 z3 := Tryz.sizeOf3
 v3 := Tryz.zeroValue3
 t4 := Tryz.underlying4
 a4 := Tryz.isAgg4
 z4 := Tryz.sizeOf4
 v4 := Tryz.zeroValue4 }
open Go.RowKit in
theorem Tryz.cmp_Compare_int (x y : Int) (w : World) :
 Calls Tryz.prog 155 #[.int .i64 x, .int .i64 y] w fun e w' => e = .returned (.int .i64 (Lib.compareInt x y)) ∧ w' = w := Any.cmp_Compare_int Tryz.lays122 x y w
end Go.Proofs
