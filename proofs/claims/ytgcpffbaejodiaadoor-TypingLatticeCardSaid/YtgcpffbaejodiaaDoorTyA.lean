/- Typing: the small functions. -/
import Derived.Test.YtgcpffbaejodiaaDoorTyM
import Derived.Test.YtgcpffbaejodiaaDoorCel
import Derived.Test.YtgcpffbaejodiaaDoorIdN
import Derived.Test.YtgcpffbaejodiaaDoorCmpR
import Derived.Deep.DeepCutAuto
namespace Go.Proofs.YtgcpffbaejodiaaDoor
open Go.RowKit
theorem ret_v {a b : Value} (h : a = b) : Ending.returned a = Ending.returned b := by rw [h]
theorem retS {a b : ByteArray} (h : a = b) : Ending.returned (.string a) = Ending.returned (.string b) := by rw [h]
/-- a kind's name -/
def nameZ (k : Int) : List UInt8 := if 0 ≤ k ∧ k ≤ 7 then VT.nameK k.toNat else []
abbrev namesA : Array Value := #[.string ⟨#[97, 110, 121]⟩, .string ⟨#[110, 117, 108, 108]⟩, .string ⟨#[98, 111, 111, 108]⟩, .string ⟨#[105, 110, 116]⟩, .string ⟨#[115, 116, 114, 105, 110, 103]⟩, .string ⟨#[108, 105, 115, 116]⟩, .string ⟨#[109, 97, 112]⟩, .string ⟨#[110, 101, 118, 101, 114]⟩]
theorem names_at {j : Nat} (h : j ≤ 7) : namesA.toList[j]? = some (.string (strS (VT.nameK j))) := by
 have : j = 0 ∨ j = 1 ∨ j = 2 ∨ j = 3 ∨ j = 4 ∨ j = 5 ∨ j = 6 ∨ j = 7 := by omega
 rcases this with rfl | rfl | rfl | rfl | rfl | rfl | rfl | rfl <;> rfl
set_option maxRecDepth 100000 in
set_option maxHeartbeats 2000000 in
theorem name_any (k : Int) (w : World) : Calls Tryd.prog 30 #[.int .i64 k] w fun e w' => e = .returned (.string (strS (nameZ k))) ∧ Below w.heap.size w w' := by
 by_cases h0 : k < 0
 ·
  have hv : nameZ k = [] := by unfold nameZ; rw [if_neg (by omega)]
  rw [hv]
  clear hv
  go_enter Tryd.func30, Tryd.ntmps30
  go_upto_region 2 with (fail)
  generalize hx : World.alloc w _ = w1
  have hC : CellsAt w1 w.heap.size namesA.toList := by rw [← hx]; exact CellsAt.new w namesA _
  have hb : Below w.heap.size w w1 := by rw [← hx]; exact (Below.refl _ _).alloc (Nat.le_refl _) _
  clear hx
  clear hC
  repeat' ((fail_if_success at_builtin); (first | go_skip | go_guarded | go_step))
  go_ret
  exact ⟨rfl, hb⟩
 ·
  by_cases h7 : 8 ≤ k
  ·
   have hv : nameZ k = [] := by unfold nameZ; rw [if_neg (by omega)]
   rw [hv]
   clear hv
   go_enter Tryd.func30, Tryd.ntmps30
   go_upto_region 2 with (fail)
   generalize hx : World.alloc w _ = w1
   have hC : CellsAt w1 w.heap.size namesA.toList := by rw [← hx]; exact CellsAt.new w namesA _
   have hb : Below w.heap.size w w1 := by rw [← hx]; exact (Below.refl _ _).alloc (Nat.le_refl _) _
   clear hx
   clear hC
   repeat' ((fail_if_success at_builtin); (first | go_skip | go_guarded | go_step))
   go_ret
   exact ⟨rfl, hb⟩
  ·
   obtain ⟨j, rfl⟩ : ∃ j : Nat, k = (j : Int) := ⟨k.toNat, by omega⟩
   have hj : j ≤ 7 := by omega
   have hv : nameZ (j : Int) = VT.nameK j := by unfold nameZ; rw [if_pos (by omega)]; rfl
   rw [hv]
   clear hv
   have g0 : (0 : Int) ≤ (j : Int) := by omega
   have g8 : (j : Int) < 8 := by omega
   go_enter Tryd.func30, Tryd.ntmps30
   go_upto_region 2 with (fail)
   generalize hx : World.alloc w _ = w1
   have hC : CellsAt w1 w.heap.size namesA.toList := by rw [← hx]; exact CellsAt.new w namesA _
   have hb : Below w.heap.size w w1 := by rw [← hx]; exact (Below.refl _ _).alloc (Nat.le_refl _) _
   clear hx
   have cj := hC.cell j _ (names_at hj)
   clear hC
   repeat' ((fail_if_success at_builtin); (first | go_skip | go_guarded | go_step))
   go_ret
   exact ⟨rfl, hb⟩
set_option maxRecDepth 100000 in
set_option maxHeartbeats 2000000 in
theorem nested_any (k : Int) (w : World) : Calls Tryd.prog 31 #[.int .i64 k] w fun e w' => e = .returned (.bool (holdsK k)) ∧ Below w.heap.size w w' := by
 have hb := Below.refl w.heap.size w
 have hv : holdsK k = (k == 5 || k == 6) := rfl
 rw [hv]
 clear hv
 by_cases h5 : k = 5
 ·
  subst h5
  go_enter Tryd.func31, Tryd.ntmps31
  repeat' ((fail_if_success at_builtin); (first | go_skip | go_guarded | go_step))
  go_ret
  exact ⟨rfl, hb⟩
 ·
  have g5 : (k == 5) = false := by simpa using h5
  rw [g5]
  clear h5
  go_enter Tryd.func31, Tryd.ntmps31
  repeat' ((fail_if_success at_builtin); (first | go_skip | go_guarded | go_step))
  go_ret
  exact ⟨by first | rfl | (rw [Bool.false_or]), hb⟩
set_option maxRecDepth 100000 in
set_option maxHeartbeats 2000000 in
theorem holds_any (k : Int) (w : World) : Calls Tryd.prog 52 #[.int .i64 k] w fun e w' => e = .returned (.bool (holdsK k)) ∧ Below w.heap.size w w' := by
 have hb := Below.refl w.heap.size w
 have hv : holdsK k = (k == 5 || k == 6) := rfl
 rw [hv]
 clear hv
 by_cases h5 : k = 5
 ·
  subst h5
  go_enter Tryd.func52, Tryd.ntmps52
  repeat' ((fail_if_success at_builtin); (first | go_skip | go_guarded | go_step))
  go_ret
  exact ⟨rfl, hb⟩
 ·
  have g5 : (k == 5) = false := by simpa using h5
  rw [g5]
  clear h5
  go_enter Tryd.func52, Tryd.ntmps52
  repeat' ((fail_if_success at_builtin); (first | go_skip | go_guarded | go_step))
  go_ret
  exact ⟨by first | rfl | (rw [Bool.false_or]), hb⟩
set_option maxRecDepth 100000 in
set_option maxHeartbeats 2000000 in
theorem scalar_any (k : Int) (w : World) : Calls Tryd.prog 35 #[.int .i64 k] w fun e w' => e = .returned (.agg #[.int .i64 k, .slice none 0 0]) ∧ Below w.heap.size w w' := by
 go_enter Tryd.func35, Tryd.ntmps35
 go_upto_region 1 with (fail)
 generalize hx_ : World.alloc w _ = wo1
 have hO1 : OwnB w wo1 [(w.heap.size, [.int .i64 0, .slice none 0 0])] := by rw [← hx_]; exact (OwnB.refl w).new #[.int .i64 0, .slice none 0 0] _ (g := w.heap.size)
 clear hx_
 have c0_0 := hO1.c 0 0
 have c0_1 := hO1.c 0 1
 have cf0 := hO1.fr 0
 repeat' ((fail_if_success at_builtin); (first | go_skip | go_guarded | go_step))
 generalize hx_ : World.setCell (World.setCell _ _ _) _ _ = wo2
 have hO2 : OwnB w wo2 [(w.heap.size, [.int .i64 k, .slice none 0 0])] := by rw [← hx_]; exact (hO1.store 0 rfl 0 _).store 0 rfl 1 _
 clear hx_ c0_0 c0_1 cf0 hO1
 have c0_0 := hO2.c 0 0
 have c0_1 := hO2.c 0 1
 have cf0 := hO2.fr 0
 have hb := hO2.below
 refine bodyPost_ret (v := .agg #[.int .i64 k, .slice none 0 0]) (by simp only [results, Tryd.results35]; go_simp; first | done | exact ⟨rfl, rfl, rfl⟩ | rfl) rfl ?_
 exact ⟨rfl, hb⟩
set_option maxRecDepth 100000 in
set_option maxHeartbeats 2000000 in
theorem plainT_any (k : Int) (w : World) : Calls Tryd.prog 37 #[.int .i64 k] w fun e w' => e = .returned (.agg #[.int .i64 k, .slice none 0 0]) ∧ Below w.heap.size w w' := by
 go_enter Tryd.func37, Tryd.ntmps37
 go_upto_region 1 with (fail)
 generalize hx_ : World.alloc w _ = wo1
 have hO1 : OwnB w wo1 [(w.heap.size, [.int .i64 0, .slice none 0 0])] := by rw [← hx_]; exact (OwnB.refl w).new #[.int .i64 0, .slice none 0 0] _ (g := w.heap.size)
 clear hx_
 have c0_0 := hO1.c 0 0
 have c0_1 := hO1.c 0 1
 have cf0 := hO1.fr 0
 repeat' ((fail_if_success at_builtin); (first | go_skip | go_guarded | go_step))
 generalize hx_ : World.setCell (World.setCell _ _ _) _ _ = wo2
 have hO2 : OwnB w wo2 [(w.heap.size, [.int .i64 k, .slice none 0 0])] := by rw [← hx_]; exact (hO1.store 0 rfl 0 _).store 0 rfl 1 _
 clear hx_ c0_0 c0_1 cf0 hO1
 have c0_0 := hO2.c 0 0
 have c0_1 := hO2.c 0 1
 have cf0 := hO2.fr 0
 have hb := hO2.below
 refine bodyPost_ret (v := .agg #[.int .i64 k, .slice none 0 0]) (by simp only [results, Tryd.results37]; go_simp; first | done | exact ⟨rfl, rfl, rfl⟩ | rfl) rfl ?_
 exact ⟨rfl, hb⟩
set_option maxRecDepth 100000 in
set_option maxHeartbeats 2000000 in
theorem of_any (k kk : Int) (A : Option Addr) (n c : Nat) (w : World) : Calls Tryd.prog 49 #[.int .i64 k, .agg #[.int .i64 kk, .slice A n c]] w fun e w' => ∃ g, e = .returned (.agg #[.int .i64 k, .slice (some ⟨g, 0, none⟩) 1 1]) ∧ w.heap.size ≤ g ∧ CellsAt w' g [.int .i64 kk, .slice A n c] ∧ Below w.heap.size w w' := by
 go_enter Tryd.func49, Tryd.ntmps49
 go_upto_region 1 with (fail)
 generalize hx_ : World.alloc (World.alloc w _) _ = wo1
 have hO1 : OwnB w wo1 [(w.heap.size + 1, [.int .i64 0, .slice none 0 0]), (w.heap.size, [.int .i64 kk, .slice A n c])] := by rw [← hx_]; exact ((OwnB.refl w).new #[.int .i64 kk, .slice A n c] _ (g := w.heap.size)).new #[.int .i64 0, .slice none 0 0] _ (g := w.heap.size + 1)
 clear hx_
 have c0_0 := hO1.c 0 0
 have c0_1 := hO1.c 0 1
 have cf0 := hO1.fr 0
 have c1_0 := hO1.c 1 0
 have c1_1 := hO1.c 1 1
 have cf1 := hO1.fr 1
 have hm_ : ∀ ob, OwnB w (wo1.alloc ob) [(w.heap.size + 1, [.int .i64 0, .slice none 0 0]), (w.heap.size, [.int .i64 kk, .slice A n c])] := fun ob => hO1.kept ((Below.refl _ _).alloc (Nat.le_refl _) _)
 have m0_0 : ∀ ob, (wo1.alloc ob).cell? ⟨w.heap.size + 1, 0, none⟩ = some (.int .i64 0) := fun ob => (hm_ ob).c 0 0
 have m0_1 : ∀ ob, (wo1.alloc ob).cell? ⟨w.heap.size + 1, 1, none⟩ = some (.slice none 0 0) := fun ob => (hm_ ob).c 0 1
 have mf0 : ∀ ob j, (wo1.alloc ob).frozen? ⟨w.heap.size + 1, j, none⟩ = false := fun ob => (hm_ ob).fr 0
 have m1_0 : ∀ ob, (wo1.alloc ob).cell? ⟨w.heap.size, 0, none⟩ = some (.int .i64 kk) := fun ob => (hm_ ob).c 1 0
 have m1_1 : ∀ ob, (wo1.alloc ob).cell? ⟨w.heap.size, 1, none⟩ = some (.slice A n c) := fun ob => (hm_ ob).c 1 1
 have mf1 : ∀ ob j, (wo1.alloc ob).frozen? ⟨w.heap.size, j, none⟩ = false := fun ob => (hm_ ob).fr 1
 clear hm_
 repeat' ((fail_if_success at_builtin); (first | go_skip | go_guarded | go_step))
 clear m0_0 m0_1 mf0 m1_0 m1_1 mf1
 generalize hx_ : World.setCell (World.setCell (World.alloc wo1 _) _ _) _ _ = wo2
 have hO2 : OwnB w wo2 [(wo1.heap.size, [.int .i64 kk, .slice A n c]), (w.heap.size + 1, [.int .i64 k, .slice (some ⟨wo1.heap.size, 0, none⟩) 1 1]), (w.heap.size, [.int .i64 kk, .slice A n c])] := by rw [← hx_]; exact ((hO1.new #[.int .i64 kk, .slice A n c] _ (g := wo1.heap.size)).store 1 rfl 0 _).store 1 rfl 1 _
 clear hx_ c0_0 c0_1 cf0 c1_0 c1_1 cf1 hO1
 have c0_0 := hO2.c 0 0
 have c0_1 := hO2.c 0 1
 have cf0 := hO2.fr 0
 have c1_0 := hO2.c 1 0
 have c1_1 := hO2.c 1 1
 have cf1 := hO2.fr 1
 have c2_0 := hO2.c 2 0
 have c2_1 := hO2.c 2 1
 have cf2 := hO2.fr 2
 have hg := (hO2.all 0 _ _ rfl)
 have hb := hO2.below
 refine bodyPost_ret (v := .agg #[.int .i64 k, .slice (some ⟨wo1.heap.size, 0, none⟩) 1 1]) (by simp only [results, Tryd.results49]; go_simp; first | done | exact ⟨rfl, rfl, rfl⟩ | rfl) rfl ?_
 exact ⟨_, rfl, hg.1, hg.2, hb⟩
set_option maxRecDepth 100000 in
set_option maxHeartbeats 2000000 in
theorem with_any (k kk : Int) (A : Option Addr) (n c : Nat) (w : World) : Calls Tryd.prog 33 #[.int .i64 k, .agg #[.int .i64 kk, .slice A n c]] w fun e w' => ∃ g, e = .returned (.agg #[.int .i64 k, .slice (some ⟨g, 0, none⟩) 1 1]) ∧ w.heap.size ≤ g ∧ CellsAt w' g [.int .i64 kk, .slice A n c] ∧ Below w.heap.size w w' := by
 go_enter Tryd.func33, Tryd.ntmps33
 go_upto_region 1 with (fail)
 generalize hx_ : World.alloc (World.alloc w _) _ = wo1
 have hO1 : OwnB w wo1 [(w.heap.size + 1, [.int .i64 0, .slice none 0 0]), (w.heap.size, [.int .i64 kk, .slice A n c])] := by rw [← hx_]; exact ((OwnB.refl w).new #[.int .i64 kk, .slice A n c] _ (g := w.heap.size)).new #[.int .i64 0, .slice none 0 0] _ (g := w.heap.size + 1)
 clear hx_
 have c0_0 := hO1.c 0 0
 have c0_1 := hO1.c 0 1
 have cf0 := hO1.fr 0
 have c1_0 := hO1.c 1 0
 have c1_1 := hO1.c 1 1
 have cf1 := hO1.fr 1
 have hm_ : ∀ ob, OwnB w (wo1.alloc ob) [(w.heap.size + 1, [.int .i64 0, .slice none 0 0]), (w.heap.size, [.int .i64 kk, .slice A n c])] := fun ob => hO1.kept ((Below.refl _ _).alloc (Nat.le_refl _) _)
 have m0_0 : ∀ ob, (wo1.alloc ob).cell? ⟨w.heap.size + 1, 0, none⟩ = some (.int .i64 0) := fun ob => (hm_ ob).c 0 0
 have m0_1 : ∀ ob, (wo1.alloc ob).cell? ⟨w.heap.size + 1, 1, none⟩ = some (.slice none 0 0) := fun ob => (hm_ ob).c 0 1
 have mf0 : ∀ ob j, (wo1.alloc ob).frozen? ⟨w.heap.size + 1, j, none⟩ = false := fun ob => (hm_ ob).fr 0
 have m1_0 : ∀ ob, (wo1.alloc ob).cell? ⟨w.heap.size, 0, none⟩ = some (.int .i64 kk) := fun ob => (hm_ ob).c 1 0
 have m1_1 : ∀ ob, (wo1.alloc ob).cell? ⟨w.heap.size, 1, none⟩ = some (.slice A n c) := fun ob => (hm_ ob).c 1 1
 have mf1 : ∀ ob j, (wo1.alloc ob).frozen? ⟨w.heap.size, j, none⟩ = false := fun ob => (hm_ ob).fr 1
 clear hm_
 repeat' ((fail_if_success at_builtin); (first | go_skip | go_guarded | go_step))
 clear m0_0 m0_1 mf0 m1_0 m1_1 mf1
 generalize hx_ : World.setCell (World.setCell (World.alloc wo1 _) _ _) _ _ = wo2
 have hO2 : OwnB w wo2 [(wo1.heap.size, [.int .i64 kk, .slice A n c]), (w.heap.size + 1, [.int .i64 k, .slice (some ⟨wo1.heap.size, 0, none⟩) 1 1]), (w.heap.size, [.int .i64 kk, .slice A n c])] := by rw [← hx_]; exact ((hO1.new #[.int .i64 kk, .slice A n c] _ (g := wo1.heap.size)).store 1 rfl 0 _).store 1 rfl 1 _
 clear hx_ c0_0 c0_1 cf0 c1_0 c1_1 cf1 hO1
 have c0_0 := hO2.c 0 0
 have c0_1 := hO2.c 0 1
 have cf0 := hO2.fr 0
 have c1_0 := hO2.c 1 0
 have c1_1 := hO2.c 1 1
 have cf1 := hO2.fr 1
 have c2_0 := hO2.c 2 0
 have c2_1 := hO2.c 2 1
 have cf2 := hO2.fr 2
 have hg := (hO2.all 0 _ _ rfl)
 have hb := hO2.below
 refine bodyPost_ret (v := .agg #[.int .i64 k, .slice (some ⟨wo1.heap.size, 0, none⟩) 1 1]) (by simp only [results, Tryd.results33]; go_simp; first | done | exact ⟨rfl, rfl, rfl⟩ | rfl) rfl ?_
 exact ⟨_, rfl, hg.1, hg.2, hb⟩
end Go.Proofs.YtgcpffbaejodiaaDoor
