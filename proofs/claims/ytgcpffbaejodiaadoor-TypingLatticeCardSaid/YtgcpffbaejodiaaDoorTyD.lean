/- Typing: clone. -/
import Derived.Test.YtgcpffbaejodiaaDoorTyChk
import Derived.Test.YtgcpffbaejodiaaDoorHk
namespace Go.Proofs.YtgcpffbaejodiaaDoor
open Go.RowKit
theorem rv_base {w : World} {S : Nat → Prop} {k : Nat} {x : Int} {A : Option Addr} {n c : Nat} (h : RV w S (.base k) [.int .i64 x, .slice A n c]) : x = (k : Int) ∧ n = 0 ∧ (A = none → c = 0) := by
 obtain ⟨A', c', h1, h2⟩ := h
 injection h1 with e1 e2
 injection e1 with _ e1
 injection e2 with e2 _
 injection e2 with e2 e3 e4
 subst e2 e4
 exact ⟨e1, e3, h2⟩
theorem rv_of {w : World} {S : Nat → Prop} {k : Nat} {e : VT} {x : Int} {A : Option Addr} {n c : Nat} (h : RV w S (.of k e) [.int .i64 x, .slice A n c]) : x = (k : Int) ∧ n = 1 ∧ 1 ≤ c ∧ ∃ b o A1 n1 c1, A = some ⟨b, o, none⟩ ∧ S b ∧ w.cell? ⟨b, o, none⟩ = some (.int .i64 (e.kind : Int)) ∧ w.cell? ⟨b, o + 1, none⟩ = some (.slice A1 n1 c1) ∧ RV w S e [.int .i64 (e.kind : Int), .slice A1 n1 c1] := by
 obtain ⟨b, o, c', ds, h1, h2, h3, h4, h5⟩ := h
 injection h1 with e1 e2
 injection e1 with _ e1
 injection e2 with e2 _
 injection e2 with e2 e3 e4
 subst e2 e4
 obtain ⟨A1, n1, c1, rfl⟩ := h5.form
 exact ⟨e1, e3, h2, b, o, A1, n1, c1, rfl, h3, h4 0 _ rfl, h4 1 _ rfl, h5⟩
/-- a type is handed back: in blocks of which S says yes, or of the call's own -/
def RetT (w : World) (S : Nat → Prop) (v : VT) (e : Ending) (w' : World) : Prop := ∃ A n c, e = .returned (.agg #[.int .i64 (v.kind : Int), .slice A n c]) ∧ RV w' (fun b => S b ∨ (w.heap.size ≤ b ∧ b < w'.heap.size)) v [.int .i64 (v.kind : Int), .slice A n c] ∧ Below w.heap.size w w'
theorem rv_scalar (w : World) (S : Nat → Prop) (k : Nat) : RV w S (.base k) [.int .i64 ((VT.base k).kind : Int), .slice none 0 0] := ⟨none, 0, rfl, fun _ => rfl⟩
theorem rv_mk {w : World} {S : Nat → Prop} {g k : Nat} {e : VT} {x : Int} {A : Option Addr} {n c : Nat} (hC : CellsAt w g [.int .i64 x, .slice A n c]) (hg : S g) (he : RV w S e [.int .i64 x, .slice A n c]) : RV w S (.of k e) [.int .i64 ((VT.of k e).kind : Int), .slice (some ⟨g, 0, none⟩) 1 1] :=
 ⟨g, 0, 1, _, rfl, Nat.le_refl _, hg, fun j u hu => by rw [Nat.zero_add]; exact hC.cell j u hu, he⟩
theorem RV.at_ {S : Nat → Prop} {v : VT} {w w' : World} {cs : List Value} (h : RV w S v cs) (hS : ∀ b, S b → b < w.heap.size) (hb : Below w.heap.size w w') : RV w' S v cs := h.map (fun _ hp => hb.cell (hS _ hp)) fun _ h => h
/-- behind a call and a store of both cells of a block between -/
theorem RV.back {S : Nat → Prop} {v : VT} {w7 w8 : World} {cs : List Value} {s0 s2 b4 : Nat} (u x : Value) (h : RV w7 (fun b => S b ∨ (s2 ≤ b ∧ b < w7.heap.size)) v cs) (h78 : Below w7.heap.size w7 w8) (hS : ∀ b, S b → b < s0) (h0 : s0 ≤ b4) (h4 : b4 < s2) (h2 : s2 ≤ w7.heap.size) :
  RV ((w8.setCell ⟨b4, 0, none⟩ u).setCell ⟨b4, 1, none⟩ x) (fun b => S b ∨ (s0 ≤ b ∧ b < w8.heap.size)) v cs := by
 refine h.map (fun p hp => ?_) (fun b hb => ?_)
 ·
  have hne : p.block ≠ b4 := by
   rcases hp with hp | hp
   ·
    have := hS _ hp; omega
   ·
    omega
  have hlt : p.block < w7.heap.size := by
   rcases hp with hp | hp
   ·
    have := hS _ hp; omega
   ·
    exact hp.2
  rw [World.cell?_setCell_other _ _ _ _ (fun e => hne (by rw [← e])), World.cell?_setCell_other _ _ _ _ (fun e => hne (by rw [← e]))]
  exact h78.cell hlt
 ·
  rcases hb with hb | hb
  ·
   exact .inl hb
  ·
   have := h78.size
   exact .inr (by omega)
theorem cells_back {w8 : World} {g b4 : Nat} {cs : List Value} (u x : Value) (h : CellsAt w8 g cs) (hne : g ≠ b4) : CellsAt ((w8.setCell ⟨b4, 0, none⟩ u).setCell ⟨b4, 1, none⟩ x) g cs :=
 (h.grow (Lib.grownBy_setB (World.grownBy.refl _ _) _ _) hne).grow (Lib.grownBy_setB (World.grownBy.refl _ _) _ _) hne
theorem holds_base {k : Nat} (h : (VT.base k).Ok) : holdsK (k : Int) = false := by
 obtain ⟨_, h5, h6⟩ := h
 unfold holdsK
 simp
 omega
theorem holds_of {k : Nat} {e : VT} (h : (VT.of k e).Ok) : holdsK (k : Int) = true := by
 rcases h.1 with rfl | rfl <;> rfl
set_option maxRecDepth 100000 in
set_option maxHeartbeats 4000000 in
theorem clone_any (v : VT) : ∀ (x : Int) (A : Option Addr) (n c : Nat) (w : World) (S : Nat → Prop), v.Ok → (∀ b, S b → b < w.heap.size) → RV w S v [.int .i64 x, .slice A n c] →
  Calls Tryd.prog 55 #[.agg #[.int .i64 x, .slice A n c]] w fun e w' => RetT w S v e w' := by
 induction v with
 | base k =>
  intro x A n c w S hok hSb h
  obtain ⟨rfl, rfl, _⟩ := rv_base h
  have hh := holds_base hok
  replace hh := Lib.hid hh
  clear h
  go_enter Tryd.func55, Tryd.ntmps55
  go_upto_region 1 with (fail)
  generalize hx_ : World.alloc (World.alloc w _) _ = wo1
  have hO1 : OwnB w wo1 [(w.heap.size + 1, [.int .i64 0, .slice none 0 0]), (w.heap.size, [.int .i64 (k : Int), .slice A 0 c])] := by rw [← hx_]; exact ((OwnB.refl w).new #[.int .i64 (k : Int), .slice A 0 c] _ (g := w.heap.size)).new #[.int .i64 0, .slice none 0 0] _ (g := w.heap.size + 1)
  clear hx_
  have c0_0 := hO1.c 0 0
  have c0_1 := hO1.c 0 1
  have cf0 := hO1.fr 0
  have c1_0 := hO1.c 1 0
  have c1_1 := hO1.c 1 1
  have cf1 := hO1.fr 1
  repeat' ((fail_if_success at_builtin); (first | go_skip | go_guarded | go_step))
  refine (nested_any (k : Int) _).mono ?_
  rintro e w2 ⟨rfl, hb2⟩
  dsimp only
  have hO2 : OwnB w w2 [(w.heap.size + 1, [.int .i64 0, .slice none 0 0]), (w.heap.size, [.int .i64 (k : Int), .slice A 0 c])] := hO1.kept hb2
  clear c0_0 c0_1 cf0 c1_0 c1_1 cf1 hO1
  have c0_0 := hO2.c 0 0
  have c0_1 := hO2.c 0 1
  have cf0 := hO2.fr 0
  have c1_0 := hO2.c 1 0
  have c1_1 := hO2.c 1 1
  have cf1 := hO2.fr 1
  rw [hh.out]
  repeat' ((fail_if_success at_builtin); (first | go_skip | go_guarded | go_step))
  refine (scalar_any (k : Int) _).mono ?_
  rintro e w3 ⟨rfl, hb3⟩
  dsimp only
  have hO3 : OwnB w w3 [(w.heap.size + 1, [.int .i64 0, .slice none 0 0]), (w.heap.size, [.int .i64 (k : Int), .slice A 0 c])] := hO2.kept hb3
  clear c0_0 c0_1 cf0 c1_0 c1_1 cf1 hO2
  have c0_0 := hO3.c 0 0
  have c0_1 := hO3.c 0 1
  have cf0 := hO3.fr 0
  have c1_0 := hO3.c 1 0
  have c1_1 := hO3.c 1 1
  have cf1 := hO3.fr 1
  repeat' ((fail_if_success at_builtin); (first | go_skip | go_guarded | go_step))
  generalize hx_ : World.setCell (World.setCell _ _ _) _ _ = wo4
  have hO4 : OwnB w wo4 [(w.heap.size + 1, [.int .i64 (k : Int), .slice none 0 0]), (w.heap.size, [.int .i64 (k : Int), .slice A 0 c])] := by rw [← hx_]; exact (hO3.store 0 rfl 0 _).store 0 rfl 1 _
  clear hx_ c0_0 c0_1 cf0 c1_0 c1_1 cf1 hO3
  have c0_0 := hO4.c 0 0
  have c0_1 := hO4.c 0 1
  have cf0 := hO4.fr 0
  have c1_0 := hO4.c 1 0
  have c1_1 := hO4.c 1 1
  have cf1 := hO4.fr 1
  have hb := hO4.below
  refine bodyPost_ret (v := .agg #[.int .i64 (k : Int), .slice none 0 0]) (by simp only [results, Tryd.results55]; go_simp; first | done | exact ⟨rfl, rfl, rfl⟩ | rfl) rfl ?_
  exact ⟨none, 0, 0, rfl, rv_scalar _ _ k, hb⟩
 | of k e ih =>
  intro x A n c w S hok hSb h
  obtain ⟨rfl, rfl, hc, b, o2, A1, n1, c1, rfl, hbS, x0, x1, hre⟩ := rv_of h
  have hh := holds_of hok
  have hok2 := hok.2
  have hc1i : (1 : Int) ≤ (c : Int) := by omega
  replace hh := Lib.hid hh
  replace ih := Lib.hid ih
  clear h
  go_enter Tryd.func55, Tryd.ntmps55
  go_upto_region 1 with (fail)
  generalize hx_ : World.alloc (World.alloc w _) _ = wo1
  have hO1 : OwnB w wo1 [(w.heap.size + 1, [.int .i64 0, .slice none 0 0]), (w.heap.size, [.int .i64 (k : Int), .slice (some ⟨b, o2, none⟩) 1 c])] := by rw [← hx_]; exact ((OwnB.refl w).new #[.int .i64 (k : Int), .slice (some ⟨b, o2, none⟩) 1 c] _ (g := w.heap.size)).new #[.int .i64 0, .slice none 0 0] _ (g := w.heap.size + 1)
  clear hx_
  have c0_0 := hO1.c 0 0
  have c0_1 := hO1.c 0 1
  have cf0 := hO1.fr 0
  have c1_0 := hO1.c 1 0
  have c1_1 := hO1.c 1 1
  have cf1 := hO1.fr 1
  repeat' ((fail_if_success at_builtin); (first | go_skip | go_guarded | go_step))
  refine (nested_any (k : Int) _).mono ?_
  rintro e2 w2 ⟨rfl, hb2⟩
  dsimp only
  have hO2 : OwnB w w2 [(w.heap.size + 1, [.int .i64 0, .slice none 0 0]), (w.heap.size, [.int .i64 (k : Int), .slice (some ⟨b, o2, none⟩) 1 c])] := hO1.kept hb2
  clear c0_0 c0_1 cf0 c1_0 c1_1 cf1 hO1
  have c0_0 := hO2.c 0 0
  have c0_1 := hO2.c 0 1
  have cf0 := hO2.fr 0
  have c1_0 := hO2.c 1 0
  have c1_1 := hO2.c 1 1
  have cf1 := hO2.fr 1
  rw [hh.out]
  have hb0 := hO2.below
  have y0 := (hb0.cell (p := ⟨b, o2, none⟩) (hSb _ hbS)).trans x0
  have y1 := (hb0.cell (p := ⟨b, o2 + 1, none⟩) (hSb _ hbS)).trans x1
  have hSd := Lib.hid (fun b (h : S b) => (show b < w2.drew.heap.size from Nat.lt_of_lt_of_le (hSb b h) hb0.size))
  have hre := Lib.hid ((RV.at_ hre hSb hb0).at_ (fun b h => Nat.lt_of_lt_of_le (hSb b h) hb0.size) ((Below.refl _ w2).drew))
  have hbS2 := hSb _ hbS
  replace hbS := Lib.hid hbS
  have l0 := hO2.lt 1
  have l1 := hO2.lt 0
  have lb : b < w.heap.size + 1 := by omega
  have hS : ∀ w', Below (w.heap.size + 1) w2 w' → (Below (w.heap.size + 1) w2 w' ∧ w'.cell? ⟨w.heap.size, 0, none⟩ = some (.int .i64 (k : Int)) ∧ w'.cell? ⟨w.heap.size, 1, none⟩ = some (.slice (some ⟨b, o2, none⟩) 1 c) ∧ w'.cell? ⟨b, o2, none⟩ = some (.int .i64 (e.kind : Int)) ∧ w'.cell? ⟨b, o2 + 1, none⟩ = some (.slice A1 n1 c1)) := fun w' h => ⟨h, (h.cell (p := ⟨w.heap.size, 0, none⟩) (Nat.lt_succ_self _)).trans c1_0, (h.cell (p := ⟨w.heap.size, 1, none⟩) (Nat.lt_succ_self _)).trans c1_1, (h.cell (p := ⟨b, o2, none⟩) lb).trans y0, (h.cell (p := ⟨b, o2 + 1, none⟩) lb).trans y1⟩
  have keepS : ∀ w' w'', (Below (w.heap.size + 1) w2 w' ∧ w'.cell? ⟨w.heap.size, 0, none⟩ = some (.int .i64 (k : Int)) ∧ w'.cell? ⟨w.heap.size, 1, none⟩ = some (.slice (some ⟨b, o2, none⟩) 1 c) ∧ w'.cell? ⟨b, o2, none⟩ = some (.int .i64 (e.kind : Int)) ∧ w'.cell? ⟨b, o2 + 1, none⟩ = some (.slice A1 n1 c1)) → Below w'.heap.size w' w'' → (Below (w.heap.size + 1) w2 w'' ∧ w''.cell? ⟨w.heap.size, 0, none⟩ = some (.int .i64 (k : Int)) ∧ w''.cell? ⟨w.heap.size, 1, none⟩ = some (.slice (some ⟨b, o2, none⟩) 1 c) ∧ w''.cell? ⟨b, o2, none⟩ = some (.int .i64 (e.kind : Int)) ∧ w''.cell? ⟨b, o2 + 1, none⟩ = some (.slice A1 n1 c1)) := fun w' w'' h hq => hS _ (h.1.trans (hq.mono (by have := h.1.size; omega)))
  have keepW : ∀ w', (Below (w.heap.size + 1) w2 w' ∧ w'.cell? ⟨w.heap.size, 0, none⟩ = some (.int .i64 (k : Int)) ∧ w'.cell? ⟨w.heap.size, 1, none⟩ = some (.slice (some ⟨b, o2, none⟩) 1 c) ∧ w'.cell? ⟨b, o2, none⟩ = some (.int .i64 (e.kind : Int)) ∧ w'.cell? ⟨b, o2 + 1, none⟩ = some (.slice A1 n1 c1)) → ∀ u v, (Below (w.heap.size + 1) w2 ((w'.setCell ⟨w.heap.size + 1, 0, none⟩ u).setCell ⟨w.heap.size + 1, 1, none⟩ v) ∧ ((w'.setCell ⟨w.heap.size + 1, 0, none⟩ u).setCell ⟨w.heap.size + 1, 1, none⟩ v).cell? ⟨w.heap.size, 0, none⟩ = some (.int .i64 (k : Int)) ∧ ((w'.setCell ⟨w.heap.size + 1, 0, none⟩ u).setCell ⟨w.heap.size + 1, 1, none⟩ v).cell? ⟨w.heap.size, 1, none⟩ = some (.slice (some ⟨b, o2, none⟩) 1 c) ∧ ((w'.setCell ⟨w.heap.size + 1, 0, none⟩ u).setCell ⟨w.heap.size + 1, 1, none⟩ v).cell? ⟨b, o2, none⟩ = some (.int .i64 (e.kind : Int)) ∧ ((w'.setCell ⟨w.heap.size + 1, 0, none⟩ u).setCell ⟨w.heap.size + 1, 1, none⟩ v).cell? ⟨b, o2 + 1, none⟩ = some (.slice A1 n1 c1)) := fun w' h u v => hS _ ((h.1.setCell (p := ⟨w.heap.size + 1, 0, none⟩) (Nat.le_refl _) u).setCell (p := ⟨w.heap.size + 1, 1, none⟩) (Nat.le_refl _) v)
  have hS1 := hS w2.drew (Below.refl _ _).drew
  replace keepS := Lib.hid keepS
  replace keepW := Lib.hid keepW
  clear hS x0 x1
  repeat' ((fail_if_success at_builtin); (first | go_skip | go_guarded | go_step))
  refine wp_region_held_drew (S := fun w' => Below (w.heap.size + 1) w2 w' ∧ w'.cell? ⟨w.heap.size, 0, none⟩ = some (.int .i64 (k : Int)) ∧ w'.cell? ⟨w.heap.size, 1, none⟩ = some (.slice (some ⟨b, o2, none⟩) 1 c) ∧ w'.cell? ⟨b, o2, none⟩ = some (.int .i64 (e.kind : Int)) ∧ w'.cell? ⟨b, o2 + 1, none⟩ = some (.slice A1 n1 c1)) (by kernel_rfl) ?_ (fun hHeld => ?_)
  ·
   (try dsimp only)
   exact hS1
  refine tkY 0 (v := ?v1) rfl (.inl ⟨by rfl, ?hy1⟩) ?hr1
  case hy1 => (intro w hSw; (try dsimp only at hSw); go_simp; try with_reducible rfl)
  simp only [Act.put, List.getElem_toArray, List.getElem_cons_zero, List.getElem_cons_succ, List.setIfInBounds_toArray, List.set_cons_zero, List.set_cons_succ]
  refine tkY 1 (v := ?v2) rfl (.inl ⟨by rfl, ?hy2⟩) ?hr2
  case hy2 => (intro w hSw; (try dsimp only at hSw); go_simp; try with_reducible rfl)
  simp only [Act.put, List.getElem_toArray, List.getElem_cons_zero, List.getElem_cons_succ, List.setIfInBounds_toArray, List.set_cons_zero, List.set_cons_succ]
  refine tkY 2 (v := ?v3) rfl (.inl ⟨by rfl, ?hy3⟩) ?hr3
  case hy3 => (intro w hSw; (try dsimp only at hSw); go_simp; try with_reducible rfl)
  simp only [Act.put, List.getElem_toArray, List.getElem_cons_zero, List.getElem_cons_succ, List.setIfInBounds_toArray, List.set_cons_zero, List.set_cons_succ]
  refine tkY 3 (v := ?v4) rfl (.inl ⟨by rfl, ?hy4⟩) ?hr4
  case hy4 => (intro w hSw; (try dsimp only at hSw); go_simp; try with_reducible rfl)
  simp only [Act.put, List.getElem_toArray, List.getElem_cons_zero, List.getElem_cons_succ, List.setIfInBounds_toArray, List.set_cons_zero, List.set_cons_succ]
  refine tkY 4 (v := ?v5) rfl (.inl ⟨by rfl, ?hy5⟩) ?hr5
  case hy5 => (intro w hSw; (try dsimp only at hSw); go_simp; try with_reducible rfl)
  simp only [Act.put, List.getElem_toArray, List.getElem_cons_zero, List.getElem_cons_succ, List.setIfInBounds_toArray, List.set_cons_zero, List.set_cons_succ]
  refine tkY 5 (v := ?v6) rfl (.inl ⟨by rfl, ?hy6⟩) ?hr6
  case hy6 => (intro w hSw; (try dsimp only at hSw); go_simp; try with_reducible rfl)
  simp only [Act.put, List.getElem_toArray, List.getElem_cons_zero, List.getElem_cons_succ, List.setIfInBounds_toArray, List.set_cons_zero, List.set_cons_succ]
  refine wpAnyH_ready (rs := [6]) (by kernel_rfl) (by simp) ?_
  refine AllReadyH.cons rfl (fun K hK => ?_) AllReadyH.nil
  go_simp
  go_at_call 55
  refine (ih.out _ A1 n1 c1 _ S hok2 hSd.out hre.out).mono ?_
  rintro e7 w7 ⟨A7, n7, c7, rfl, hr7, hbq⟩
  dsimp only
  have hbA : Below w2.heap.size w2 w7 := (Below.refl _ w2).drew.trans (hbq.mono (Nat.le_refl _))
  refine hK.out _ _ ?_ (fun hHeld => ?_)
  ·
   (try dsimp only)
   first | exact keepS.out _ _ hHeld hbq | exact hst
  clear hK K
  try simp only [Act.put, List.getElem_toArray, List.getElem_cons_zero, List.getElem_cons_succ, List.setIfInBounds_toArray, List.set_cons_zero, List.set_cons_succ]
  refine wpAnyH_ready (rs := [7]) (by kernel_rfl) (by simp) ?_
  refine AllReadyH.cons rfl (fun K hK => ?_) AllReadyH.nil
  go_simp
  go_at_call 49
  refine (of_any (k : Int) (e.kind : Int) A7 n7 c7 _).mono ?_
  rintro e8 w8 ⟨g8, rfl, hg8, hC8, hbq⟩
  dsimp only
  have hb78 := hbq
  have hbB : Below w2.heap.size w2 w8 := hbA.trans (hbq.mono hbA.size)
  refine hK.out _ _ ?_ (fun hHeld => ?_)
  ·
   (try dsimp only)
   first | exact keepS.out _ _ hHeld hbq | exact hst
  clear hK K
  try simp only [Act.put, List.getElem_toArray, List.getElem_cons_zero, List.getElem_cons_succ, List.setIfInBounds_toArray, List.set_cons_zero, List.set_cons_succ]
  refine wpAnyH_ready (rs := [8]) (by kernel_rfl) (by simp) ?_
  refine AllReadyH.cons rfl (fun K hK => ?_) AllReadyH.nil
  go_simp
  have hO8 := hO2.kept hbB
  have z0 := hO8.c 0 0
  have z1 := hO8.c 0 1
  have zf := hO8.fr 0
  go_simp
  have hst := keepW.out _ hHeld (.int .i64 (k : Int)) (.slice (some ⟨g8, 0, none⟩) 1 1)
  refine hK.out _ _ ?_ (fun hHeld => ?_)
  ·
   (try dsimp only)
   first | exact keepS.out _ _ hHeld hbq | exact hst
  clear hK K
  try simp only [Act.put, List.getElem_toArray, List.getElem_cons_zero, List.getElem_cons_succ, List.setIfInBounds_toArray, List.set_cons_zero, List.set_cons_succ]
  refine wpAnyH_done (by kernel_rfl) ?_ _
  have hO9 := ((hO8.store 0 rfl 0 (.int .i64 (k : Int))).store 0 rfl 1 (.slice (some ⟨g8, 0, none⟩) 1 1))
  have hC9 := cells_back (b4 := w.heap.size + 1) (.int .i64 (k : Int)) (.slice (some ⟨g8, 0, none⟩) 1 1) hC8 (by have := hbA.size; omega)
  have hr9 := RV.back (s0 := w.heap.size) (b4 := w.heap.size + 1) (.int .i64 (k : Int)) (.slice (some ⟨g8, 0, none⟩) 1 1) hr7 hb78 hSb (Nat.le_succ _) l1 hbA.size
  have hl9 := hC8.lt
  have hg9 : w.heap.size ≤ g8 := by have := hbA.size; omega
  clear hHeld keepS keepW hst z0 z1 zf hS1
  generalize hx_ : World.setCell (World.setCell w8 _ _) _ _ = w9 at hO9 hC9 hr9 ⊢
  have hs9 : w8.heap.size ≤ w9.heap.size := by rw [← hx_]; simp [World.setCell]
  clear hx_
  have r0 := hO9.c 0 0
  have r1 := hO9.c 0 1
  have hb := hO9.below
  repeat' ((fail_if_success at_builtin); (first | go_skip | go_guarded | go_step))
  refine bodyPost_ret (v := .agg #[.int .i64 (k : Int), .slice (some ⟨g8, 0, none⟩) 1 1]) (by simp only [results, Tryd.results55]; go_simp; first | done | exact ⟨rfl, rfl, rfl⟩ | rfl) rfl ?_
  exact ⟨some ⟨g8, 0, none⟩, 1, 1, rfl, rv_mk hC9 (.inr ⟨hg9, by omega⟩) (hr9.imp (fun b h => h.imp id (fun h => ⟨h.1, by omega⟩))), hb⟩
end Go.Proofs.YtgcpffbaejodiaaDoor
