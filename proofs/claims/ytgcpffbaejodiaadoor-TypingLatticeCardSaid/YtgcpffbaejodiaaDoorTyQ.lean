/- Typing: find. -/
import Derived.Test.YtgcpffbaejodiaaDoorTyO
namespace Go.Proofs.YtgcpffbaejodiaaDoor
open Go.RowKit
theorem vl_open {g : Nat} {v : Vl} {w : World} {S : Nat → Prop} {k i : Int} {b : Bool} {s : ByteArray} {A A2 : Option Addr} {n c n2 c2 : Nat} (h : RVl g w S v [.int .i64 k, .bool b, .int .i64 i, .string s, .slice A n c, .slice A2 n2 c2]) :
  ∃ j l ks, g = j + 1 ∧ v = .mk k b i s l ks ∧ n = l.length ∧ n2 = ks.length ∧ RSlice (RVl j) 6 w S A n c l ∧ SeqP w S 1 A2 n2 (ks.map Value.string) ∧ n ≤ 9223372036854775807 := by
 cases g with
 | zero => exact h.elim
 | succ j =>
  obtain ⟨k', b', i', s', l, ks⟩ := v
  obtain ⟨A', c', A2', c2', h1, h2, h3, h4⟩ := h
  injection h1 with e1 h1
  injection h1 with e2 h1
  injection h1 with e3 h1
  injection h1 with e4 h1
  injection h1 with e5 h1
  injection h1 with e6 h1
  injection e1 with _ e1
  injection e2 with e2
  injection e3 with _ e3
  injection e4 with e4
  injection e5 with e5 e7 e8
  injection e6 with e6 e9 e10
  subst e5 e8 e6 e10
  have e1 : k = k' := e1
  have e2 : b = b' := e2
  have e3 : i = i' := e3
  have e4 : s = s' := e4
  subst e1 e2 e3 e4
  have e7 : n = l.length := e7
  have e9 : n2 = ks.length := e9
  subst e7 e9
  exact ⟨j, l, ks, rfl, rfl, rfl, rfl, h2, h3, h4⟩
theorem vl_form {g : Nat} {v : Vl} {w : World} {S : Nat → Prop} {cs : List Value} (h : RVl g w S v cs) : ∃ k b i s A n c A2 n2 c2, cs = [.int .i64 k, .bool b, .int .i64 i, .string s, .slice A n c, .slice A2 n2 c2] := by
 cases g with
 | zero => exact h.elim
 | succ j =>
  obtain ⟨A', c', A2', c2', h1, _⟩ := h
  exact ⟨_, _, _, _, _, _, _, _, _, _, h1⟩
theorem RVl.at_ {g : Nat} {v : Vl} {w w' : World} {cs : List Value} (h : RVl g w (fun b => b < w.heap.size) v cs) (hb : Below w.heap.size w w') : RVl g w' (fun b => b < w'.heap.size) v cs :=
 RVl_ok g _ _ _ _ _ _ (fun _ hp => hb.cell hp) (fun _ hp => Nat.lt_of_lt_of_le hp hb.size) h
theorem findV_mk (f : Nat) (k : Int) (b : Bool) (i : Int) (s : ByteArray) (l : List Vl) (ks : List ByteArray) : findV (f + 1) (.mk k b i s l ks) = if k = 0 then .base 1 else if k = 1 then .base 2 else if k = 2 then .base 3 else if k = 3 then .base 4
  else .of (if k = 4 then 5 else 6) ((l.map (findV f)).foldl VT.join (.base 7)) := rfl
theorem chkV_own {f : Nat} {v : Vl} (h : chkV (f + 1) v = 0) : ownV (f + 1) v = 0 ∧ ∀ x ∈ v.list, chkV f x = 0 := by
 unfold chkV at h
 split at h
 ·
  rename_i hn; exact absurd h hn
 ·
  rename_i hn
  exact ⟨by simpa using hn, fun x hx => firstE_zero h _ (List.mem_map.2 ⟨x, hx, rfl⟩)⟩
theorem own_facts {f : Nat} {v : Vl} (h : ownV (f + 1) v = 0) : 0 ≤ v.kind ∧ v.kind ≤ 5 ∧ v.list.length ≤ 1024 := by
 unfold ownV at h
 rw [if_neg (by omega)] at h
 split at h
 ·
  cases h
 ·
  rename_i h1
  split at h
  ·
   cases h
  ·
   split at h
   ·
    cases h
   ·
    rename_i h2
    omega
/-- the join of the first types -/
def accV (f : Nat) (l : List Vl) (i : Nat) : VT := ((l.take i).map (findV f)).foldl VT.join (.base 7)
theorem accV_zero (f : Nat) (l : List Vl) : accV f l 0 = .base 7 := rfl
theorem accV_succ (f : Nat) {l : List Vl} {i : Nat} {x : Vl} (h : l[i]? = some x) : accV f l (i + 1) = VT.join (accV f l i) (findV f x) := by
 unfold accV
 rw [List.take_add_one, h]
 simp
theorem accV_all (f : Nat) (l : List Vl) : accV f l l.length = (l.map (findV f)).foldl VT.join (.base 7) := by unfold accV; rw [List.take_length]
theorem accV_ok (f : Nat) (l : List Vl) (i : Nat) : (accV f l i).Ok := fold_ok (fun v hv => by
 obtain ⟨y, _, rfl⟩ := List.mem_map.1 hv
 exact findV_ok f y) never_ok
theorem RV.set2 {S : Nat → Prop} {v : VT} {w : World} {cs : List Value} {g : Nat} (u x : Value) (hne : ∀ b, S b → b ≠ g) (h : RV w S v cs) : RV ((w.setCell ⟨g, 0, none⟩ u).setCell ⟨g, 1, none⟩ x) S v cs := h.map (fun p hp => by
 have := hne _ hp
 rw [World.cell?_setCell_other _ _ _ _ (fun e => this (by rw [← e])), World.cell?_setCell_other _ _ _ _ (fun e => this (by rw [← e]))]) fun _ h => h
theorem retT_eq' {w w' : World} {S : Nat → Prop} {v v' : VT} {e : Ending} (h : v = v') (k : RetT w S v' e w') : RetT w S v e w' := h ▸ k
set_option maxRecDepth 100000 in
set_option maxHeartbeats 6000000 in
theorem find_any (f : Nat) : ∀ (g : Nat) (v : Vl) (k : Int) (b : Bool) (i : Int) (s : ByteArray) (A : Option Addr) (n c : Nat) (A2 : Option Addr) (n2 c2 : Nat) (w : World), chkV f v = 0 → RVl g w (fun b => b < w.heap.size) v [.int .i64 k, .bool b, .int .i64 i, .string s, .slice A n c, .slice A2 n2 c2] →
  Calls Tryd.prog 36 #[.agg #[.int .i64 k, .bool b, .int .i64 i, .string s, .slice A n c, .slice A2 n2 c2]] w fun e w' => RetT w (fun _ => False) (findV f v) e w' := by
 induction f with
 | zero => intro g v k b i s A n c A2 n2 c2 w h; cases h
 | succ f ih =>
  intro g v k b i s A n c A2 n2 c2 w hck h
  obtain ⟨gj, l, ks, rfl, rfl, hn, hn2, hs, hs2, hl2⟩ := vl_open h
  clear hn2 hs2 hl2
  obtain ⟨hown, hel⟩ := chkV_own hck
  obtain ⟨_, _, hlen⟩ := own_facts hown
  have hlen : l.length ≤ 1024 := hlen
  have hel : ∀ x ∈ l, chkV f x = 0 := hel
  rw [findV_mk]
  clear h hck hown
  replace ih := Lib.hid ih
  by_cases hk0 : k = 0
  ·
   subst hk0
   have hv : (if (0 : Int) = 0 then VT.base 1 else if (0 : Int) = 1 then .base 2 else if (0 : Int) = 2 then .base 3 else if (0 : Int) = 3 then .base 4 else .of (if (0 : Int) = 4 then 5 else 6) ((l.map (findV f)).foldl VT.join (.base 7)) : VT) = .base 1 := by simp
   replace hv := Lib.hid hv
   clear hs hel hlen hn ih
   go_enter Tryd.func36, Tryd.ntmps36
   go_upto_region 1 with (fail)
   generalize hx_ : World.alloc (World.alloc w _) _ = wo1
   have hO1 : OwnB w wo1 [(w.heap.size + 1, [.int .i64 0, .slice none 0 0]), (w.heap.size, [.int .i64 0, .bool b, .int .i64 i, .string s, .slice A n c, .slice A2 n2 c2])] := by rw [← hx_]; exact ((OwnB.refl w).new #[.int .i64 0, .bool b, .int .i64 i, .string s, .slice A n c, .slice A2 n2 c2] _ (g := w.heap.size)).new #[.int .i64 0, .slice none 0 0] _ (g := w.heap.size + 1)
   clear hx_
   have c0_0 := hO1.c 0 0
   have c0_1 := hO1.c 0 1
   have cf0 := hO1.fr 0
   have c1_0 := hO1.c 1 0
   have c1_1 := hO1.c 1 1
   have c1_2 := hO1.c 1 2
   have c1_3 := hO1.c 1 3
   have c1_4 := hO1.c 1 4
   have c1_5 := hO1.c 1 5
   have cf1 := hO1.fr 1
   repeat' ((fail_if_success at_builtin); (first | go_skip | go_guarded | go_step))
   refine (scalar_any (1 : Int) _).mono ?_
   rintro e w3 ⟨rfl, hb3⟩
   dsimp only
   have hO2 : OwnB w w3 [(w.heap.size + 1, [.int .i64 0, .slice none 0 0]), (w.heap.size, [.int .i64 0, .bool b, .int .i64 i, .string s, .slice A n c, .slice A2 n2 c2])] := hO1.kept hb3
   clear c0_0 c0_1 cf0 c1_0 c1_1 c1_2 c1_3 c1_4 c1_5 cf1 hO1
   have c0_0 := hO2.c 0 0
   have c0_1 := hO2.c 0 1
   have cf0 := hO2.fr 0
   have c1_0 := hO2.c 1 0
   have c1_1 := hO2.c 1 1
   have c1_2 := hO2.c 1 2
   have c1_3 := hO2.c 1 3
   have c1_4 := hO2.c 1 4
   have c1_5 := hO2.c 1 5
   have cf1 := hO2.fr 1
   repeat' ((fail_if_success at_builtin); (first | go_skip | go_guarded | go_step))
   generalize hx_ : World.setCell (World.setCell _ _ _) _ _ = wo3
   have hO3 : OwnB w wo3 [(w.heap.size + 1, [.int .i64 1, .slice none 0 0]), (w.heap.size, [.int .i64 0, .bool b, .int .i64 i, .string s, .slice A n c, .slice A2 n2 c2])] := by rw [← hx_]; exact (hO2.store 0 rfl 0 _).store 0 rfl 1 _
   clear hx_ c0_0 c0_1 cf0 c1_0 c1_1 c1_2 c1_3 c1_4 c1_5 cf1 hO2
   have c0_0 := hO3.c 0 0
   have c0_1 := hO3.c 0 1
   have cf0 := hO3.fr 0
   have c1_0 := hO3.c 1 0
   have c1_1 := hO3.c 1 1
   have c1_2 := hO3.c 1 2
   have c1_3 := hO3.c 1 3
   have c1_4 := hO3.c 1 4
   have c1_5 := hO3.c 1 5
   have cf1 := hO3.fr 1
   have hb := hO3.below
   refine bodyPost_ret (v := .agg #[.int .i64 1, .slice none 0 0]) (by simp only [results, Tryd.results36]; go_simp; first | done | exact ⟨rfl, rfl, rfl⟩ | rfl) rfl ?_
   exact retT_eq hv.out ⟨none, 0, 0, rfl, rv_scalar _ _ 1, hb⟩
  by_cases hk1 : k = 1
  ·
   subst hk1
   have hv : (if (1 : Int) = 0 then VT.base 1 else if (1 : Int) = 1 then .base 2 else if (1 : Int) = 2 then .base 3 else if (1 : Int) = 3 then .base 4 else .of (if (1 : Int) = 4 then 5 else 6) ((l.map (findV f)).foldl VT.join (.base 7)) : VT) = .base 2 := by simp
   replace hv := Lib.hid hv
   clear hs hel hlen hn ih
   go_enter Tryd.func36, Tryd.ntmps36
   go_upto_region 1 with (fail)
   generalize hx_ : World.alloc (World.alloc w _) _ = wo1
   have hO1 : OwnB w wo1 [(w.heap.size + 1, [.int .i64 0, .slice none 0 0]), (w.heap.size, [.int .i64 1, .bool b, .int .i64 i, .string s, .slice A n c, .slice A2 n2 c2])] := by rw [← hx_]; exact ((OwnB.refl w).new #[.int .i64 1, .bool b, .int .i64 i, .string s, .slice A n c, .slice A2 n2 c2] _ (g := w.heap.size)).new #[.int .i64 0, .slice none 0 0] _ (g := w.heap.size + 1)
   clear hx_
   have c0_0 := hO1.c 0 0
   have c0_1 := hO1.c 0 1
   have cf0 := hO1.fr 0
   have c1_0 := hO1.c 1 0
   have c1_1 := hO1.c 1 1
   have c1_2 := hO1.c 1 2
   have c1_3 := hO1.c 1 3
   have c1_4 := hO1.c 1 4
   have c1_5 := hO1.c 1 5
   have cf1 := hO1.fr 1
   repeat' ((fail_if_success at_builtin); (first | go_skip | go_guarded | go_step))
   refine (scalar_any (2 : Int) _).mono ?_
   rintro e w3 ⟨rfl, hb3⟩
   dsimp only
   have hO2 : OwnB w w3 [(w.heap.size + 1, [.int .i64 0, .slice none 0 0]), (w.heap.size, [.int .i64 1, .bool b, .int .i64 i, .string s, .slice A n c, .slice A2 n2 c2])] := hO1.kept hb3
   clear c0_0 c0_1 cf0 c1_0 c1_1 c1_2 c1_3 c1_4 c1_5 cf1 hO1
   have c0_0 := hO2.c 0 0
   have c0_1 := hO2.c 0 1
   have cf0 := hO2.fr 0
   have c1_0 := hO2.c 1 0
   have c1_1 := hO2.c 1 1
   have c1_2 := hO2.c 1 2
   have c1_3 := hO2.c 1 3
   have c1_4 := hO2.c 1 4
   have c1_5 := hO2.c 1 5
   have cf1 := hO2.fr 1
   repeat' ((fail_if_success at_builtin); (first | go_skip | go_guarded | go_step))
   generalize hx_ : World.setCell (World.setCell _ _ _) _ _ = wo3
   have hO3 : OwnB w wo3 [(w.heap.size + 1, [.int .i64 2, .slice none 0 0]), (w.heap.size, [.int .i64 1, .bool b, .int .i64 i, .string s, .slice A n c, .slice A2 n2 c2])] := by rw [← hx_]; exact (hO2.store 0 rfl 0 _).store 0 rfl 1 _
   clear hx_ c0_0 c0_1 cf0 c1_0 c1_1 c1_2 c1_3 c1_4 c1_5 cf1 hO2
   have c0_0 := hO3.c 0 0
   have c0_1 := hO3.c 0 1
   have cf0 := hO3.fr 0
   have c1_0 := hO3.c 1 0
   have c1_1 := hO3.c 1 1
   have c1_2 := hO3.c 1 2
   have c1_3 := hO3.c 1 3
   have c1_4 := hO3.c 1 4
   have c1_5 := hO3.c 1 5
   have cf1 := hO3.fr 1
   have hb := hO3.below
   refine bodyPost_ret (v := .agg #[.int .i64 2, .slice none 0 0]) (by simp only [results, Tryd.results36]; go_simp; first | done | exact ⟨rfl, rfl, rfl⟩ | rfl) rfl ?_
   exact retT_eq hv.out ⟨none, 0, 0, rfl, rv_scalar _ _ 2, hb⟩
  by_cases hk2 : k = 2
  ·
   subst hk2
   have hv : (if (2 : Int) = 0 then VT.base 1 else if (2 : Int) = 1 then .base 2 else if (2 : Int) = 2 then .base 3 else if (2 : Int) = 3 then .base 4 else .of (if (2 : Int) = 4 then 5 else 6) ((l.map (findV f)).foldl VT.join (.base 7)) : VT) = .base 3 := by simp
   replace hv := Lib.hid hv
   clear hs hel hlen hn ih
   go_enter Tryd.func36, Tryd.ntmps36
   go_upto_region 1 with (fail)
   generalize hx_ : World.alloc (World.alloc w _) _ = wo1
   have hO1 : OwnB w wo1 [(w.heap.size + 1, [.int .i64 0, .slice none 0 0]), (w.heap.size, [.int .i64 2, .bool b, .int .i64 i, .string s, .slice A n c, .slice A2 n2 c2])] := by rw [← hx_]; exact ((OwnB.refl w).new #[.int .i64 2, .bool b, .int .i64 i, .string s, .slice A n c, .slice A2 n2 c2] _ (g := w.heap.size)).new #[.int .i64 0, .slice none 0 0] _ (g := w.heap.size + 1)
   clear hx_
   have c0_0 := hO1.c 0 0
   have c0_1 := hO1.c 0 1
   have cf0 := hO1.fr 0
   have c1_0 := hO1.c 1 0
   have c1_1 := hO1.c 1 1
   have c1_2 := hO1.c 1 2
   have c1_3 := hO1.c 1 3
   have c1_4 := hO1.c 1 4
   have c1_5 := hO1.c 1 5
   have cf1 := hO1.fr 1
   repeat' ((fail_if_success at_builtin); (first | go_skip | go_guarded | go_step))
   refine (scalar_any (3 : Int) _).mono ?_
   rintro e w3 ⟨rfl, hb3⟩
   dsimp only
   have hO2 : OwnB w w3 [(w.heap.size + 1, [.int .i64 0, .slice none 0 0]), (w.heap.size, [.int .i64 2, .bool b, .int .i64 i, .string s, .slice A n c, .slice A2 n2 c2])] := hO1.kept hb3
   clear c0_0 c0_1 cf0 c1_0 c1_1 c1_2 c1_3 c1_4 c1_5 cf1 hO1
   have c0_0 := hO2.c 0 0
   have c0_1 := hO2.c 0 1
   have cf0 := hO2.fr 0
   have c1_0 := hO2.c 1 0
   have c1_1 := hO2.c 1 1
   have c1_2 := hO2.c 1 2
   have c1_3 := hO2.c 1 3
   have c1_4 := hO2.c 1 4
   have c1_5 := hO2.c 1 5
   have cf1 := hO2.fr 1
   repeat' ((fail_if_success at_builtin); (first | go_skip | go_guarded | go_step))
   generalize hx_ : World.setCell (World.setCell _ _ _) _ _ = wo3
   have hO3 : OwnB w wo3 [(w.heap.size + 1, [.int .i64 3, .slice none 0 0]), (w.heap.size, [.int .i64 2, .bool b, .int .i64 i, .string s, .slice A n c, .slice A2 n2 c2])] := by rw [← hx_]; exact (hO2.store 0 rfl 0 _).store 0 rfl 1 _
   clear hx_ c0_0 c0_1 cf0 c1_0 c1_1 c1_2 c1_3 c1_4 c1_5 cf1 hO2
   have c0_0 := hO3.c 0 0
   have c0_1 := hO3.c 0 1
   have cf0 := hO3.fr 0
   have c1_0 := hO3.c 1 0
   have c1_1 := hO3.c 1 1
   have c1_2 := hO3.c 1 2
   have c1_3 := hO3.c 1 3
   have c1_4 := hO3.c 1 4
   have c1_5 := hO3.c 1 5
   have cf1 := hO3.fr 1
   have hb := hO3.below
   refine bodyPost_ret (v := .agg #[.int .i64 3, .slice none 0 0]) (by simp only [results, Tryd.results36]; go_simp; first | done | exact ⟨rfl, rfl, rfl⟩ | rfl) rfl ?_
   exact retT_eq hv.out ⟨none, 0, 0, rfl, rv_scalar _ _ 3, hb⟩
  by_cases hk3 : k = 3
  ·
   subst hk3
   have hv : (if (3 : Int) = 0 then VT.base 1 else if (3 : Int) = 1 then .base 2 else if (3 : Int) = 2 then .base 3 else if (3 : Int) = 3 then .base 4 else .of (if (3 : Int) = 4 then 5 else 6) ((l.map (findV f)).foldl VT.join (.base 7)) : VT) = .base 4 := by simp
   replace hv := Lib.hid hv
   clear hs hel hlen hn ih
   go_enter Tryd.func36, Tryd.ntmps36
   go_upto_region 1 with (fail)
   generalize hx_ : World.alloc (World.alloc w _) _ = wo1
   have hO1 : OwnB w wo1 [(w.heap.size + 1, [.int .i64 0, .slice none 0 0]), (w.heap.size, [.int .i64 3, .bool b, .int .i64 i, .string s, .slice A n c, .slice A2 n2 c2])] := by rw [← hx_]; exact ((OwnB.refl w).new #[.int .i64 3, .bool b, .int .i64 i, .string s, .slice A n c, .slice A2 n2 c2] _ (g := w.heap.size)).new #[.int .i64 0, .slice none 0 0] _ (g := w.heap.size + 1)
   clear hx_
   have c0_0 := hO1.c 0 0
   have c0_1 := hO1.c 0 1
   have cf0 := hO1.fr 0
   have c1_0 := hO1.c 1 0
   have c1_1 := hO1.c 1 1
   have c1_2 := hO1.c 1 2
   have c1_3 := hO1.c 1 3
   have c1_4 := hO1.c 1 4
   have c1_5 := hO1.c 1 5
   have cf1 := hO1.fr 1
   repeat' ((fail_if_success at_builtin); (first | go_skip | go_guarded | go_step))
   refine (scalar_any (4 : Int) _).mono ?_
   rintro e w3 ⟨rfl, hb3⟩
   dsimp only
   have hO2 : OwnB w w3 [(w.heap.size + 1, [.int .i64 0, .slice none 0 0]), (w.heap.size, [.int .i64 3, .bool b, .int .i64 i, .string s, .slice A n c, .slice A2 n2 c2])] := hO1.kept hb3
   clear c0_0 c0_1 cf0 c1_0 c1_1 c1_2 c1_3 c1_4 c1_5 cf1 hO1
   have c0_0 := hO2.c 0 0
   have c0_1 := hO2.c 0 1
   have cf0 := hO2.fr 0
   have c1_0 := hO2.c 1 0
   have c1_1 := hO2.c 1 1
   have c1_2 := hO2.c 1 2
   have c1_3 := hO2.c 1 3
   have c1_4 := hO2.c 1 4
   have c1_5 := hO2.c 1 5
   have cf1 := hO2.fr 1
   repeat' ((fail_if_success at_builtin); (first | go_skip | go_guarded | go_step))
   generalize hx_ : World.setCell (World.setCell _ _ _) _ _ = wo3
   have hO3 : OwnB w wo3 [(w.heap.size + 1, [.int .i64 4, .slice none 0 0]), (w.heap.size, [.int .i64 3, .bool b, .int .i64 i, .string s, .slice A n c, .slice A2 n2 c2])] := by rw [← hx_]; exact (hO2.store 0 rfl 0 _).store 0 rfl 1 _
   clear hx_ c0_0 c0_1 cf0 c1_0 c1_1 c1_2 c1_3 c1_4 c1_5 cf1 hO2
   have c0_0 := hO3.c 0 0
   have c0_1 := hO3.c 0 1
   have cf0 := hO3.fr 0
   have c1_0 := hO3.c 1 0
   have c1_1 := hO3.c 1 1
   have c1_2 := hO3.c 1 2
   have c1_3 := hO3.c 1 3
   have c1_4 := hO3.c 1 4
   have c1_5 := hO3.c 1 5
   have cf1 := hO3.fr 1
   have hb := hO3.below
   refine bodyPost_ret (v := .agg #[.int .i64 4, .slice none 0 0]) (by simp only [results, Tryd.results36]; go_simp; first | done | exact ⟨rfl, rfl, rfl⟩ | rfl) rfl ?_
   exact retT_eq hv.out ⟨none, 0, 0, rfl, rv_scalar _ _ 4, hb⟩
  have hv : (if k = 0 then VT.base 1 else if k = 1 then .base 2 else if k = 2 then .base 3 else if k = 3 then .base 4 else .of (if k = 4 then 5 else 6) ((l.map (findV f)).foldl VT.join (.base 7))) = .of (if k = 4 then 5 else 6) (accV f l l.length) := by rw [if_neg hk0, if_neg hk1, if_neg hk2, if_neg hk3, accV_all]
  replace hv := Lib.hid hv
  have g0 : (k == 0) = false := by simpa using hk0
  have g1 : (k == 1) = false := by simpa using hk1
  have g2 : (k == 2) = false := by simpa using hk2
  have g3 : (k == 3) = false := by simpa using hk3
  clear hk0 hk1 hk2 hk3
  replace hn := Lib.hid hn
  replace hs := Lib.hid hs
  replace hel := Lib.hid hel
  have hnl : n ≤ 1024 := by rw [hn.out]; exact hlen
  clear hlen
  go_enter Tryd.func36, Tryd.ntmps36
  go_upto_region 1 with (fail)
  generalize hx_ : World.alloc (World.alloc w _) _ = wo1
  have hO1 : OwnB w wo1 [(w.heap.size + 1, [.int .i64 0, .slice none 0 0]), (w.heap.size, [.int .i64 k, .bool b, .int .i64 i, .string s, .slice A n c, .slice A2 n2 c2])] := by rw [← hx_]; exact ((OwnB.refl w).new #[.int .i64 k, .bool b, .int .i64 i, .string s, .slice A n c, .slice A2 n2 c2] _ (g := w.heap.size)).new #[.int .i64 0, .slice none 0 0] _ (g := w.heap.size + 1)
  clear hx_
  have c0_0 := hO1.c 0 0
  have c0_1 := hO1.c 0 1
  have cf0 := hO1.fr 0
  have c1_0 := hO1.c 1 0
  have c1_1 := hO1.c 1 1
  have c1_2 := hO1.c 1 2
  have c1_3 := hO1.c 1 3
  have c1_4 := hO1.c 1 4
  have c1_5 := hO1.c 1 5
  have cf1 := hO1.fr 1
  repeat' ((fail_if_success at_builtin); (first | go_skip | go_guarded | go_step))
  refine (scalar_any (7 : Int) _).mono ?_
  rintro e w2 ⟨rfl, hb2⟩
  dsimp only
  have hO2 : OwnB w w2 [(w.heap.size + 1, [.int .i64 0, .slice none 0 0]), (w.heap.size, [.int .i64 k, .bool b, .int .i64 i, .string s, .slice A n c, .slice A2 n2 c2])] := hO1.kept hb2
  clear c0_0 c0_1 cf0 c1_0 c1_1 c1_2 c1_3 c1_4 c1_5 cf1 hO1
  have c0_0 := hO2.c 0 0
  have c0_1 := hO2.c 0 1
  have cf0 := hO2.fr 0
  have c1_0 := hO2.c 1 0
  have c1_1 := hO2.c 1 1
  have c1_2 := hO2.c 1 2
  have c1_3 := hO2.c 1 3
  have c1_4 := hO2.c 1 4
  have c1_5 := hO2.c 1 5
  have cf1 := hO2.fr 1
  have hbw := hO2.below
  have hge1 := hO2.lt 0
  have hm_ : ∀ ob, OwnB w (w2.alloc ob) [(w.heap.size + 1, [.int .i64 0, .slice none 0 0]), (w.heap.size, [.int .i64 k, .bool b, .int .i64 i, .string s, .slice A n c, .slice A2 n2 c2])] := fun ob => hO2.kept ((Below.refl _ _).alloc (Nat.le_refl _) _)
  clear hm_
  go_upto_region 11 with (fail)
  generalize hx_ : World.alloc w2 _ = w3
  have hO3 : OwnB w w3 [(w2.heap.size, [.int .i64 7, .slice none 0 0]), (w.heap.size + 1, [.int .i64 0, .slice none 0 0]), (w.heap.size, [.int .i64 k, .bool b, .int .i64 i, .string s, .slice A n c, .slice A2 n2 c2])] := by rw [← hx_]; exact hO2.new #[.int .i64 7, .slice none 0 0] _ (g := w2.heap.size)
  have hw3 : w2.heap.size < w3.heap.size := by rw [← hx_]; simp
  clear hx_ c0_0 c0_1 cf0 c1_0 c1_1 c1_2 c1_3 c1_4 c1_5 cf1 hO2
  have c0_0 := hO3.c 0 0
  have c0_1 := hO3.c 0 1
  have cf0 := hO3.fr 0
  have c1_0 := hO3.c 1 0
  have c1_1 := hO3.c 1 1
  have cf1 := hO3.fr 1
  have c2_0 := hO3.c 2 0
  have c2_1 := hO3.c 2 1
  have c2_2 := hO3.c 2 2
  have c2_3 := hO3.c 2 3
  have c2_4 := hO3.c 2 4
  have c2_5 := hO3.c 2 5
  have cf2 := hO3.fr 2
  repeat' ((fail_if_success at_builtin); (first | go_skip | go_guarded | go_step))
  go_loopw [24] (fun u24 wr => ∃ i' : Nat, i' ≤ n ∧ u24 = .int .i64 (i' : Int) ∧ ∃ A7 n7 c7, OwnB w wr [(w2.heap.size, [.int .i64 ((accV f l i').kind : Int), .slice A7 n7 c7]), (w.heap.size + 1, [.int .i64 0, .slice none 0 0]), (w.heap.size, [.int .i64 k, .bool b, .int .i64 i, .string s, .slice A n c, .slice A2 n2 c2])] ∧ w2.heap.size < wr.heap.size ∧ RV wr (fun b => w2.heap.size < b ∧ b < wr.heap.size) (accV f l i') [.int .i64 ((accV f l i').kind : Int), .slice A7 n7 c7]) (fun u24 _ => n - (intOf u24).toNat)
  case atStart => exact ⟨0, by omega, rfl, none, 0, 0, hO3, hw3, rv_scalar _ _ 7⟩
  case round =>
   clear c0_0 c0_1 cf0 c1_0 c1_1 cf1 c2_0 c2_1 c2_2 c2_3 c2_4 c2_5 cf2 hO3 hw3
   obtain ⟨i', hi, rfl, A7, n7, c7, hO4, hsz, hra⟩ := hrel
   have c0_0 := hO4.c 0 0
   have c0_1 := hO4.c 0 1
   have cf0 := hO4.fr 0
   have c1_0 := hO4.c 1 0
   have c1_1 := hO4.c 1 1
   have cf1 := hO4.fr 1
   have c2_0 := hO4.c 2 0
   have c2_1 := hO4.c 2 1
   have c2_2 := hO4.c 2 2
   have c2_3 := hO4.c 2 3
   have c2_4 := hO4.c 2 4
   have c2_5 := hO4.c 2 5
   have cf2 := hO4.fr 2
   have i1 : (0 : Int) ≤ (i' : Int) := by omega
   have i2 : IntKind.i64.wrap ((i' : Int) + 1) = ((i' + 1 : Nat) : Int) := by rw [IntWalk.i64_in _ (by omega)]; omega
   have hb4 := hO4.below
   by_cases hlt : i' < n
   ·
    have i3 : (i' : Int) < (n : Int) := by omega
    obtain ⟨x, hx⟩ : ∃ x, l[i']? = some x := ⟨_, List.getElem?_eq_getElem (by rw [← hn.out]; exact hlt)⟩
    have hcx := hel.out x (List.mem_of_getElem? hx)
    obtain ⟨bx, ox, cx, rfl, hbx, hlx, hrx, hcl⟩ := hs.out.at_ hx
    obtain ⟨xk, xb, xi, xs, XA, xn, xc, XB, xn2, xc2, rfl⟩ := vl_form hrx
    have y0 : wr.cell? ⟨bx, ox + i' * 6, none⟩ = some (.int .i64 xk) := (hb4.cell (p := ⟨bx, ox + i' * 6 + 0, none⟩) hbx).trans (hcl 0 _ rfl)
    have y1 : wr.cell? ⟨bx, ox + i' * 6 + 1, none⟩ = some (.bool xb) := (hb4.cell (p := ⟨bx, ox + i' * 6 + 1, none⟩) hbx).trans (hcl 1 _ rfl)
    have y2 : wr.cell? ⟨bx, ox + i' * 6 + 2, none⟩ = some (.int .i64 xi) := (hb4.cell (p := ⟨bx, ox + i' * 6 + 2, none⟩) hbx).trans (hcl 2 _ rfl)
    have y3 : wr.cell? ⟨bx, ox + i' * 6 + 3, none⟩ = some (.string xs) := (hb4.cell (p := ⟨bx, ox + i' * 6 + 3, none⟩) hbx).trans (hcl 3 _ rfl)
    have y4 : wr.cell? ⟨bx, ox + i' * 6 + 4, none⟩ = some (.slice XA xn xc) := (hb4.cell (p := ⟨bx, ox + i' * 6 + 4, none⟩) hbx).trans (hcl 4 _ rfl)
    have y5 : wr.cell? ⟨bx, ox + i' * 6 + 5, none⟩ = some (.slice XB xn2 xc2) := (hb4.cell (p := ⟨bx, ox + i' * 6 + 5, none⟩) hbx).trans (hcl 5 _ rfl)
    have hacc := accV_succ f hx
    replace hacc := Lib.hid hacc
    clear hcl hx
    go_upto_region 14 with (fail)
    clear y0 y1 y2 y3 y4 y5
    generalize hx_ : World.alloc wr _ = wo5
    have hO5 : OwnB w wo5 [(wr.heap.size, [.int .i64 xk, .bool xb, .int .i64 xi, .string xs, .slice XA xn xc, .slice XB xn2 xc2]), (w2.heap.size, [.int .i64 ((accV f l i').kind : Int), .slice A7 n7 c7]), (w.heap.size + 1, [.int .i64 0, .slice none 0 0]), (w.heap.size, [.int .i64 k, .bool b, .int .i64 i, .string s, .slice (some ⟨bx, ox, none⟩) n c, .slice A2 n2 c2])] := by rw [← hx_]; exact hO4.new #[.int .i64 xk, .bool xb, .int .i64 xi, .string xs, .slice XA xn xc, .slice XB xn2 xc2] _ (g := wr.heap.size)
    have hbr : Below wr.heap.size wr wo5 := by rw [← hx_]; exact (Below.refl _ _).alloc (Nat.le_refl _) _
    clear hx_ c0_0 c0_1 cf0 c1_0 c1_1 cf1 c2_0 c2_1 c2_2 c2_3 c2_4 c2_5 cf2 hO4
    have c0_0 := hO5.c 0 0
    have c0_1 := hO5.c 0 1
    have c0_2 := hO5.c 0 2
    have c0_3 := hO5.c 0 3
    have c0_4 := hO5.c 0 4
    have c0_5 := hO5.c 0 5
    have cf0 := hO5.fr 0
    have c1_0 := hO5.c 1 0
    have c1_1 := hO5.c 1 1
    have cf1 := hO5.fr 1
    have c2_0 := hO5.c 2 0
    have c2_1 := hO5.c 2 1
    have cf2 := hO5.fr 2
    have c3_0 := hO5.c 3 0
    have c3_1 := hO5.c 3 1
    have c3_2 := hO5.c 3 2
    have c3_3 := hO5.c 3 3
    have c3_4 := hO5.c 3 4
    have c3_5 := hO5.c 3 5
    have cf3 := hO5.fr 3
    have hO6 : OwnB w wo5.drew [(wr.heap.size, [.int .i64 xk, .bool xb, .int .i64 xi, .string xs, .slice XA xn xc, .slice XB xn2 xc2]), (w2.heap.size, [.int .i64 ((accV f l i').kind : Int), .slice A7 n7 c7]), (w.heap.size + 1, [.int .i64 0, .slice none 0 0]), (w.heap.size, [.int .i64 k, .bool b, .int .i64 i, .string s, .slice (some ⟨bx, ox, none⟩) n c, .slice A2 n2 c2])] := hO5.kept ((Below.refl _ _).drew)
    clear c0_0 c0_1 c0_2 c0_3 c0_4 c0_5 cf0 c1_0 c1_1 cf1 c2_0 c2_1 cf2 c3_0 c3_1 c3_2 c3_3 c3_4 c3_5 cf3 hO5
    have c0_0 := hO6.c 0 0
    have c0_1 := hO6.c 0 1
    have c0_2 := hO6.c 0 2
    have c0_3 := hO6.c 0 3
    have c0_4 := hO6.c 0 4
    have c0_5 := hO6.c 0 5
    have cf0 := hO6.fr 0
    have c1_0 := hO6.c 1 0
    have c1_1 := hO6.c 1 1
    have cf1 := hO6.fr 1
    have c2_0 := hO6.c 2 0
    have c2_1 := hO6.c 2 1
    have cf2 := hO6.fr 2
    have c3_0 := hO6.c 3 0
    have c3_1 := hO6.c 3 1
    have c3_2 := hO6.c 3 2
    have c3_3 := hO6.c 3 3
    have c3_4 := hO6.c 3 4
    have c3_5 := hO6.c 3 5
    have cf3 := hO6.fr 3
    have hb6 := hO6.below
    have hbr6 := hbr.drew
    have hl5 := hO6.lt 0
    have hrx6 := Lib.hid (RVl.at_ hrx hb6)
    have hra6 : Hid (RV wo5.drew (fun b => w2.heap.size < b ∧ b < wo5.drew.heap.size) (accV f l i') [.int .i64 ((accV f l i').kind : Int), .slice A7 n7 c7]) := Lib.hid ((RV.at_ hra (fun b h => h.2) hbr6).imp (fun b h => ⟨h.1, Nat.lt_of_lt_of_le h.2 hbr6.size⟩))
    clear hra hrx hbr
    refine wp_region_held_drew (S := fun _ => True) (by kernel_rfl) trivial (fun hHeld => ?_)
    refine wpAnyH_ready (rs := [0, 1]) (by kernel_rfl) (by simp) ?_
    refine AllReadyH.cons rfl (fun K hK => ?_) ?_
    ·
     go_simp
     refine hK.out _ _ trivial (fun hHeld => ?_)
     clear hK K
     try simp only [Act.put, List.getElem_toArray, List.getElem_cons_zero, List.getElem_cons_succ, List.setIfInBounds_toArray, List.set_cons_zero, List.set_cons_succ]
     refine wpAnyH_ready (rs := [1]) (by kernel_rfl) (by simp) ?_
     refine AllReadyH.cons rfl (fun K hK => ?_) ?_
     ·
      go_simp
      refine hK.out _ _ trivial (fun hHeld => ?_)
      clear hK K
      try simp only [Act.put, List.getElem_toArray, List.getElem_cons_zero, List.getElem_cons_succ, List.setIfInBounds_toArray, List.set_cons_zero, List.set_cons_succ]
      refine wpAnyH_ready (rs := [2]) (by kernel_rfl) (by simp) ?_
      refine AllReadyH.cons rfl (fun K hK => ?_) ?_
      ·
       go_simp
       go_at_call 36
       refine (ih.out gj x xk xb xi xs XA xn xc XB xn2 xc2 _ hcx hrx6.out).mono ?_
       rintro e7 w7 ⟨A9, n9, c9, rfl, hr9, hb9⟩
       dsimp only
       have hO7 := hO6.kept hb9
       have q0 := hO7.c 1 0
       have q1 := hO7.c 1 1
       refine hK.out _ _ trivial (fun hHeld => ?_)
       clear hK K
       try simp only [Act.put, List.getElem_toArray, List.getElem_cons_zero, List.getElem_cons_succ, List.setIfInBounds_toArray, List.set_cons_zero, List.set_cons_succ]
       refine wpAnyH_ready (rs := [3]) (by kernel_rfl) (by simp) ?_
       refine AllReadyH.cons rfl (fun K hK => ?_) ?_
       ·
        go_simp
        go_at_call 43
        refine (join_any (accV f l i') (findV f x) _ A7 n7 c7 _ A9 n9 c9 _ (fun b => w2.heap.size < b ∧ b < w7.heap.size) (accV_ok f l i') (findV_ok f x) (fun b h => h.2) ((RV.at_ hra6.out (fun b h => h.2) hb9).imp (fun b h => ⟨h.1, Nat.lt_of_lt_of_le h.2 hb9.size⟩)) (hr9.imp (fun b h => h.elim False.elim (fun h => ⟨by omega, h.2⟩)))).mono ?_
        rintro e8 w8 ⟨A8, n8, c8, rfl, hr8, hb8⟩
        dsimp only
        have hO8 := hO7.kept hb8
        have z0 := hO8.c 1 0
        have z1 := hO8.c 1 1
        have zf := hO8.fr 1
        have hs78 := hb8.size
        have hs67 := hb9.size
        refine hK.out _ _ trivial (fun hHeld => ?_)
        clear hK K
        try simp only [Act.put, List.getElem_toArray, List.getElem_cons_zero, List.getElem_cons_succ, List.setIfInBounds_toArray, List.set_cons_zero, List.set_cons_succ]
        refine wpAnyH_ready (rs := [4]) (by kernel_rfl) (by simp) ?_
        refine AllReadyH.cons rfl (fun K hK => ?_) ?_
        ·
         go_simp
         refine hK.out _ _ trivial (fun hHeld => ?_)
         clear hK K
         try simp only [Act.put, List.getElem_toArray, List.getElem_cons_zero, List.getElem_cons_succ, List.setIfInBounds_toArray, List.set_cons_zero, List.set_cons_succ]
         refine wpAnyH_done (by kernel_rfl) ?_ _
         have hO9 := ((hO8.store 1 rfl 0 (.int .i64 ((VT.join (accV f l i') (findV f x)).kind : Int))).store 1 rfl 1 (.slice A8 n8 c8)).drop1
         have hr7 := RV.set2 (g := w2.heap.size) (.int .i64 ((VT.join (accV f l i') (findV f x)).kind : Int)) (.slice A8 n8 c8) (S := fun b => w2.heap.size < b ∧ b < w8.heap.size) (fun b h => by have := h.1; omega) (hr8.imp (fun b h => h.elim (fun h => ⟨h.1, by omega⟩) (fun h => ⟨by omega, h.2⟩)))
         generalize hx_ : World.setCell (World.setCell w8 _ _) _ _ = w9 at hO9 hr7 ⊢
         have hs9 : w9.heap.size = w8.heap.size := by rw [← hx_]; simp [World.setCell]
         clear hx_ z0 z1 zf hHeld
         rw [← hacc.out] at hO9 hr7
         repeat' ((fail_if_success at_builtin); (first | go_skip | go_guarded | go_step))
         go_roundw
         case rel => exact ⟨i' + 1, by omega, by first | rfl | go_num, A8, n8, c8, hO9, by omega, hr7.imp (fun b h => ⟨h.1, by omega⟩)⟩
         case measure => (try go_num); (try simp [intOf]); (try omega)
        exact AllReadyH.nil
       exact AllReadyH.nil
      exact AllReadyH.nil
     exact AllReadyH.nil
    refine AllReadyH.cons rfl (fun K hK => ?_) ?_
    ·
     go_simp
     refine hK.out _ _ trivial (fun hHeld => ?_)
     clear hK K
     try simp only [Act.put, List.getElem_toArray, List.getElem_cons_zero, List.getElem_cons_succ, List.setIfInBounds_toArray, List.set_cons_zero, List.set_cons_succ]
     refine wpAnyH_ready (rs := [0, 2]) (by kernel_rfl) (by simp) ?_
     refine AllReadyH.cons rfl (fun K hK => ?_) ?_
     ·
      go_simp
      refine hK.out _ _ trivial (fun hHeld => ?_)
      clear hK K
      try simp only [Act.put, List.getElem_toArray, List.getElem_cons_zero, List.getElem_cons_succ, List.setIfInBounds_toArray, List.set_cons_zero, List.set_cons_succ]
      refine wpAnyH_ready (rs := [2]) (by kernel_rfl) (by simp) ?_
      refine AllReadyH.cons rfl (fun K hK => ?_) ?_
      ·
       go_simp
       go_at_call 36
       refine (ih.out gj x xk xb xi xs XA xn xc XB xn2 xc2 _ hcx hrx6.out).mono ?_
       rintro e7 w7 ⟨A9, n9, c9, rfl, hr9, hb9⟩
       dsimp only
       have hO7 := hO6.kept hb9
       have q0 := hO7.c 1 0
       have q1 := hO7.c 1 1
       refine hK.out _ _ trivial (fun hHeld => ?_)
       clear hK K
       try simp only [Act.put, List.getElem_toArray, List.getElem_cons_zero, List.getElem_cons_succ, List.setIfInBounds_toArray, List.set_cons_zero, List.set_cons_succ]
       refine wpAnyH_ready (rs := [3]) (by kernel_rfl) (by simp) ?_
       refine AllReadyH.cons rfl (fun K hK => ?_) ?_
       ·
        go_simp
        go_at_call 43
        refine (join_any (accV f l i') (findV f x) _ A7 n7 c7 _ A9 n9 c9 _ (fun b => w2.heap.size < b ∧ b < w7.heap.size) (accV_ok f l i') (findV_ok f x) (fun b h => h.2) ((RV.at_ hra6.out (fun b h => h.2) hb9).imp (fun b h => ⟨h.1, Nat.lt_of_lt_of_le h.2 hb9.size⟩)) (hr9.imp (fun b h => h.elim False.elim (fun h => ⟨by omega, h.2⟩)))).mono ?_
        rintro e8 w8 ⟨A8, n8, c8, rfl, hr8, hb8⟩
        dsimp only
        have hO8 := hO7.kept hb8
        have z0 := hO8.c 1 0
        have z1 := hO8.c 1 1
        have zf := hO8.fr 1
        have hs78 := hb8.size
        have hs67 := hb9.size
        refine hK.out _ _ trivial (fun hHeld => ?_)
        clear hK K
        try simp only [Act.put, List.getElem_toArray, List.getElem_cons_zero, List.getElem_cons_succ, List.setIfInBounds_toArray, List.set_cons_zero, List.set_cons_succ]
        refine wpAnyH_ready (rs := [4]) (by kernel_rfl) (by simp) ?_
        refine AllReadyH.cons rfl (fun K hK => ?_) ?_
        ·
         go_simp
         refine hK.out _ _ trivial (fun hHeld => ?_)
         clear hK K
         try simp only [Act.put, List.getElem_toArray, List.getElem_cons_zero, List.getElem_cons_succ, List.setIfInBounds_toArray, List.set_cons_zero, List.set_cons_succ]
         refine wpAnyH_done (by kernel_rfl) ?_ _
         have hO9 := ((hO8.store 1 rfl 0 (.int .i64 ((VT.join (accV f l i') (findV f x)).kind : Int))).store 1 rfl 1 (.slice A8 n8 c8)).drop1
         have hr7 := RV.set2 (g := w2.heap.size) (.int .i64 ((VT.join (accV f l i') (findV f x)).kind : Int)) (.slice A8 n8 c8) (S := fun b => w2.heap.size < b ∧ b < w8.heap.size) (fun b h => by have := h.1; omega) (hr8.imp (fun b h => h.elim (fun h => ⟨h.1, by omega⟩) (fun h => ⟨by omega, h.2⟩)))
         generalize hx_ : World.setCell (World.setCell w8 _ _) _ _ = w9 at hO9 hr7 ⊢
         have hs9 : w9.heap.size = w8.heap.size := by rw [← hx_]; simp [World.setCell]
         clear hx_ z0 z1 zf hHeld
         rw [← hacc.out] at hO9 hr7
         repeat' ((fail_if_success at_builtin); (first | go_skip | go_guarded | go_step))
         go_roundw
         case rel => exact ⟨i' + 1, by omega, by first | rfl | go_num, A8, n8, c8, hO9, by omega, hr7.imp (fun b h => ⟨h.1, by omega⟩)⟩
         case measure => (try go_num); (try simp [intOf]); (try omega)
        exact AllReadyH.nil
       exact AllReadyH.nil
      exact AllReadyH.nil
     refine AllReadyH.cons rfl (fun K hK => ?_) ?_
     ·
      go_simp
      go_at_call 36
      refine (ih.out gj x xk xb xi xs XA xn xc XB xn2 xc2 _ hcx hrx6.out).mono ?_
      rintro e7 w7 ⟨A9, n9, c9, rfl, hr9, hb9⟩
      dsimp only
      have hO7 := hO6.kept hb9
      have q0 := hO7.c 1 0
      have q1 := hO7.c 1 1
      refine hK.out _ _ trivial (fun hHeld => ?_)
      clear hK K
      try simp only [Act.put, List.getElem_toArray, List.getElem_cons_zero, List.getElem_cons_succ, List.setIfInBounds_toArray, List.set_cons_zero, List.set_cons_succ]
      refine wpAnyH_ready (rs := [0]) (by kernel_rfl) (by simp) ?_
      refine AllReadyH.cons rfl (fun K hK => ?_) ?_
      ·
       go_simp
       refine hK.out _ _ trivial (fun hHeld => ?_)
       clear hK K
       try simp only [Act.put, List.getElem_toArray, List.getElem_cons_zero, List.getElem_cons_succ, List.setIfInBounds_toArray, List.set_cons_zero, List.set_cons_succ]
       refine wpAnyH_ready (rs := [3]) (by kernel_rfl) (by simp) ?_
       refine AllReadyH.cons rfl (fun K hK => ?_) ?_
       ·
        go_simp
        go_at_call 43
        refine (join_any (accV f l i') (findV f x) _ A7 n7 c7 _ A9 n9 c9 _ (fun b => w2.heap.size < b ∧ b < w7.heap.size) (accV_ok f l i') (findV_ok f x) (fun b h => h.2) ((RV.at_ hra6.out (fun b h => h.2) hb9).imp (fun b h => ⟨h.1, Nat.lt_of_lt_of_le h.2 hb9.size⟩)) (hr9.imp (fun b h => h.elim False.elim (fun h => ⟨by omega, h.2⟩)))).mono ?_
        rintro e8 w8 ⟨A8, n8, c8, rfl, hr8, hb8⟩
        dsimp only
        have hO8 := hO7.kept hb8
        have z0 := hO8.c 1 0
        have z1 := hO8.c 1 1
        have zf := hO8.fr 1
        have hs78 := hb8.size
        have hs67 := hb9.size
        refine hK.out _ _ trivial (fun hHeld => ?_)
        clear hK K
        try simp only [Act.put, List.getElem_toArray, List.getElem_cons_zero, List.getElem_cons_succ, List.setIfInBounds_toArray, List.set_cons_zero, List.set_cons_succ]
        refine wpAnyH_ready (rs := [4]) (by kernel_rfl) (by simp) ?_
        refine AllReadyH.cons rfl (fun K hK => ?_) ?_
        ·
         go_simp
         refine hK.out _ _ trivial (fun hHeld => ?_)
         clear hK K
         try simp only [Act.put, List.getElem_toArray, List.getElem_cons_zero, List.getElem_cons_succ, List.setIfInBounds_toArray, List.set_cons_zero, List.set_cons_succ]
         refine wpAnyH_done (by kernel_rfl) ?_ _
         have hO9 := ((hO8.store 1 rfl 0 (.int .i64 ((VT.join (accV f l i') (findV f x)).kind : Int))).store 1 rfl 1 (.slice A8 n8 c8)).drop1
         have hr7 := RV.set2 (g := w2.heap.size) (.int .i64 ((VT.join (accV f l i') (findV f x)).kind : Int)) (.slice A8 n8 c8) (S := fun b => w2.heap.size < b ∧ b < w8.heap.size) (fun b h => by have := h.1; omega) (hr8.imp (fun b h => h.elim (fun h => ⟨h.1, by omega⟩) (fun h => ⟨by omega, h.2⟩)))
         generalize hx_ : World.setCell (World.setCell w8 _ _) _ _ = w9 at hO9 hr7 ⊢
         have hs9 : w9.heap.size = w8.heap.size := by rw [← hx_]; simp [World.setCell]
         clear hx_ z0 z1 zf hHeld
         rw [← hacc.out] at hO9 hr7
         repeat' ((fail_if_success at_builtin); (first | go_skip | go_guarded | go_step))
         go_roundw
         case rel => exact ⟨i' + 1, by omega, by first | rfl | go_num, A8, n8, c8, hO9, by omega, hr7.imp (fun b h => ⟨h.1, by omega⟩)⟩
         case measure => (try go_num); (try simp [intOf]); (try omega)
        exact AllReadyH.nil
       exact AllReadyH.nil
      exact AllReadyH.nil
     exact AllReadyH.nil
    exact AllReadyH.nil
   ·
    obtain rfl : i' = n := by omega
    have i3 : ¬ (i' : Int) < (i' : Int) := by omega
    have hra2 := hra
    clear hra
    replace hra2 := Lib.hid hra2
    clear hlt
    by_cases hk4 : k = 4
    ·
     subst hk4
     have hvv : Hid ((VT.of (if (4 : Int) = 4 then 5 else 6) (accV f l l.length)) = VT.of 5 (accV f l i')) := Lib.hid (by rw [if_pos rfl, ← hn.out])
     repeat' ((fail_if_success at_builtin); (first | go_skip | go_guarded | go_step))
     refine (of_any (5 : Int) ((accV f l i').kind : Int) A7 n7 c7 _).mono ?_
     rintro e8 w8 ⟨g8, rfl, hg8, hC8, hb8⟩
     dsimp only
     have hlt8 := hC8.lt
     have hw24 := hO4.lo 0
     have hlo1 := hO4.lt 1
     have hwr := hO4.below.size
     have hO5 : OwnB w w8 [(w2.heap.size, [.int .i64 ((accV f l i').kind : Int), .slice A7 n7 c7]), (w.heap.size + 1, [.int .i64 0, .slice none 0 0]), (w.heap.size, [.int .i64 4, .bool b, .int .i64 i, .string s, .slice A i' c, .slice A2 n2 c2])] := hO4.kept hb8
     clear c0_0 c0_1 cf0 c1_0 c1_1 cf1 c2_0 c2_1 c2_2 c2_3 c2_4 c2_5 cf2 hO4
     have c0_0 := hO5.c 0 0
     have c0_1 := hO5.c 0 1
     have cf0 := hO5.fr 0
     have c1_0 := hO5.c 1 0
     have c1_1 := hO5.c 1 1
     have cf1 := hO5.fr 1
     have c2_0 := hO5.c 2 0
     have c2_1 := hO5.c 2 1
     have c2_2 := hO5.c 2 2
     have c2_3 := hO5.c 2 3
     have c2_4 := hO5.c 2 4
     have c2_5 := hO5.c 2 5
     have cf2 := hO5.fr 2
     repeat' ((fail_if_success at_builtin); (first | go_skip | go_guarded | go_step))
     have hC9 := cells_back (b4 := w.heap.size + 1) (.int .i64 5) (.slice (some ⟨g8, 0, none⟩) 1 1) hC8 (by omega)
     have hr9 := RV.set2 (g := w.heap.size + 1) (.int .i64 5) (.slice (some ⟨g8, 0, none⟩) 1 1) (fun b h => by have := h.1; omega) (RV.at_ hra2.out (fun b h => h.2) hb8)
     have hs9 : ((w8.setCell ⟨w.heap.size + 1, 0, none⟩ (.int .i64 5)).setCell ⟨w.heap.size + 1, 1, none⟩ (.slice (some ⟨g8, 0, none⟩) 1 1)).heap.size = w8.heap.size := by simp [World.setCell]
     generalize hx_ : World.setCell (World.setCell _ _ _) _ _ = wo6 at hC9 hr9 hs9 ⊢
     have hO6 : OwnB w wo6 [(w2.heap.size, [.int .i64 ((accV f l i').kind : Int), .slice A7 n7 c7]), (w.heap.size + 1, [.int .i64 5, .slice (some ⟨g8, 0, none⟩) 1 1]), (w.heap.size, [.int .i64 4, .bool b, .int .i64 i, .string s, .slice A i' c, .slice A2 n2 c2])] := by rw [← hx_]; exact (hO5.store 1 rfl 0 _).store 1 rfl 1 _
     clear hx_ c0_0 c0_1 cf0 c1_0 c1_1 cf1 c2_0 c2_1 c2_2 c2_3 c2_4 c2_5 cf2 hO5
     have c0_0 := hO6.c 0 0
     have c0_1 := hO6.c 0 1
     have cf0 := hO6.fr 0
     have c1_0 := hO6.c 1 0
     have c1_1 := hO6.c 1 1
     have cf1 := hO6.fr 1
     have c2_0 := hO6.c 2 0
     have c2_1 := hO6.c 2 1
     have c2_2 := hO6.c 2 2
     have c2_3 := hO6.c 2 3
     have c2_4 := hO6.c 2 4
     have c2_5 := hO6.c 2 5
     have cf2 := hO6.fr 2
     have hb := hO6.below
     have hs8 := hb8.size
     refine bodyPost_ret (v := .agg #[.int .i64 5, .slice (some ⟨g8, 0, none⟩) 1 1]) (by simp only [results, Tryd.results36]; go_simp; first | done | exact ⟨rfl, rfl, rfl⟩ | rfl) rfl ?_
     exact retT_eq hv.out (retT_eq hvv.out ⟨some ⟨g8, 0, none⟩, 1, 1, rfl, rv_mk hC9 (.inr ⟨by omega, by omega⟩) (hr9.imp (fun b h => .inr ⟨by have := h.1; omega, by have := h.2; omega⟩)), hb⟩)
    ·
     have g4 : (k == 4) = false := by simpa using hk4
     have hvv : Hid ((VT.of (if (k : Int) = 4 then 5 else 6) (accV f l l.length)) = VT.of 6 (accV f l i')) := Lib.hid (by rw [if_neg hk4, ← hn.out])
     clear hk4
     repeat' ((fail_if_success at_builtin); (first | go_skip | go_guarded | go_step))
     refine (of_any (6 : Int) ((accV f l i').kind : Int) A7 n7 c7 _).mono ?_
     rintro e8 w8 ⟨g8, rfl, hg8, hC8, hb8⟩
     dsimp only
     have hlt8 := hC8.lt
     have hw24 := hO4.lo 0
     have hlo1 := hO4.lt 1
     have hwr := hO4.below.size
     have hO5 : OwnB w w8 [(w2.heap.size, [.int .i64 ((accV f l i').kind : Int), .slice A7 n7 c7]), (w.heap.size + 1, [.int .i64 0, .slice none 0 0]), (w.heap.size, [.int .i64 k, .bool b, .int .i64 i, .string s, .slice A i' c, .slice A2 n2 c2])] := hO4.kept hb8
     clear c0_0 c0_1 cf0 c1_0 c1_1 cf1 c2_0 c2_1 c2_2 c2_3 c2_4 c2_5 cf2 hO4
     have c0_0 := hO5.c 0 0
     have c0_1 := hO5.c 0 1
     have cf0 := hO5.fr 0
     have c1_0 := hO5.c 1 0
     have c1_1 := hO5.c 1 1
     have cf1 := hO5.fr 1
     have c2_0 := hO5.c 2 0
     have c2_1 := hO5.c 2 1
     have c2_2 := hO5.c 2 2
     have c2_3 := hO5.c 2 3
     have c2_4 := hO5.c 2 4
     have c2_5 := hO5.c 2 5
     have cf2 := hO5.fr 2
     repeat' ((fail_if_success at_builtin); (first | go_skip | go_guarded | go_step))
     have hC9 := cells_back (b4 := w.heap.size + 1) (.int .i64 6) (.slice (some ⟨g8, 0, none⟩) 1 1) hC8 (by omega)
     have hr9 := RV.set2 (g := w.heap.size + 1) (.int .i64 6) (.slice (some ⟨g8, 0, none⟩) 1 1) (fun b h => by have := h.1; omega) (RV.at_ hra2.out (fun b h => h.2) hb8)
     have hs9 : ((w8.setCell ⟨w.heap.size + 1, 0, none⟩ (.int .i64 6)).setCell ⟨w.heap.size + 1, 1, none⟩ (.slice (some ⟨g8, 0, none⟩) 1 1)).heap.size = w8.heap.size := by simp [World.setCell]
     generalize hx_ : World.setCell (World.setCell _ _ _) _ _ = wo6 at hC9 hr9 hs9 ⊢
     have hO6 : OwnB w wo6 [(w2.heap.size, [.int .i64 ((accV f l i').kind : Int), .slice A7 n7 c7]), (w.heap.size + 1, [.int .i64 6, .slice (some ⟨g8, 0, none⟩) 1 1]), (w.heap.size, [.int .i64 k, .bool b, .int .i64 i, .string s, .slice A i' c, .slice A2 n2 c2])] := by rw [← hx_]; exact (hO5.store 1 rfl 0 _).store 1 rfl 1 _
     clear hx_ c0_0 c0_1 cf0 c1_0 c1_1 cf1 c2_0 c2_1 c2_2 c2_3 c2_4 c2_5 cf2 hO5
     have c0_0 := hO6.c 0 0
     have c0_1 := hO6.c 0 1
     have cf0 := hO6.fr 0
     have c1_0 := hO6.c 1 0
     have c1_1 := hO6.c 1 1
     have cf1 := hO6.fr 1
     have c2_0 := hO6.c 2 0
     have c2_1 := hO6.c 2 1
     have c2_2 := hO6.c 2 2
     have c2_3 := hO6.c 2 3
     have c2_4 := hO6.c 2 4
     have c2_5 := hO6.c 2 5
     have cf2 := hO6.fr 2
     have hb := hO6.below
     have hs8 := hb8.size
     refine bodyPost_ret (v := .agg #[.int .i64 6, .slice (some ⟨g8, 0, none⟩) 1 1]) (by simp only [results, Tryd.results36]; go_simp; first | done | exact ⟨rfl, rfl, rfl⟩ | rfl) rfl ?_
     exact retT_eq hv.out (retT_eq hvv.out ⟨some ⟨g8, 0, none⟩, 1, 1, rfl, rv_mk hC9 (.inr ⟨by omega, by omega⟩) (hr9.imp (fun b h => .inr ⟨by have := h.1; omega, by have := h.2; omega⟩)), hb⟩)
end Go.Proofs.YtgcpffbaejodiaaDoor
