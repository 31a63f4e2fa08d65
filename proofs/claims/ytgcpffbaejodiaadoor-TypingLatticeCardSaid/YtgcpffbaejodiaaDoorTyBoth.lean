/- Typing: both, good. Typing: Sub. -/
import Derived.Test.YtgcpffbaejodiaaDoorTyK
import Derived.Test.YtgcpffbaejodiaaDoorTyJ
namespace Go.Proofs.YtgcpffbaejodiaaDoor
open Go.RowKit
/-- a valid type as such -/
def toVf : Nat → Ty → VT
 | 0, t => .base t.kind.toNat
 | f + 1, .mk k es => match es with
  | [x] => .of k.toNat (toVf f x)
  | _ => .base k.toNat
def okV (t : Ty) : Option VT := if validT t = 0 then some (toVf 16 t) else none
theorem toV_of : ∀ (f : Nat) (v : VT), v.depth ≤ f → toVf f (ofV v) = v
 | 0, v, h => by have := VT.depth_pos v; omega
 | f + 1, .base k, _ => rfl
 | f + 1, .of k e, h => by
  show VT.of (k : Int).toNat (toVf f (ofV e)) = _
  rw [toV_of f e (by have : (VT.of k e).depth = e.depth + 1 := rfl; omega)]
  rfl
theorem okV_some {t : Ty} {v : VT} (h : okV t = some v) : validT t = 0 ∧ v.Ok ∧ v.depth ≤ 16 ∧ t = ofV v := by
 unfold okV at h
 split at h
 ·
  rename_i h0
  cases h
  obtain ⟨v, h1, h2, rfl⟩ := valid_ok h0
  rw [toV_of 16 v h2]
  exact ⟨h0, h1, h2, rfl⟩
 ·
  cases h
theorem okV_none {t : Ty} (h : okV t = none) : validT t ≠ 0 := by
 unfold okV at h
 split at h
 ·
  cases h
 ·
  assumption
theorem okV_of {v : VT} (h : v.Ok) (hd : v.depth ≤ 16) : okV (ofV v) = some v := by
 unfold okV
 rw [valid_of h, if_pos hd, if_pos rfl, toV_of 16 v hd]
def bothT (t u : Ty) : Bool := (okV t).isSome && (okV u).isSome
def subS (t u : Ty) : Bool := match okV t, okV u with
 | some a, some b => VT.sub a b
 | _, _ => false
def boundS (f : VT → VT → VT) (k : Nat) (t u : Ty) : VT := match okV t, okV u with
 | some a, some b => f a b
 | _, _ => .base k
set_option maxRecDepth 100000 in
set_option maxHeartbeats 2000000 in
theorem both_any (ga gb : Nat) (t u : Ty) (xa : Int) (A : Option Addr) (n c : Nat) (xb : Int) (A2 : Option Addr) (n2 c2 : Nat) (w : World) (ha : RTf ga w (fun b => b < w.heap.size) t [.int .i64 xa, .slice A n c]) (hb0 : RTf gb w (fun b => b < w.heap.size) u [.int .i64 xb, .slice A2 n2 c2]) :
  Calls Tryd.prog 40 #[.agg #[.int .i64 xa, .slice A n c], .agg #[.int .i64 xb, .slice A2 n2 c2]] w fun e w' => e = .returned (.bool (bothT t u)) ∧ Below w.heap.size w w' := by
 go_enter Tryd.func40, Tryd.ntmps40
 go_upto_region 1 with (fail)
 generalize hx_ : World.alloc (World.alloc w _) _ = wo1
 have hO1 : OwnB w wo1 [(w.heap.size + 1, [.int .i64 xb, .slice A2 n2 c2]), (w.heap.size, [.int .i64 xa, .slice A n c])] := by rw [← hx_]; exact ((OwnB.refl w).new #[.int .i64 xa, .slice A n c] _ (g := w.heap.size)).new #[.int .i64 xb, .slice A2 n2 c2] _ (g := w.heap.size + 1)
 clear hx_
 have c0_0 := hO1.c 0 0
 have c0_1 := hO1.c 0 1
 have cf0 := hO1.fr 0
 have c1_0 := hO1.c 1 0
 have c1_1 := hO1.c 1 1
 have cf1 := hO1.fr 1
 have hb1 := hO1.below
 have h1 := Lib.hid (RTf.at_ ha hb1)
 repeat' ((fail_if_success at_builtin); (first | go_skip | go_guarded | go_step))
 refine (tvalid_any ga t xa A n c _ h1.out).mono ?_
 rintro e w2 ⟨rfl, hb2⟩
 dsimp only
 have hO2 : OwnB w w2 [(w.heap.size + 1, [.int .i64 xb, .slice A2 n2 c2]), (w.heap.size, [.int .i64 xa, .slice A n c])] := hO1.kept hb2
 clear c0_0 c0_1 cf0 c1_0 c1_1 cf1 hO1
 have c0_0 := hO2.c 0 0
 have c0_1 := hO2.c 0 1
 have cf0 := hO2.fr 0
 have c1_0 := hO2.c 1 0
 have c1_1 := hO2.c 1 1
 have cf1 := hO2.fr 1
 have hb3 := hO2.below
 have h2 := Lib.hid (RTf.at_ hb0 hb3)
 cases h0 : okV t with
 | none =>
  have hv : bothT t u = false := by unfold bothT; rw [h0]; rfl
  have hne : (validT t == 0) = false := by simpa using okV_none h0
  replace hv := Lib.hid hv
  clear h0
  repeat' ((fail_if_success at_builtin); (first | go_skip | go_guarded | go_step))
  go_ret
  exact ⟨retB (by rw [hv.out]), hb3⟩
 | some v =>
  have hz := (okV_some h0).1
  have hv : bothT t u = (okV u).isSome := by unfold bothT; rw [h0]; rfl
  rw [hz]
  replace hv := Lib.hid hv
  clear h0 hz
  repeat' ((fail_if_success at_builtin); (first | go_skip | go_guarded | go_step))
  refine (tvalid_any gb u xb A2 n2 c2 _ h2.out).mono ?_
  rintro e w3 ⟨rfl, hb4⟩
  dsimp only
  have hb5 := hb3.trans (hb4.mono hb3.size)
  cases h1 : okV u with
  | none =>
   rw [h1] at hv
   have hne : (validT u == 0) = false := by simpa using okV_none h1
   clear h1
   repeat' ((fail_if_success at_builtin); (first | go_skip | go_guarded | go_step))
   go_ret
   exact ⟨retB (by rw [hv.out]; rfl), hb5⟩
  | some v2 =>
   rw [h1] at hv
   have hz := (okV_some h1).1
   rw [hz]
   clear h1 hz
   repeat' ((fail_if_success at_builtin); (first | go_skip | go_guarded | go_step))
   go_ret
   exact ⟨retB (by rw [hv.out]; rfl), hb5⟩
set_option maxRecDepth 100000 in
set_option maxHeartbeats 2000000 in
theorem good_any (ga gb : Nat) (t u : Ty) (xa : Int) (A : Option Addr) (n c : Nat) (xb : Int) (A2 : Option Addr) (n2 c2 : Nat) (w : World) (ha : RTf ga w (fun b => b < w.heap.size) t [.int .i64 xa, .slice A n c]) (hb0 : RTf gb w (fun b => b < w.heap.size) u [.int .i64 xb, .slice A2 n2 c2]) :
  Calls Tryd.prog 42 #[.agg #[.int .i64 xa, .slice A n c], .agg #[.int .i64 xb, .slice A2 n2 c2]] w fun e w' => e = .returned (.bool (bothT t u)) ∧ Below w.heap.size w w' := by
 go_enter Tryd.func42, Tryd.ntmps42
 go_upto_region 1 with (fail)
 generalize hx_ : World.alloc (World.alloc w _) _ = wo1
 have hO1 : OwnB w wo1 [(w.heap.size + 1, [.int .i64 xb, .slice A2 n2 c2]), (w.heap.size, [.int .i64 xa, .slice A n c])] := by rw [← hx_]; exact ((OwnB.refl w).new #[.int .i64 xa, .slice A n c] _ (g := w.heap.size)).new #[.int .i64 xb, .slice A2 n2 c2] _ (g := w.heap.size + 1)
 clear hx_
 have c0_0 := hO1.c 0 0
 have c0_1 := hO1.c 0 1
 have cf0 := hO1.fr 0
 have c1_0 := hO1.c 1 0
 have c1_1 := hO1.c 1 1
 have cf1 := hO1.fr 1
 have hb1 := hO1.below
 have h1 := Lib.hid (RTf.at_ ha hb1)
 repeat' ((fail_if_success at_builtin); (first | go_skip | go_guarded | go_step))
 refine (rvalid_any ga t xa A n c _ h1.out).mono ?_
 rintro e w2 ⟨rfl, hb2⟩
 dsimp only
 have hO2 : OwnB w w2 [(w.heap.size + 1, [.int .i64 xb, .slice A2 n2 c2]), (w.heap.size, [.int .i64 xa, .slice A n c])] := hO1.kept hb2
 clear c0_0 c0_1 cf0 c1_0 c1_1 cf1 hO1
 have c0_0 := hO2.c 0 0
 have c0_1 := hO2.c 0 1
 have cf0 := hO2.fr 0
 have c1_0 := hO2.c 1 0
 have c1_1 := hO2.c 1 1
 have cf1 := hO2.fr 1
 have hb3 := hO2.below
 have h2 := Lib.hid (RTf.at_ hb0 hb3)
 cases h0 : okV t with
 | none =>
  have hv : bothT t u = false := by unfold bothT; rw [h0]; rfl
  have hne : (validT t == 0) = false := by simpa using okV_none h0
  replace hv := Lib.hid hv
  clear h0
  repeat' ((fail_if_success at_builtin); (first | go_skip | go_guarded | go_step))
  go_ret
  exact ⟨retB (by rw [hv.out]), hb3⟩
 | some v =>
  have hz := (okV_some h0).1
  have hv : bothT t u = (okV u).isSome := by unfold bothT; rw [h0]; rfl
  rw [hz]
  replace hv := Lib.hid hv
  clear h0 hz
  repeat' ((fail_if_success at_builtin); (first | go_skip | go_guarded | go_step))
  refine (rvalid_any gb u xb A2 n2 c2 _ h2.out).mono ?_
  rintro e w3 ⟨rfl, hb4⟩
  dsimp only
  have hb5 := hb3.trans (hb4.mono hb3.size)
  cases h1 : okV u with
  | none =>
   rw [h1] at hv
   have hne : (validT u == 0) = false := by simpa using okV_none h1
   clear h1
   repeat' ((fail_if_success at_builtin); (first | go_skip | go_guarded | go_step))
   go_ret
   exact ⟨retB (by rw [hv.out]; rfl), hb5⟩
  | some v2 =>
   rw [h1] at hv
   have hz := (okV_some h1).1
   rw [hz]
   clear h1 hz
   repeat' ((fail_if_success at_builtin); (first | go_skip | go_guarded | go_step))
   go_ret
   exact ⟨retB (by rw [hv.out]; rfl), hb5⟩
end Go.Proofs.YtgcpffbaejodiaaDoor
namespace Go.Proofs.YtgcpffbaejodiaaDoor
open Go.RowKit
theorem both_parts {t u : Ty} (h : bothT t u = true) : ∃ a b, okV t = some a ∧ okV u = some b := by
 unfold bothT at h
 rw [Bool.and_eq_true] at h
 obtain ⟨a, ha⟩ := Option.isSome_iff_exists.1 h.1
 obtain ⟨b, hb⟩ := Option.isSome_iff_exists.1 h.2
 exact ⟨a, b, ha, hb⟩
theorem both_not {t u : Ty} (h : bothT t u = false) : okV t = none ∨ okV u = none := by
 unfold bothT at h
 rw [Bool.and_eq_false_iff] at h
 rcases h with h | h
 ·
  exact .inl (by simpa using h)
 ·
  exact .inr (by simpa using h)
theorem sub_not {t u : Ty} (h : bothT t u = false) : subS t u = false := by
 unfold subS
 rcases both_not h with e | e
 ·
  rw [e]
 ·
  rw [e]; cases okV t <;> rfl
theorem bound_not {f : VT → VT → VT} {k : Nat} {t u : Ty} (h : bothT t u = false) : boundS f k t u = .base k := by
 unfold boundS
 rcases both_not h with e | e
 ·
  rw [e]
 ·
  rw [e]; cases okV t <;> rfl
set_option maxRecDepth 100000 in
set_option maxHeartbeats 2000000 in
theorem sub_any (ga gb : Nat) (t u : Ty) (xa : Int) (A : Option Addr) (n c : Nat) (xb : Int) (A2 : Option Addr) (n2 c2 : Nat) (w : World) (ha : RTf ga w (fun b => b < w.heap.size) t [.int .i64 xa, .slice A n c]) (hb0 : RTf gb w (fun b => b < w.heap.size) u [.int .i64 xb, .slice A2 n2 c2]) :
  Calls Tryd.prog 19 #[.agg #[.int .i64 xa, .slice A n c], .agg #[.int .i64 xb, .slice A2 n2 c2]] w fun e w' => e = .returned (.bool (subS t u)) ∧ Below w.heap.size w w' := by
 go_enter Tryd.func19, Tryd.ntmps19
 go_upto_region 1 with (fail)
 generalize hx_ : World.alloc (World.alloc w _) _ = wo1
 have hO1 : OwnB w wo1 [(w.heap.size + 1, [.int .i64 xb, .slice A2 n2 c2]), (w.heap.size, [.int .i64 xa, .slice A n c])] := by rw [← hx_]; exact ((OwnB.refl w).new #[.int .i64 xa, .slice A n c] _ (g := w.heap.size)).new #[.int .i64 xb, .slice A2 n2 c2] _ (g := w.heap.size + 1)
 clear hx_
 have c0_0 := hO1.c 0 0
 have c0_1 := hO1.c 0 1
 have cf0 := hO1.fr 0
 have c1_0 := hO1.c 1 0
 have c1_1 := hO1.c 1 1
 have cf1 := hO1.fr 1
 have hb1 := hO1.below
 have h1 := Lib.hid (RTf.at_ ha hb1)
 have h2 := Lib.hid (RTf.at_ hb0 hb1)
 repeat' ((fail_if_success at_builtin); (first | go_skip | go_guarded | go_step))
 refine (both_any ga gb t u xa A n c xb A2 n2 c2 _ h1.out h2.out).mono ?_
 rintro e w2 ⟨rfl, hb2⟩
 dsimp only
 have hO2 : OwnB w w2 [(w.heap.size + 1, [.int .i64 xb, .slice A2 n2 c2]), (w.heap.size, [.int .i64 xa, .slice A n c])] := hO1.kept hb2
 clear c0_0 c0_1 cf0 c1_0 c1_1 cf1 hO1
 have c0_0 := hO2.c 0 0
 have c0_1 := hO2.c 0 1
 have cf0 := hO2.fr 0
 have c1_0 := hO2.c 1 0
 have c1_1 := hO2.c 1 1
 have cf1 := hO2.fr 1
 have hb3 := hO2.below
 have h3 := RTf.at_ ha hb3
 have h4 := RTf.at_ hb0 hb3
 cases hbo : bothT t u with
 | false =>
  have hv := sub_not hbo
  replace hv := Lib.hid hv
  clear hbo h3 h4
  repeat' ((fail_if_success at_builtin); (first | go_skip | go_guarded | go_step))
  go_ret
  exact ⟨retB (by rw [hv.out]), hb3⟩
 | true =>
  obtain ⟨a, b, e1, e2⟩ := both_parts hbo
  have hv : subS t u = VT.sub a b := by unfold subS; rw [e1, e2]
  obtain ⟨_, a1, _, rfl⟩ := okV_some e1
  obtain ⟨_, b1, _, rfl⟩ := okV_some e2
  have r1 := Lib.hid h3.valid
  have r2 := Lib.hid h4.valid
  replace hv := Lib.hid hv
  clear hbo h3 h4 e1 e2
  repeat' ((fail_if_success at_builtin); (first | go_skip | go_guarded | go_step))
  refine (within_any a b xa A n c xb A2 n2 c2 _ a1 b1 r1.out r2.out).mono ?_
  rintro e w3 ⟨rfl, hb4⟩
  dsimp only
  have hb5 := hb3.trans (hb4.mono hb3.size)
  repeat' ((fail_if_success at_builtin); (first | go_skip | go_guarded | go_step))
  go_ret
  exact ⟨retB (by rw [hv.out]), hb5⟩
set_option maxRecDepth 100000 in
set_option maxHeartbeats 2000000 in
theorem rsub_any (ga gb : Nat) (t u : Ty) (xa : Int) (A : Option Addr) (n c : Nat) (xb : Int) (A2 : Option Addr) (n2 c2 : Nat) (w : World) (ha : RTf ga w (fun b => b < w.heap.size) t [.int .i64 xa, .slice A n c]) (hb0 : RTf gb w (fun b => b < w.heap.size) u [.int .i64 xb, .slice A2 n2 c2]) :
  Calls Tryd.prog 20 #[.agg #[.int .i64 xa, .slice A n c], .agg #[.int .i64 xb, .slice A2 n2 c2]] w fun e w' => e = .returned (.bool (subS t u)) ∧ Below w.heap.size w w' := by
 go_enter Tryd.func20, Tryd.ntmps20
 go_upto_region 1 with (fail)
 generalize hx_ : World.alloc (World.alloc w _) _ = wo1
 have hO1 : OwnB w wo1 [(w.heap.size + 1, [.int .i64 xb, .slice A2 n2 c2]), (w.heap.size, [.int .i64 xa, .slice A n c])] := by rw [← hx_]; exact ((OwnB.refl w).new #[.int .i64 xa, .slice A n c] _ (g := w.heap.size)).new #[.int .i64 xb, .slice A2 n2 c2] _ (g := w.heap.size + 1)
 clear hx_
 have c0_0 := hO1.c 0 0
 have c0_1 := hO1.c 0 1
 have cf0 := hO1.fr 0
 have c1_0 := hO1.c 1 0
 have c1_1 := hO1.c 1 1
 have cf1 := hO1.fr 1
 have hb1 := hO1.below
 have h1 := Lib.hid (RTf.at_ ha hb1)
 have h2 := Lib.hid (RTf.at_ hb0 hb1)
 repeat' ((fail_if_success at_builtin); (first | go_skip | go_guarded | go_step))
 refine (good_any ga gb t u xa A n c xb A2 n2 c2 _ h1.out h2.out).mono ?_
 rintro e w2 ⟨rfl, hb2⟩
 dsimp only
 have hO2 : OwnB w w2 [(w.heap.size + 1, [.int .i64 xb, .slice A2 n2 c2]), (w.heap.size, [.int .i64 xa, .slice A n c])] := hO1.kept hb2
 clear c0_0 c0_1 cf0 c1_0 c1_1 cf1 hO1
 have c0_0 := hO2.c 0 0
 have c0_1 := hO2.c 0 1
 have cf0 := hO2.fr 0
 have c1_0 := hO2.c 1 0
 have c1_1 := hO2.c 1 1
 have cf1 := hO2.fr 1
 have hb3 := hO2.below
 have h3 := RTf.at_ ha hb3
 have h4 := RTf.at_ hb0 hb3
 cases hbo : bothT t u with
 | false =>
  have hv := sub_not hbo
  replace hv := Lib.hid hv
  clear hbo h3 h4
  repeat' ((fail_if_success at_builtin); (first | go_skip | go_guarded | go_step))
  go_ret
  exact ⟨retB (by rw [hv.out]), hb3⟩
 | true =>
  obtain ⟨a, b, e1, e2⟩ := both_parts hbo
  have hv : subS t u = VT.sub a b := by unfold subS; rw [e1, e2]
  obtain ⟨_, a1, _, rfl⟩ := okV_some e1
  obtain ⟨_, b1, _, rfl⟩ := okV_some e2
  have r1 := Lib.hid h3.valid
  have r2 := Lib.hid h4.valid
  replace hv := Lib.hid hv
  clear hbo h3 h4 e1 e2
  repeat' ((fail_if_success at_builtin); (first | go_skip | go_guarded | go_step))
  refine (contained_any a b xa A n c xb A2 n2 c2 _ a1 b1 r1.out r2.out).mono ?_
  rintro e w3 ⟨rfl, hb4⟩
  dsimp only
  have hb5 := hb3.trans (hb4.mono hb3.size)
  repeat' ((fail_if_success at_builtin); (first | go_skip | go_guarded | go_step))
  go_ret
  exact ⟨retB (by rw [hv.out]), hb5⟩
end Go.Proofs.YtgcpffbaejodiaaDoor
