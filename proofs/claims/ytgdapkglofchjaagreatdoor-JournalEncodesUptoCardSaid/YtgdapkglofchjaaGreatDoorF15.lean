/- Joined: TyIter JnV2. -/
import Derived.RangeFuncNested
import Derived.RangeFuncBound
import Derived.RangeFuncCalls
import Derived.RangeFuncLeaves
import Derived.Shelf.Abstract
import Derived.Shelf.RegionOpen
import Derived.OwnWalkIn
import Derived.TacticsInMore
import Derived.LoopNIn
import Derived.LoopIn
import Derived.Sort.CutIn
import Derived.Test.YtgdapkglofchjaaGreatDoorF14
set_option maxRecDepth 100000
set_option maxHeartbeats 6000000
set_option linter.unusedVariables false
namespace Go.Proofs.YtgdapkglofchjaaGreatDoor
open Go.RowKit
open Go.Shelf
attribute [local go_sem] Oper.semAt_some
structure KpW (B : Nat) (C : Nat → Prop) (W W' : World) : Prop where
 below : Below B W W'
 keep : ∀ (b : Nat) (o : Obj), W.heap[b]? = some o → o.isCells = true → ¬ C b → W'.heap[b]? = some o
section
variable {B : Nat} {C : Nat → Prop} {W W' W2 : World}
theorem KpW.refl (B : Nat) (C : Nat → Prop) (W : World) : KpW B C W W := ⟨Below.refl _ _, fun _ _ h _ _ => h⟩
theorem KpW.trans (h : KpW B C W W') (k : KpW B C W' W2) : KpW B C W W2 := ⟨h.below.trans k.below, fun b o hb hc hn => k.keep b o (h.keep b o hb hc hn) hc hn⟩
theorem KpW.of (h : Below W.heap.size W W') (hB : B ≤ W.heap.size) : KpW B C W W' := ⟨h.mono hB, fun b o hb _ _ => by
 have hlt := (Array.getElem?_eq_some_iff.1 hb).1
 rw [h.block b hlt]; exact hb⟩
theorem KpW.blk (h : KpW B C W W') {p : Addr} {v : Value} (hc : W.cell? p = some v) (hn : ¬ C p.block) : W'.heap[p.block]? = W.heap[p.block]? := by
 cases ho : W.heap[p.block]? with
 | none => unfold World.cell? at hc; rw [ho] at hc; cases hc
 | some o =>
  refine h.keep p.block o ho ?_ hn
  unfold World.cell? at hc
  rw [ho] at hc
  cases o <;> first | rfl | (cases hc; done)
theorem KpW.cell (h : KpW B C W W') {p : Addr} {v : Value} (hc : W.cell? p = some v) (hn : ¬ C p.block) : W'.cell? p = some v := (World.cell?_of_block (a := p) (h.blk hc hn)).trans hc
end
theorem kpW_b {B : Nat} {C : Nat → Prop} {w : World} (hn : B ≤ w.heap.size) (W : World) (l : Nat) (o o' : Obj) (hl : w.heap.size ≤ l) (h : W.heap[l]? = some o) (ho : o.isCells = false) (hw : o.isWalk = false) : KpW B C W (W.putObj l o') :=
 ⟨belowK_b hn W l o o' hl h ho hw, fun b x hb hx _ => by
  by_cases e : b = l
  ·subst e; rw [h] at hb; cases hb; rw [ho] at hx; cases hx
  ·exact (World.putObj_heap_other e).trans hb⟩
abbrev NodeX (w0 : World) (B : Nat) := {x : Int × Vl × List Value // ∃ g, RVl g w0 (fun b => b < B) x.2.1 x.2.2}
def NodeX.key {w0 : World} {B : Nat} (x : NodeX w0 B) : Int × Vl := (x.1.1, x.1.2.1)
abbrev NodeX.encs {w0 : World} {B : Nat} (x : NodeX w0 B) : Array Value := #[.int .i64 x.1.1, .agg x.1.2.2.toArray]
theorem nodes_split {β : Type} (f : Vl → List β) {l : List Vl} {i : Nat} {x : Vl} (h : l[i]? = some x) : (l.map f).flatten = ((l.take i).map f).flatten ++ (f x ++ ((l.drop (i + 1)).map f).flatten) := by
 obtain ⟨h1, h2⟩ := List.getElem?_eq_some_iff.1 h
 conv => lhs; rw [← List.take_append_drop i l, List.drop_eq_getElem_cons h1, h2]
 simp
theorem nodes_take {β : Type} (f : Vl → List β) {l : List Vl} {i : Nat} {x : Vl} (h : l[i]? = some x) : ((l.take (i + 1)).map f).flatten = ((l.take i).map f).flatten ++ f x := by
 rw [List.take_add_one, h]
 simp
theorem nodesF_mk (g : Nat) (lv : Int) (v : Vl) : nodesF (g + 1) lv v = (lv, v) :: (v.list.map (nodesF g (nextL lv))).flatten := rfl
theorem deep_of : ∀ {g : Nat} {w : World} {S : Nat → Prop} {v : Vl} {cs : List Value}, RVl g w S v cs → DeepV g v
 | 0, _, _, _, _, h => h.elim
 | g + 1, w, S, v, cs, ⟨A, c, A2, c2, _, hs, _, _⟩ => fun x hx => by
  obtain ⟨i, hi, rfl⟩ := List.mem_iff_getElem.1 hx
  obtain ⟨_, _, _, _, _, _, hr, _⟩ := hs.at_ (List.getElem?_eq_getElem hi)
  exact deep_of hr
theorem walkV_in (l B N K : Nat) (w0 : World) (C : Nat → Prop) (hBK : B ≤ K) (hCK : ∀ b, C b → B ≤ b ∧ b < K) (J Jx : List (NodeX w0 B) → World → Prop)
  (hJ : ∀ s W W', J s W → Below W.heap.size W W' → J s W')
  (hY : ∀ m pre (x : NodeX w0 B) W, J pre W → pre.length < N → YieldAt Fence.wide m Tryz.prog l x.encs W fun e W' =>
   (e = .returned (.bool true) ∧ J (pre ++ [x]) W' ∧ KpW B C W W') ∨ (e = .returned (.bool false) ∧ Jx (pre ++ [x]) W')) :
  ∀ (g m : Nat) (lv k : Int) (b : Bool) (i : Int) (s : ByteArray) (A : Option Addr) (n c : Nat) (A2 : Option Addr) (n2 c2 : Nat) (v : Vl) (pre : List (NodeX w0 B)) (W : World), RVl g w0 (fun b => b < B) v [.int .i64 k, .bool b, .int .i64 i, .string s, .slice A n c, .slice A2 n2 c2] → Below B w0 W → K ≤ W.heap.size → J pre W → pre.length + (nodesF g lv v).length ≤ N →
   CallsIn Fence.wide m Tryz.prog 105 #[.agg #[.int .i64 k, .bool b, .int .i64 i, .string s, .slice A n c, .slice A2 n2 c2], .int .i64 lv, .func (.yield l) #[] #[]] W fun e W' =>
    (e = .returned (.bool true) ∧ (∃ ys : List (NodeX w0 B), ys.map NodeX.key = nodesF g lv v ∧ J (pre ++ ys) W') ∧ KpW B C W W') ∨
    (e = .returned (.bool false) ∧ ∃ q : List (NodeX w0 B), q.map NodeX.key <+: nodesF g lv v ∧ Jx (pre ++ q) W') := by
 intro g
 induction g with
 | zero => intro m lv k b i s A n c A2 n2 c2 v pre W h; exact h.elim
 | succ gj ih =>
  intro m lv k b i s A n c A2 n2 c2 v pre W h hB0 hK hJ0 hN
  have hx0 := h
  obtain ⟨gj', l', ks, hg, rfl, hn, hn2, hs, hs2, hl2⟩ := vl_open h
  obtain rfl : gj = gj' := by omega
  clear hn2 hs2 h hg
  rw [nodesF_mk] at hN ⊢
  have hl' : (Vl.mk k b i s l' ks).list = l' := rfl
  rw [hl'] at hN ⊢
  generalize hnl : nextL lv = nl at hN ⊢
  replace hnl := Lib.hid hnl
  replace hs := Lib.hid hs
  replace ih := Lib.hid ih
  replace hn := Lib.hid hn
  clear hl'
  refine callsIn_of_wp Tryz.func105 rfl trivial ?_ rfl
  simp only [Tryz.ntmps105, List.size_toArray, List.length_cons, List.length_nil, Nat.reduceAdd, Nat.reduceSub, Array.replicate_succ, Array.replicate_zero, List.push_toArray, List.append_toArray, List.nil_append, List.cons_append]
  gi_upto_region 1 with (fail)
  generalize hx_ : World.alloc W _ = wo1
  have hO1 : OwnB W wo1 [(W.heap.size, [.int .i64 k, .bool b, .int .i64 i, .string s, .slice A n c, .slice A2 n2 c2])] := by rw [← hx_]; exact (OwnB.refl W).new #[.int .i64 k, .bool b, .int .i64 i, .string s, .slice A n c, .slice A2 n2 c2] _ (g := W.heap.size)
  clear hx_
  obtain ⟨c0_0, c0_1, c0_2, c0_3, c0_4, c0_5, cf0⟩ := own6 hO1
  have hJ1 := hJ _ _ _ hJ0 hO1.below
  obtain ⟨x0, hx0k⟩ : ∃ x0 : NodeX w0 B, x0 = ⟨(lv, .mk k b i s l' ks, [.int .i64 k, .bool b, .int .i64 i, .string s, .slice A n c, .slice A2 n2 c2]), _, hx0⟩ := ⟨_, rfl⟩
  have hkey : x0.key = (lv, .mk k b i s l' ks) := by rw [hx0k]; rfl
  have henc : x0.encs = #[.int .i64 lv, .agg #[.int .i64 k, .bool b, .int .i64 i, .string s, .slice A n c, .slice A2 n2 c2]] := by rw [hx0k]
  obtain ⟨fn, tmps, assign, body, hy, hR⟩ := hY (m - 1) pre x0 wo1 hJ1 (by simp at hN; omega)
  rw [henc] at hy
  clear hx0k henc hx0 hJ0
  have hCg : ¬ C W.heap.size := fun h => by have := (hCK _ h).2; omega
  have hw2 := hO1.below.size
  repeat' ((fail_if_success gi_at_builtin); (first | gi_guarded | gi_step | gi_upon))
  refine ⟨fun h => absurd h (by decide), ?_⟩
  refine hR.mono ?_
  clear hR hy
  rintro e W2 (⟨rfl, hJ2, hk2⟩ | ⟨rfl, hx2⟩)
  ·have d4 := hk2.cell (p := ⟨W.heap.size, 4, none⟩) c0_4 hCg
   have hkW : KpW B C W W2 := (KpW.of hO1.below (Nat.le_trans hBK hK)).trans hk2
   clear hk2 c0_0 c0_1 c0_2 c0_3 c0_4 c0_5 cf0 hO1 hJ1
   dsimp only
   repeat' ((fail_if_success gi_at_builtin); (first | gi_guarded | gi_step | gi_upon))
   gi_loopw [17] (fun u17 wr => ∃ i' : Nat, i' ≤ n ∧ u17 = .int .i64 (i' : Int) ∧ ∃ ys : List (NodeX w0 B), ys.map NodeX.key = (lv, .mk k b i s l' ks) :: ((l'.take i').map (nodesF gj nl)).flatten ∧ J (pre ++ ys) wr ∧ KpW B C W wr) (fun u17 _ => n - (intOf u17).toNat)
   case atStart => exact ⟨0, Nat.zero_le _, rfl, [x0], by simp [hkey], hJ2, hkW⟩
   case round =>
    clear hJ2 hkW d4
    obtain ⟨i', hi, rfl, ys, hys, hJr, hkr⟩ := hrel
    have hBr := hB0.trans hkr.below
    have i1 : (0 : Int) ≤ (i' : Int) := by omega
    by_cases hlt : i' < n
    ·have i3 : (i' : Int) < (n : Int) := by omega
     have i2 : IntKind.i64.wrap ((i' : Int) + 1) = ((i' + 1 : Nat) : Int) := by rw [IntWalk.i64_in _ (by omega)]; omega
     obtain ⟨x, hx⟩ : ∃ x, l'[i']? = some x := ⟨_, List.getElem?_eq_getElem (by rw [← hn.out]; exact hlt)⟩
     obtain ⟨bx, ox, cx, rfl, hbx, hlx, hrx, hcl⟩ := hs.out.at_ hx
     obtain ⟨xk, xb, xi, xs, XA, xn, xc, XB, xn2, xc2, rfl⟩ := vl_form hrx
     have y0 : wr.cell? ⟨bx, ox + i' * 6, none⟩ = some (.int .i64 xk) := (hBr.cell (p := ⟨bx, ox + i' * 6 + 0, none⟩) hbx).trans (hcl 0 _ rfl)
     have y1 : wr.cell? ⟨bx, ox + i' * 6 + 1, none⟩ = some (.bool xb) := (hBr.cell (p := ⟨bx, ox + i' * 6 + 1, none⟩) hbx).trans (hcl 1 _ rfl)
     have y2 : wr.cell? ⟨bx, ox + i' * 6 + 2, none⟩ = some (.int .i64 xi) := (hBr.cell (p := ⟨bx, ox + i' * 6 + 2, none⟩) hbx).trans (hcl 2 _ rfl)
     have y3 : wr.cell? ⟨bx, ox + i' * 6 + 3, none⟩ = some (.string xs) := (hBr.cell (p := ⟨bx, ox + i' * 6 + 3, none⟩) hbx).trans (hcl 3 _ rfl)
     have y4 : wr.cell? ⟨bx, ox + i' * 6 + 4, none⟩ = some (.slice XA xn xc) := (hBr.cell (p := ⟨bx, ox + i' * 6 + 4, none⟩) hbx).trans (hcl 4 _ rfl)
     have y5 : wr.cell? ⟨bx, ox + i' * 6 + 5, none⟩ = some (.slice XB xn2 xc2) := (hBr.cell (p := ⟨bx, ox + i' * 6 + 5, none⟩) hbx).trans (hcl 5 _ rfl)
     gi_upto_region 6 with (fail)
     clear y0 y1 y2 y3 y4 y5
     generalize hx_ : World.alloc wr _ = wp1
     have hP1 : OwnB wr wp1 [(wr.heap.size, [.int .i64 xk, .bool xb, .int .i64 xi, .string xs, .slice XA xn xc, .slice XB xn2 xc2])] := by rw [← hx_]; exact (OwnB.refl wr).new #[.int .i64 xk, .bool xb, .int .i64 xi, .string xs, .slice XA xn xc, .slice XB xn2 xc2] _ (g := wr.heap.size)
     clear hx_
     have c0_0 := hP1.c 0 0
     have c0_1 := hP1.c 0 1
     have c0_2 := hP1.c 0 2
     have c0_3 := hP1.c 0 3
     have c0_4 := hP1.c 0 4
     have c0_5 := hP1.c 0 5
     have cf0 := hP1.fr 0
     have hJp := hJ _ _ _ hJr hP1.below
     have hBp := hBr.trans (hP1.below.mono (Nat.le_trans (Nat.le_trans hBK hK) hkr.below.size))
     have hKp : K ≤ wp1.heap.size := Nat.le_trans hK (Nat.le_trans hkr.below.size hP1.below.size)
     have hkp : KpW B C W wp1 := hkr.trans (KpW.of hP1.below (Nat.le_trans (Nat.le_trans hBK hK) hkr.below.size))
     have hspl := nodes_split (nodesF gj nl) hx
     have htk := nodes_take (nodesF gj nl) hx
     have hln : (pre ++ ys).length + (nodesF gj nl x).length ≤ N := by
      have e1 := congrArg List.length hys
      rw [hspl] at hN
      simp at e1 hN ⊢
      omega
     replace hspl := Lib.hid hspl
     replace htk := Lib.hid htk
     repeat' ((fail_if_success gi_at_builtin); (first | gi_guarded | gi_step | gi_upon))
     rw [show wrap64 (lv + 1) = nl from (IntWalk.i64_left _).symm.trans hnl.out]
     refine ⟨trivial, fun h => absurd h (by decide), ?_⟩
     refine (ih.out _ nl xk xb xi xs XA xn xc XB xn2 xc2 x (pre ++ ys) wp1 hrx hBp hKp hJp hln).mono ?_
     rintro e W6 (⟨rfl, ⟨ys2, hm2, hJ6⟩, hk6⟩ | ⟨rfl, q, hq, hx6⟩)
     ·dsimp only
      repeat' ((fail_if_success gi_at_builtin); (first | gi_guarded | gi_step | gi_upon))
      go_roundw
      case rel => exact ⟨i' + 1, by omega, by first | rfl | go_num, ys ++ ys2, by rw [List.map_append, hys, hm2, htk.out]; rfl, by rw [← List.append_assoc]; exact hJ6, hkp.trans hk6⟩
      case measure => (try go_num); (try simp [intOf]); (try omega)
     ·dsimp only
      repeat' ((fail_if_success gi_at_builtin); (first | gi_guarded | gi_step | gi_upon))
      go_ret
      refine .inr ⟨rfl, ys ++ q, ?_, by rw [← List.append_assoc]; exact hx6⟩
      obtain ⟨r, hr⟩ := hq
      rw [List.map_append, hys, hspl.out, ← hr]
      exact ⟨r ++ ((l'.drop (i' + 1)).map (nodesF gj nl)).flatten, by simp⟩
    ·obtain rfl : i' = n := by omega
     have i3 : ¬ (i' : Int) < (i' : Int) := by omega
     repeat' ((fail_if_success gi_at_builtin); (first | gi_guarded | gi_step | gi_upon))
     go_ret
     exact .inl ⟨rfl, ⟨ys, by rw [hys, hn.out, List.take_length], hJr⟩, hkr⟩
  ·dsimp only
   repeat' ((fail_if_success gi_at_builtin); (first | gi_guarded | gi_step | gi_upon))
   go_ret
   exact .inr ⟨rfl, [x0], ⟨_, by rw [List.map_cons, List.map_nil, hkey]; rfl⟩, hx2⟩
end Go.Proofs.YtgdapkglofchjaaGreatDoor
namespace Go.Proofs.YtgdapkglofchjaaGreatDoor
open Go.RowKit
open Go.Shelf
attribute [local go_sem] Oper.semAt_some
theorem yield_any {m m' : Nat} {P : Program} {l : Nat} {args : Array Value} {W : World} {R : Ending → World → Prop} (h : YieldAt Fence.wide m P l args W R) : YieldAt Fence.wide m' P l args W R := by
 obtain ⟨fn, tmps, assign, body, hy, hR⟩ := h
 exact ⟨fn, tmps, assign, body, hy, hR.1, fun c cs _ => hR.2 c cs (fun d h => by cases h)⟩
theorem nodes1_in (l B N K : Nat) (w0 : World) (C : Nat → Prop) (hBK : B ≤ K) (hCK : ∀ b, C b → B ≤ b ∧ b < K) (J Jx : List (NodeX w0 B) → World → Prop)
  (hJ : ∀ s W W', J s W → Below W.heap.size W W' → J s W')
  (hY : ∀ m pre (x : NodeX w0 B) W, J pre W → pre.length < N → YieldAt Fence.wide m Tryz.prog l x.encs W fun e W' =>
   (e = .returned (.bool true) ∧ J (pre ++ [x]) W' ∧ KpW B C W W') ∨ (e = .returned (.bool false) ∧ Jx (pre ++ [x]) W'))
  (g m : Nat) (k : Int) (b : Bool) (i : Int) (s : ByteArray) (A : Option Addr) (n c : Nat) (A2 : Option Addr) (n2 c2 : Nat) (v : Vl) (W : World) (Bv Bl : Nat) (hcv : CellsAt W Bv [.int .i64 k, .bool b, .int .i64 i, .string s, .slice A n c, .slice A2 n2 c2]) (hcl : CellsAt W Bl [.int .i64 1])
  (h : RVl g w0 (fun b => b < B) v [.int .i64 k, .bool b, .int .i64 i, .string s, .slice A n c, .slice A2 n2 c2]) (hB0 : Below B w0 W) (hK : K ≤ W.heap.size) (h0 : J [] W) (hN : (nodesF g 1 v).length ≤ N) :
  CallsIn Fence.wide m Tryz.prog 104 #[.func (.yield l) #[] #[], .pointer (some ⟨Bv, 0, none⟩), .pointer (some ⟨Bl, 0, none⟩)] W fun e W' => (∃ u, e = .returned u) ∧
   ((∃ ys : List (NodeX w0 B), ys.map NodeX.key = nodesF g 1 v ∧ J ys W') ∨ (∃ pre : List (NodeX w0 B), pre.map NodeX.key <+: nodesF g 1 v ∧ Jx pre W')) := by
 have hw := walkV_in l B N K w0 C hBK hCK J Jx hJ hY g (m - 1) 1 k b i s A n c A2 n2 c2 v [] W h hB0 hK h0 (by simpa using hN)
 have cv0 := hcv.cell 0 _ rfl
 have cv1 := hcv.cell 1 _ rfl
 have cv2 := hcv.cell 2 _ rfl
 have cv3 := hcv.cell 3 _ rfl
 have cv4 := hcv.cell 4 _ rfl
 have cv5 := hcv.cell 5 _ rfl
 have cl0 := hcl.cell 0 _ rfl
 replace hw := Lib.hid hw
 refine callsIn_of_wp Tryz.func104 rfl trivial ?_ rfl
 simp only [Tryz.ntmps104, List.size_toArray, List.length_cons, List.length_nil, Nat.reduceAdd, Nat.reduceSub, Array.replicate_succ, Array.replicate_zero, List.push_toArray, List.append_toArray, List.nil_append, List.cons_append]
 repeat' ((fail_if_success gi_at_builtin); (first | gi_guarded | gi_step | gi_upon))
 refine ⟨trivial, fun h => absurd h (by decide), ?_⟩
 refine hw.out.mono ?_
 rintro e W1 (⟨rfl, ⟨ys, hys, hJ1⟩, _⟩ | ⟨rfl, q, hq, hx⟩)
 ·dsimp only
  repeat' ((fail_if_success gi_at_builtin); (first | gi_guarded | gi_step | gi_upon))
  go_end0
  exact ⟨⟨_, rfl⟩, .inl ⟨ys, hys, by simpa using hJ1⟩⟩
 ·dsimp only
  repeat' ((fail_if_success gi_at_builtin); (first | gi_guarded | gi_step | gi_upon))
  go_end0
  exact ⟨⟨_, rfl⟩, .inr ⟨q, hq, by simpa using hx⟩⟩
theorem nodes_stops (B K : Nat) (w0 : World) (C : Nat → Prop) (hBK : B ≤ K) (hCK : ∀ b, C b → B ≤ b ∧ b < K)
  (g m : Nat) (k : Int) (b : Bool) (i : Int) (s : ByteArray) (A : Option Addr) (n c : Nat) (A2 : Option Addr) (n2 c2 : Nat) (v : Vl) (w : World) (Bv Bl : Nat) (hcv : CellsAt w Bv [.int .i64 k, .bool b, .int .i64 i, .string s, .slice A n c, .slice A2 n2 c2]) (hcl : CellsAt w Bl [.int .i64 1])
  (h : RVl g w0 (fun b => b < B) v [.int .i64 k, .bool b, .int .i64 i, .string s, .slice A n c, .slice A2 n2 c2]) (hB0 : Below B w0 w) (hK : K ≤ w.heap.size) :
  SeqStopsK Fence.wide m Tryz.prog 104 #[.pointer (some ⟨Bv, 0, none⟩), .pointer (some ⟨Bl, 0, none⟩)] (fun x : NodeX w0 B => x.encs) (KpW B C) (fun ys => ys.map NodeX.key = nodesF g 1 v) (fun pre => pre.map NodeX.key <+: nodesF g 1 v) (nodesF g 1 v).length w :=
 fun l J Jx W hW hJa _ hY h0 =>
  nodes1_in l B _ K w0 C hBK hCK J Jx (fun s W1 W2 hs hb => hJa s W1 W2 none hs (growBelow hb) (fun r e => by cases e)) (fun m' pre x W1 hj hl => yield_any (hY pre x W1 hj hl)) g m k b i s A n c A2 n2 c2 v W Bv Bl
   (hcv.kept hW) (hcl.kept hW) h (hB0.trans (hW.mono (Nat.le_trans hBK hK))) (Nat.le_trans hK hW.size) h0 (Nat.le_refl _)
theorem nodes_any (k : Int) (b : Bool) (i : Int) (s : ByteArray) (A : Option Addr) (n c : Nat) (A2 : Option Addr) (n2 c2 : Nat) (lv : Int) (w : World) : Calls Tryz.prog 60 #[.agg #[.int .i64 k, .bool b, .int .i64 i, .string s, .slice A n c, .slice A2 n2 c2], .int .i64 lv] w fun e w' =>
  e = .returned (.func (.func 104) #[] #[.pointer (some ⟨w.heap.size, 0, none⟩), .pointer (some ⟨w.heap.size + 1, 0, none⟩)]) ∧ CellsAt w' w.heap.size [.int .i64 k, .bool b, .int .i64 i, .string s, .slice A n c, .slice A2 n2 c2] ∧ CellsAt w' (w.heap.size + 1) [.int .i64 lv] ∧ Below w.heap.size w w' := by
 go_enter Tryz.func60, Tryz.ntmps60
 go_upto_region 1 with (fail)
 generalize hx_ : World.alloc (World.alloc w _) _ = wo1
 have hO1 : OwnB w wo1 [(w.heap.size + 1, [.int .i64 lv]), (w.heap.size, [.int .i64 k, .bool b, .int .i64 i, .string s, .slice A n c, .slice A2 n2 c2])] := by rw [← hx_]; exact ((OwnB.refl w).new #[.int .i64 k, .bool b, .int .i64 i, .string s, .slice A n c, .slice A2 n2 c2] _ (g := w.heap.size)).new #[.int .i64 lv] _ (g := w.heap.size + 1)
 clear hx_
 have c0_0 := hO1.c 0 0
 have cf0 := hO1.fr 0
 have c1_0 := hO1.c 1 0
 have c1_1 := hO1.c 1 1
 have c1_2 := hO1.c 1 2
 have c1_3 := hO1.c 1 3
 have c1_4 := hO1.c 1 4
 have c1_5 := hO1.c 1 5
 have cf1 := hO1.fr 1
 repeat' (first | go_skip | go_guarded | go_step)
 go_ret
 exact ⟨rfl, (hO1.all 1 _ _ rfl).2, (hO1.all 0 _ _ rfl).2, hO1.below⟩
end Go.Proofs.YtgdapkglofchjaaGreatDoor
namespace Go.Proofs.YtgdapkglofchjaaGreatDoor
open Go.RowKit
open Go.Shelf
attribute [local go_sem] Oper.semAt_some
def CellsB (W : World) (g : Nat) (cs : Array Value) (t : TypeId) : Prop := W.heap[g]? = some (.cells cs t (0, 0))
theorem CellsB.new (W : World) (cs : Array Value) (t : TypeId) : CellsB (W.alloc (.cells cs t)) W.heap.size cs t := World.alloc_heap_new W _
theorem CellsB.lt {W : World} {g : Nat} {cs : Array Value} {t : TypeId} (h : CellsB W g cs t) : g < W.heap.size := (Array.getElem?_eq_some_iff.1 h).1
theorem CellsB.at_ {W : World} {g : Nat} {cs : Array Value} {t : TypeId} (h : CellsB W g cs t) : CellsAt W g cs.toList :=
 ⟨h.lt, fun j u hu => by
  have : cs[j]? = some u := by simpa using hu
  simp [World.cell?, show W.heap[g]? = _ from h, this], fun j => by simp [World.frozen?, show W.heap[g]? = _ from h]⟩
theorem CellsB.kept {W W' : World} {g : Nat} {cs : Array Value} {t : TypeId} {row : Option Nat} (h : CellsB W g cs t) (hg : W.grownBy W' row) (hr : ∀ r, row = some r → ∃ o : Obj, W.heap[r]? = some o ∧ o.isCells = false) : CellsB W' g cs t := by
 refine (hg.block g h.lt (fun e => ?_)).trans h
 obtain ⟨o, ho, hc⟩ := hr g e.symm
 rw [show W.heap[g]? = _ from h] at ho
 cases ho
 cases hc
theorem CellsB.below {W W' : World} {g : Nat} {cs : Array Value} {t : TypeId} (h : CellsB W g cs t) (hb : Below W.heap.size W W') : CellsB W' g cs t := h.kept (row := none) (growBelow hb) (fun r e => by cases e)
theorem boxed_below {W W' : World} {g : Nat} {v : Value} {t : TypeId} (h : Boxed W g t v) (hb : Below W.heap.size W W') : Boxed W' g t v := h.kept (row := none) (growBelow hb) (fun e => by cases e)
theorem keepsOthers_of {W W' : World} (hb : Below W.heap.size W W') : KeepsOthers W W' := ⟨hb.size, fun k o hk _ => by rw [hb.block k (Array.getElem?_eq_some_iff.1 hk).1]; exact hk⟩
theorem vvalid_any (g : Nat) (v : Vl) (k : Int) (b : Bool) (i : Int) (s : ByteArray) (A : Option Addr) (n c : Nat) (A2 : Option Addr) (n2 c2 : Nat) (w : World) (h : RVl g w (fun b => b < w.heap.size) v [.int .i64 k, .bool b, .int .i64 i, .string s, .slice A n c, .slice A2 n2 c2]) :
  Calls Tryz.prog 30 #[.agg #[.int .i64 k, .bool b, .int .i64 i, .string s, .slice A n c, .slice A2 n2 c2]] w fun e w' => e = .returned (.int .i64 (validV v)) ∧ Below w.heap.size w w' := by
 refine (callsIn_wide (n := 9)).1 ?_
 refine callsIn_of_wp_marks Tryz.func30 rfl trivial ?_ rfl
 simp only [Tryz.ntmps30, List.size_toArray, List.length_cons, List.length_nil, Nat.reduceAdd, Nat.reduceSub, Array.replicate_succ, Array.replicate_zero, List.push_toArray, List.append_toArray, List.nil_append, List.cons_append]
 gi_upto_region 1 with (fail)
 generalize hx_ : World.alloc (World.alloc w _) _ = wo1
 have hO1 : OwnB w wo1 [(w.heap.size + 1, [.int .i64 0]), (w.heap.size, [.int .i64 k, .bool b, .int .i64 i, .string s, .slice A n c, .slice A2 n2 c2])] := by rw [← hx_]; exact ((OwnB.refl w).new #[.int .i64 k, .bool b, .int .i64 i, .string s, .slice A n c, .slice A2 n2 c2] _ (g := w.heap.size)).new #[.int .i64 0] _ (g := w.heap.size + 1)
 have bR1 : Boxed wo1 (w.heap.size + 1) 49 (.int .i64 0) := by rw [← hx_]; have := Boxed.new (w.alloc (.cells #[.int .i64 k, .bool b, .int .i64 i, .string s, .slice A n c, .slice A2 n2 c2] 75)) 49 (.int .i64 0); rwa [World.size_alloc] at this
 have hs1 : wo1.heap.size = w.heap.size + 2 := by rw [← hx_]; simp
 clear hx_
 have c0_0 := hO1.c 0 0
 have cf0 := hO1.fr 0
 have c1_0 := hO1.c 1 0
 have c1_1 := hO1.c 1 1
 have c1_2 := hO1.c 1 2
 have c1_3 := hO1.c 1 3
 have c1_4 := hO1.c 1 4
 have c1_5 := hO1.c 1 5
 have cf1 := hO1.fr 1
 repeat' ((fail_if_success gi_at_builtin); (first | gi_guarded | gi_step | gi_upon))
 refine ⟨trivial, ?_⟩
 refine (callsIn_wide.2 (nodes_any k b i s A n c A2 n2 c2 1 _)).mono ?_
 rintro e w2 ⟨rfl, hC1, hC2, hb2⟩
 dsimp only
 have hO2 : OwnB w w2 [(w.heap.size + 1, [.int .i64 0]), (w.heap.size, [.int .i64 k, .bool b, .int .i64 i, .string s, .slice A n c, .slice A2 n2 c2])] := hO1.kept hb2
 clear c0_0 cf0 c1_0 c1_1 c1_2 c1_3 c1_4 c1_5 cf1 hO1
 have c0_0 := hO2.c 0 0
 have cf0 := hO2.fr 0
 have c1_0 := hO2.c 1 0
 have c1_1 := hO2.c 1 1
 have c1_2 := hO2.c 1 2
 have c1_3 := hO2.c 1 3
 have c1_4 := hO2.c 1 4
 have c1_5 := hO2.c 1 5
 have cf1 := hO2.fr 1
 have bR2 := boxed_below bR1 hb2
 have hbw := hO2.below
 have hs2 := hb2.size
 have hst := nodes_stops w.heap.size (w.heap.size + 2) w (fun b => b = w.heap.size + 1) (by omega) (fun b h => by omega) g 8 k b i s A n c A2 n2 c2 v w2 wo1.heap.size (wo1.heap.size + 1) hC1 hC2 h hbw (by omega)
 clear hC1 hC2
 have hdeep := Lib.hid (nodes_valid (deep_of h))
 replace hst := Lib.hid hst
 clear h
 repeat' ((fail_if_success gi_at_builtin); (first | gi_guarded | gi_step | gi_upon))
 refine wpIn_rangeFunc_ownH rfl (by decide) (gf := 104) (lb := #[.pointer (some ⟨wo1.heap.size, 0, none⟩), .pointer (some ⟨wo1.heap.size + 1, 0, none⟩)]) rfl trivial (enters_of Tryz.func104 (by kernel_rfl) rfl)
  hst.out KpW.trans (kpW_b (by omega)) (Below.refl _ _) (fun _ => rfl)
  (fun pre W => (Boxed W (w.heap.size + 1) 49 (.int .i64 0) ∧ Below w.heap.size w W) ∧ ∀ x ∈ pre, nodeE x.key = 0)
  (fun c pre W => Below w.heap.size w W ∧ c = .ret ∧ ∃ p0 x, pre = p0 ++ [x] ∧ (∀ y ∈ p0, nodeE y.key = 0) ∧ nodeE x.key ≠ 0 ∧ Boxed W (w.heap.size + 1) 49 (.int .i64 (nodeE x.key)))
  (OwnFrom.and (OwnFrom.and (Own.from (boxed_own (w.heap.size + 1) 49 (fun (_ : List (NodeX w w.heap.size)) => Value.int .i64 0)) _) (ownFrom_below (Nat.le_refl _) (by omega))) (fun s W W' row hs _ _ => hs))
  (fun c => OwnFrom.and (ownFrom_below (Nat.le_refl _) (by omega)) (fun s W W' row hs hg hr => by
   obtain ⟨h1, p0, x, h2, h3, h4, h5⟩ := hs
   exact ⟨h1, p0, x, h2, h3, h4, boxed_own (w.heap.size + 1) 49 (fun (_ : Unit) => Value.int .i64 (nodeE x.key)) () W W' row h5 hg (fun r e => (hr r e).2)⟩))
  ⟨⟨bR2, hbw⟩, by simp⟩
  (fun x a' W => ∃ Bx, w.heap.size + 1 < Bx ∧ CellsB W Bx x.1.2.2.toArray 75 ∧ a' = { tmps := #[.agg #[.int .i64 k, .bool b, .int .i64 i, .string s, .slice A n c, .slice A2 n2 c2], .pointer (some ⟨w.heap.size, 0, none⟩), .pointer (some ⟨w.heap.size + 1, 0, none⟩), .int .i64 x.1.1, .pointer (some ⟨Bx, 0, none⟩), undef, .agg #[.int .i64 k, .bool b, .int .i64 i, .string s, .slice A n c, .slice A2 n2 c2], .func (.func 104) #[] #[.pointer (some ⟨w.heap.size + 2, 0, none⟩), .pointer (some ⟨w.heap.size + 2 + 1, 0, none⟩)], .int .i64 x.1.1, .agg x.1.2.2.toArray, undef, undef, undef, undef, undef, undef], defers := [] })
  (fun x a' _ X Y row hs hg hr => by obtain ⟨Bx, h1, h2, h3⟩ := hs; exact ⟨Bx, h1, h2.kept hg (fun r e => (hr r e).2), h3⟩)
  ?assign ?body ?done ?stop
 case assign =>
  rintro l pre ⟨⟨lv, xv, cs⟩, gx, hgx⟩ W K ⟨⟨bR3, hB3⟩, hp⟩ hK
  obtain ⟨xk, xb, xi, xs, XA, xn, xc, XB, xn2, xc2, rfl⟩ := vl_form hgx
  repeat' ((fail_if_success gi_at_builtin); (first | gi_guarded | gi_step | gi_upon))
  exact hK _ _ ((KeepsOthers.alloc _ _).from _) (KpW.of ((Below.refl _ W).alloc (Nat.le_refl _) _) hB3.size) ⟨⟨bR3.alloc _, hB3.alloc hB3.size _⟩, hp⟩ ⟨W.heap.size, bR3.lt, CellsB.new W _ _, rfl⟩
 case body =>
  rintro l pre ⟨⟨lv, xv, cs⟩, gx, hgx⟩ a' W hl _ ⟨⟨bR3, hB3⟩, hp⟩ ⟨Bx, hBx, hcx, rfl⟩ hlt
  obtain ⟨xk, xb, xi, xs, XA, xn, xc, XB, xn2, xc2, rfl⟩ := vl_form hgx
  obtain ⟨x0, hx0⟩ : ∃ x0 : NodeX w w.heap.size, x0 = ⟨(lv, xv, [.int .i64 xk, .bool xb, .int .i64 xi, .string xs, .slice XA xn xc, .slice XB xn2 xc2]), gx, hgx⟩ := ⟨_, rfl⟩
  dsimp only
  rw [← hx0]
  obtain ⟨gj, xl, xks, rfl, rfl, hxn, hxn2, hxs, hxs2, hxl⟩ := vl_open hgx
  have hke : nodeE x0.key = ownZ (17 - lv).toNat xk xb xi xs xn xn2 (ascK none xks) := by
   have hkk : x0.key = (lv, .mk xk xb xi xs xl xks) := by rw [hx0]; rfl
   rw [hkk, hxn, hxn2]
   rfl
  have hq2 : SeqP W (fun b => b < W.heap.size) 1 XB xn2 (xks.map Value.string) := hxs2.map (fun _ hq => hB3.cell hq) (fun _ hq => Nat.lt_of_lt_of_le hq hB3.size)
  have hcs : CellsAt W Bx [.int .i64 xk, .bool xb, .int .i64 xi, .string xs, .slice XA xn xc, .slice XB xn2 xc2] := hcx.at_
  have d0 := hcs.cell 0 _ rfl
  have d1 := hcs.cell 1 _ rfl
  have d2 := hcs.cell 2 _ rfl
  have d3 := hcs.cell 3 _ rfl
  have d4 := hcs.cell 4 _ rfl
  have d5 := hcs.cell 5 _ rfl
  replace hxn2 := Lib.hid hxn2
  replace hq2 := Lib.hid hq2
  replace hke := Lib.hid hke
  clear hx0 hgx hxs hxs2 hxn hcs hcx hxl
  repeat' ((fail_if_success gi_at_builtin); (first | gi_guarded | gi_step | gi_upon))
  refine ⟨trivial, ?_⟩
  refine (CallsIn.inRound l (callsIn_wide.2 (node_any xk xb xi xs XA xn xc XB xn2 xc2 xks lv W hxn2.out hq2.out))).mono ?_
  rintro e w7 ⟨rfl, hb7⟩
  rw [← hke.out]
  dsimp only
  have bR7 := boxed_below bR3 hb7
  have hB7 := hB3.trans (hb7.mono hB3.size)
  obtain ⟨oz, hoz⟩ : ∃ oz, oz = nodeE x0.key := ⟨_, rfl⟩
  rw [← hoz]
  by_cases hz : oz = 0
  ·subst hz
   replace hoz := Lib.hid hoz
   repeat' ((fail_if_success gi_at_builtin); (first | gi_guarded | gi_step | gi_upon))
   exact ⟨(keepsOthers_of hb7).from _, KpW.of hb7 hB3.size, ⟨⟨bR7, hB7⟩, fun y hy => (List.mem_append.1 hy).elim (hp y) (fun e => by rw [List.mem_singleton.1 e]; exact hoz.out.symm)⟩⟩
  ·have hz2 : (oz == 0) = false := by simpa using hz
   have cR := bR7.cell
   have fR := bR7.frozen
   replace hoz := Lib.hid hoz
   replace hz := Lib.hid hz
   repeat' ((fail_if_success gi_at_builtin); (first | gi_guarded | gi_step | gi_upon))
   exact ⟨((keepsOthers_of hb7).trans (KeepsOthers.setCell _ _ _)).from _, hB7.setCell (p := ⟨w.heap.size + 1, 0, none⟩) (by simp) _, rfl, pre, x0, rfl, hp, by rw [← hoz.out]; exact hz.out, by rw [← hoz.out]; exact bR7.set _⟩
 case done =>
  rintro D ys W hD hys ⟨⟨bR3, hB3⟩, hp⟩ hK
  have hv : validV v = 0 := by
   rw [← hdeep.out, ← hys, List.map_map]
   exact firstE_all fun x hx => by
    obtain ⟨y, hy, rfl⟩ := List.mem_map.1 hx
    exact hp y hy
  replace hv := Lib.hid hv
  have cR := bR3.cell
  have fR := bR3.frozen
  clear hp hys
  repeat' ((fail_if_success gi_at_builtin); (first | gi_guarded | gi_step | gi_upon))
  have hK' := (KeepsOthers.setCell W ⟨w.heap.size + 1, 0, none⟩ (.int .i64 0)).same D _ hK rfl
  refine ⟨by simp, .inl ⟨_, _, rfl, run_takeDeferred hK', ?_⟩⟩
  have hc5 := cell_kept (bR3.set (.int .i64 0)).cell (grownBy_putObj' _ D (.deferred none)) (fun r e => by cases e; exact ⟨_, hK', rfl⟩)
  refine ⟨.int .i64 0, ?_, by rw [hv.out], (hB3.setCell (p := ⟨w.heap.size + 1, 0, none⟩) (by simp) _).trans (belowK_b (w := w) (Nat.le_refl _) _ D _ _ (by omega) hK' rfl rfl)⟩
  simp [results, Tryz.results30, go_sem, hc5]
 case stop =>
  rintro D c pre W hD hpre ⟨hB3, rfl, p0, x, rfl, hp, hne, bR3⟩ hK
  have hv : validV v = nodeE x.key := by
   obtain ⟨r, hr⟩ := hpre
   rw [← hdeep.out, ← hr, List.map_append, List.map_map, List.map_append, List.append_assoc]
   refine firstE_hit (fun z hz => ?_) hne
   obtain ⟨y, hy, rfl⟩ := List.mem_map.1 hz
   exact hp y hy
  have cR := bR3.cell
  generalize nodeE x.key = oz at *
  replace hv := Lib.hid hv
  clear hp hpre
  repeat' ((fail_if_success gi_at_builtin); (first | gi_guarded | gi_step | gi_upon))
  refine ⟨by simp, .inl ⟨_, _, rfl, run_takeDeferred hK, ?_⟩⟩
  have hc5 := cell_kept cR (grownBy_putObj' _ D (.deferred none)) (fun r e => by cases e; exact ⟨_, hK, rfl⟩)
  refine ⟨.int .i64 oz, ?_, by rw [hv.out], hB3.trans (belowK_b (w := w) (Nat.le_refl _) W D _ _ (by omega) hK rfl rfl)⟩
  simp [results, Tryz.results30, go_sem, hc5]
end Go.Proofs.YtgdapkglofchjaaGreatDoor
namespace Go.Proofs.YtgdapkglofchjaaGreatDoor
open Go.RowKit
theorem wpList_build1 {P : Program} {ops : Array Oper} {rest : List Oper} {o : Oper} {a : Act} {w : World} {Q : Exit → Act → World → Prop} (hg : o.guard = none) (t : TypeId) (parts : Array (Nat × Operand)) (ho : o.op = .build t parts) {cells : Array Value}
  (hf : P.built t (parts.map fun (i, x) => (i, a.eval x)).toList = some cells) (h : wpList P ops Q rest (a.put o.dst (.agg cells)) w) : wpList P ops Q (o :: rest) a w := by
 refine wpList_build hg t parts ho (by rw [hf]; rfl) ?_
 rw [hf]
 exact h
theorem zero_ev (w : World) : EvR w zeroFs evZ := ⟨evZ_rd, by decide +kernel⟩
theorem ev_parts {w : World} {fs : List FV} {E : List Value} (h : EvR w fs E) : ∃ (k t : Int) (m : List FV) (A : Option Addr) (c : Nat), IsInt k ∧ IsInt t ∧ fs[0]? = some (fI k) ∧ fs.getD 0 (fI 0) = fI k ∧ fs.getD 1 (fI 0) = fI t ∧ fs.getD 10 (fI 0) = fL m ∧ fsz (fL m) < lsz fs ∧
  E[0]? = some (.int .i64 k) ∧ E[1]? = some (.int .i64 t) ∧ E[12]? = some (.slice A m.length c) ∧ RSlice Cod.vari.rp 7 w (fun b => b < w.heap.size) A m.length c m := by
 obtain ⟨hr, hs⟩ := h
 obtain ⟨f1, r1, k1, d1, rfl, rfl, ⟨k, hk, rfl, rfl⟩, hr⟩ := hr
 obtain ⟨f2, r2, k2, d2, rfl, rfl, ⟨t, ht, rfl, rfl⟩, hr⟩ := hr
 obtain ⟨f3, r3, k3, d3, rfl, rfl, q3, hr⟩ := hr
 obtain ⟨v3, rfl⟩ := one_list (Cod.str_ok.len q3)
 obtain ⟨f4, r4, k4, d4, rfl, rfl, q4, hr⟩ := hr
 obtain ⟨v4, rfl⟩ := one_list (Cod.str_ok.len q4)
 obtain ⟨f5, r5, k5, d5, rfl, rfl, q5, hr⟩ := hr
 obtain ⟨v5, rfl⟩ := one_list (Cod.int_ok.len q5)
 obtain ⟨f6, r6, k6, d6, rfl, rfl, q6, hr⟩ := hr
 obtain ⟨v6, rfl⟩ := one_list (Cod.int_ok.len q6)
 obtain ⟨f7, r7, k7, d7, rfl, rfl, q7, hr⟩ := hr
 obtain ⟨v7, rfl⟩ := one_list (Cod.int_ok.len q7)
 obtain ⟨f8, r8, k8, d8, rfl, rfl, q8, hr⟩ := hr
 obtain ⟨v8, rfl⟩ := one_list (Cod.str_ok.len q8)
 obtain ⟨f9, r9, k9, d9, rfl, rfl, q9, hr⟩ := hr
 obtain ⟨v9, rfl⟩ := one_list (Cod.str_ok.len q9)
 obtain ⟨f10, r10, k10, d10, rfl, rfl, q10, hr⟩ := hr
 have n10 : k10.length = 3 := Cod.origin_ok.len q10
 obtain ⟨f11, r11, k11, d11, rfl, rfl, ⟨m, A, c, rfl, rfl, hm⟩, hr⟩ := hr
 match k10, n10 with
 | [x, y, z], _ => exact ⟨k, t, m, A, c, hk, ht, rfl, rfl, rfl, rfl, fsz_mem (by simp), rfl, rfl, rfl, hm⟩
theorem firstE_drop {l : List Int} {i : Nat} {x : Int} (h : l[i]? = some x) : firstE (l.drop i) = if x ≠ 0 then x else firstE (l.drop (i + 1)) := by
 obtain ⟨hi, he⟩ := List.getElem?_eq_some_iff.1 h
 rw [List.drop_eq_getElem_cons hi, he]; rfl
theorem pvalid_any (fs : List FV) (E : List Value) (w : World) (h : EvR w fs E) (hs9 : lsz fs ≤ 900000000) : Calls Tryz.prog 13 #[.agg E.toArray] w fun e w' => e = .returned (.int .i64 (validF fs)) ∧ Below w.heap.size w w' := by
 obtain ⟨k, t, m, A, c, hk, ht, hf0, g0, g1, g10, hms, e0, e1, e12, hR⟩ := ev_parts h
 rw [fsz_fL] at hms
 have hml := lsz_length m
 have hl := h.len
 have hi := ev_info hl
 by_cases k0 : k < 1
 ·skip
  go_enter Tryz.func13, Tryz.ntmps13
  go_upto_region 1 with (fail)
  have hA : (w.alloc (.cells E.toArray 43)).rangeAt w.heap.size 0 E := at_new w E 43
  have hlt0 : w.heap.size < (w.alloc (.cells E.toArray 43)).heap.size := by simp
  have hb0 := (Below.refl w.heap.size w).alloc (Nat.le_refl _) (.cells E.toArray 43)
  generalize World.alloc w _ = w1 at *
  have c0 : w1.cell? ⟨w.heap.size, 0, none⟩ = some (.int .i64 k) := hA 0 _ e0
  have c1 : w1.cell? ⟨w.heap.size, 1, none⟩ = some (.int .i64 t) := hA 1 _ e1
  have c12 : w1.cell? ⟨w.heap.size, 12, none⟩ = some (.slice A m.length c) := hA 12 _ e12
  repeat' (first | go_skip | go_guarded | go_step)
  go_ret
  have hv : validF fs = 1 := by unfold validF; rw [g0, g1]; rw [if_pos (Or.inl k0)]
  exact ⟨by rw [hv] <;> rfl, hb0⟩
 by_cases k1 : 15 < k
 ·skip
  go_enter Tryz.func13, Tryz.ntmps13
  go_upto_region 1 with (fail)
  have hA : (w.alloc (.cells E.toArray 43)).rangeAt w.heap.size 0 E := at_new w E 43
  have hlt0 : w.heap.size < (w.alloc (.cells E.toArray 43)).heap.size := by simp
  have hb0 := (Below.refl w.heap.size w).alloc (Nat.le_refl _) (.cells E.toArray 43)
  generalize World.alloc w _ = w1 at *
  have c0 : w1.cell? ⟨w.heap.size, 0, none⟩ = some (.int .i64 k) := hA 0 _ e0
  have c1 : w1.cell? ⟨w.heap.size, 1, none⟩ = some (.int .i64 t) := hA 1 _ e1
  have c12 : w1.cell? ⟨w.heap.size, 12, none⟩ = some (.slice A m.length c) := hA 12 _ e12
  repeat' (first | go_skip | go_guarded | go_step)
  go_ret
  have hv : validF fs = 1 := by unfold validF; rw [g0, g1]; rw [if_pos (Or.inr k1)]
  exact ⟨by rw [hv] <;> rfl, hb0⟩
 by_cases t0 : t < 0
 ·skip
  go_enter Tryz.func13, Tryz.ntmps13
  go_upto_region 1 with (fail)
  have hA : (w.alloc (.cells E.toArray 43)).rangeAt w.heap.size 0 E := at_new w E 43
  have hlt0 : w.heap.size < (w.alloc (.cells E.toArray 43)).heap.size := by simp
  have hb0 := (Below.refl w.heap.size w).alloc (Nat.le_refl _) (.cells E.toArray 43)
  generalize World.alloc w _ = w1 at *
  have c0 : w1.cell? ⟨w.heap.size, 0, none⟩ = some (.int .i64 k) := hA 0 _ e0
  have c1 : w1.cell? ⟨w.heap.size, 1, none⟩ = some (.int .i64 t) := hA 1 _ e1
  have c12 : w1.cell? ⟨w.heap.size, 12, none⟩ = some (.slice A m.length c) := hA 12 _ e12
  repeat' (first | go_skip | go_guarded | go_step)
  go_ret
  have hv : validF fs = 2 := by unfold validF; rw [g0, g1]; rw [if_neg (show ¬ (k < 1 ∨ 15 < k) from fun h => h.elim k0 k1), if_pos (Or.inl t0)]
  exact ⟨by rw [hv] <;> rfl, hb0⟩
 by_cases t1 : 1125899906842624 < t
 ·skip
  go_enter Tryz.func13, Tryz.ntmps13
  go_upto_region 1 with (fail)
  have hA : (w.alloc (.cells E.toArray 43)).rangeAt w.heap.size 0 E := at_new w E 43
  have hlt0 : w.heap.size < (w.alloc (.cells E.toArray 43)).heap.size := by simp
  have hb0 := (Below.refl w.heap.size w).alloc (Nat.le_refl _) (.cells E.toArray 43)
  generalize World.alloc w _ = w1 at *
  have c0 : w1.cell? ⟨w.heap.size, 0, none⟩ = some (.int .i64 k) := hA 0 _ e0
  have c1 : w1.cell? ⟨w.heap.size, 1, none⟩ = some (.int .i64 t) := hA 1 _ e1
  have c12 : w1.cell? ⟨w.heap.size, 12, none⟩ = some (.slice A m.length c) := hA 12 _ e12
  repeat' (first | go_skip | go_guarded | go_step)
  go_ret
  have hv : validF fs = 2 := by unfold validF; rw [g0, g1]; rw [if_neg (show ¬ (k < 1 ∨ 15 < k) from fun h => h.elim k0 k1), if_pos (Or.inr t1)]
  exact ⟨by rw [hv] <;> rfl, hb0⟩
 obtain ⟨K, rfl⟩ : ∃ K : Nat, k = (K : Int) := ⟨k.toNat, by omega⟩
 have hV : validF fs = if eqF (ofL (restF K fs)) (ofL zeroFs) = false then 1 else firstE (m.map varV) := by
  unfold validF argsV
  rw [g0, g1, g10, if_neg (show ¬ ((K : Int) < 1 ∨ 15 < (K : Int)) from fun h => h.elim k0 k1), if_neg (show ¬ (t < 0 ∨ 1125899906842624 < t) from fun h => h.elim t0 t1)]
  simp only [toL_ofL, Int.toNat_natCast]
 go_enter Tryz.func13, Tryz.ntmps13
 go_upto_region 1 with (fail)
 have hA : (w.alloc (.cells E.toArray 43)).rangeAt w.heap.size 0 E := at_new w E 43
 have hlt0 : w.heap.size < (w.alloc (.cells E.toArray 43)).heap.size := by simp
 have hb0 := (Below.refl w.heap.size w).alloc (Nat.le_refl _) (.cells E.toArray 43)
 generalize World.alloc w _ = w1 at *
 have c0 : w1.cell? ⟨w.heap.size, 0, none⟩ = some (.int .i64 (K : Int)) := hA 0 _ e0
 have c1 : w1.cell? ⟨w.heap.size, 1, none⟩ = some (.int .i64 t) := hA 1 _ e1
 have c12 : w1.cell? ⟨w.heap.size, 12, none⟩ = some (.slice A m.length c) := hA 12 _ e12
 replace hR := Lib.hid hR
 replace hV := Lib.hid hV
 repeat' (first | (refine wpList_load_mid rfl 43 _ rfl w.heap.size 0 rfl E _ hA Tryz.underlying43 rfl hi ?_) | (refine wpList_build1 rfl 43 _ rfl (cells := evZ.toArray) (by kernel_rfl) ?_) | go_skip | go_guarded | go_step)
 refine (prest_any K (by omega) (by omega) fs E w1 (h.up hb0) hf0).mono ?_
 rintro e w2 ⟨E2, rfl, hr2, hb2⟩
 dsimp only
 have hA2 := range_up hA hb2 hlt0
 repeat' (first | (refine wpList_load_mid rfl 43 _ rfl w.heap.size 0 rfl E _ hA2 Tryz.underlying43 rfl hi ?_) | (refine wpList_build1 rfl 43 _ rfl (cells := evZ.toArray) (by kernel_rfl) ?_) | go_skip | go_guarded | go_step)
 refine (psame_ev (restF K fs) zeroFs E2 evZ w2 ⟨hr2, by have := restF_sz fs K; omega⟩ (zero_ev w2)).mono ?_
 rintro e w3 ⟨rfl, hb3⟩
 dsimp only
 have hA3 := range_up hA2 hb3 (Nat.lt_of_lt_of_le hlt0 hb2.size)
 have hbw : Below w.heap.size w w3 := hb0.trans ((hb2.trans (hb3.mono hb2.size)).mono hb0.size)
 have hlt3 : w.heap.size < w3.heap.size := Nat.lt_of_lt_of_le hlt0 (Nat.le_trans hb2.size hb3.size)
 clear c0 c1 c12 hA2 hb2 hb3 hr2 hA
 have c12 : w3.cell? ⟨w.heap.size, 12, none⟩ = some (.slice A m.length c) := hA3 12 _ e12
 cases hq : eqF (ofL (restF K fs)) (ofL zeroFs) with
 | false =>
  repeat' (first | go_skip | go_guarded | go_step)
  go_ret
  exact ⟨by rw [hV.out, if_pos hq] <;> rfl, hbw⟩
 | true =>
  have hV2 : validF fs = firstE (m.map varV) := by rw [hV.out, if_neg (by rw [hq]; decide)]
  clear hV hq
  replace hV2 := Lib.hid hV2
  repeat' (first | go_skip | go_guarded | go_step)
  go_loopw [33] (fun u33 wr => ∃ i : Nat, i ≤ m.length ∧ u33 = .int .i64 (i : Int) ∧ Below w3.heap.size w3 wr ∧ validF fs = firstE ((m.map varV).drop i)) (fun u33 _ => m.length - (intOf u33).toNat)
  case atStart => exact ⟨0, Nat.zero_le _, rfl, Below.refl _ _, by rw [List.drop_zero]; exact hV2.out⟩
  case round =>
   clear hV2
   obtain ⟨i, hi2, rfl, hbr, hu⟩ := hrel
   have hbx : Below w.heap.size w wr := hbw.trans (hbr.mono hbw.size)
   replace c12 := (hbr.cell (p := ⟨w.heap.size, 12, none⟩) hlt3).trans c12
   by_cases hlt : i < m.length
   ·obtain ⟨x, hx⟩ : ∃ x, m[i]? = some x := ⟨_, List.getElem?_eq_getElem hlt⟩
    obtain ⟨b, o, c1_, rfl, hb, hcl, hrx, hat⟩ := hR.out.at_ hx
    have hat' : wr.rangeAt b (o + i * 7) c1_ := fun j u hj => (hbx.cell (p := ⟨b, o + i * 7 + j, none⟩) hb).trans (hat j u hj)
    clear hat
    have hsx : fsz x ≤ 1000000000 := by have := fsz_mem (List.mem_of_getElem? hx); omega
    obtain ⟨ff, rfl, hrr⟩ := hrx
    obtain ⟨f1, r1, q1, d1, rfl, rfl, ⟨s1, rfl, rfl⟩, hrr⟩ := hrr
    obtain ⟨f2, r2, q2, d2, rfl, rfl, ⟨gg, hv2⟩, hrr⟩ := hrr
    obtain ⟨rfl, rfl⟩ := hrr
    rw [fsz_fL] at hsx
    have hs2 : fsz f2 ≤ 1000000000 := by have := fsz_mem (l := [fS s1, f2]) (f := f2) (by simp); omega
    have hvl := val_rvl gg _ _ _ _ hv2 hs2
    clear hv2
    have hu2 := firstE_drop (l := m.map varV) (i := i) (x := varV (fL [fS s1, f2])) (by rw [List.getElem?_map, hx]; rfl)
    rw [varV_mk] at hu2
    obtain ⟨vk, vb, vi, vs, VA, vn, vc, VA2, vn2, vc2, rfl⟩ := vl_form hvl
    have hvl2 : RVl gg wr (fun b => b < wr.heap.size) (vl1 f2) _ := RVl_ok gg _ _ _ _ _ _ (fun p hp => hbx.cell hp) (fun b hb => Nat.lt_of_lt_of_le hb hbx.size) hvl
    clear hvl
    have y0 : wr.cell? ⟨b, o + i * 7, none⟩ = some (.string s1) := hat' 0 _ rfl
    have y1 : wr.cell? ⟨b, o + i * 7 + 1, none⟩ = some (.int .i64 vk) := hat' 1 _ rfl
    have y2 : wr.cell? ⟨b, o + i * 7 + 2, none⟩ = some (.bool vb) := hat' 2 _ rfl
    have y3 : wr.cell? ⟨b, o + i * 7 + 3, none⟩ = some (.int .i64 vi) := hat' 3 _ rfl
    have y4 : wr.cell? ⟨b, o + i * 7 + 4, none⟩ = some (.string vs) := hat' 4 _ rfl
    have y5 : wr.cell? ⟨b, o + i * 7 + 5, none⟩ = some (.slice VA vn vc) := hat' 5 _ rfl
    have y6 : wr.cell? ⟨b, o + i * 7 + 6, none⟩ = some (.slice VA2 vn2 vc2) := hat' 6 _ rfl
    clear hat'
    rw [hu2] at hu
    clear hu2
    generalize hcode : validV (vl1 f2) = code at hu
    replace hcode := Lib.hid hcode
    have i1 : (0 : Int) ≤ (i : Int) := by omega
    have i2 : (i : Int) < (m.length : Int) := by omega
    go_upto_region 10 with (fail)
    generalize hx_ : World.alloc wr _ = wo1
    have hO1 : OwnB wr wo1 [(wr.heap.size, [.string s1, .int .i64 vk, .bool vb, .int .i64 vi, .string vs, .slice VA vn vc, .slice VA2 vn2 vc2])] := by rw [← hx_]; exact (OwnB.refl wr).new #[.string s1, .int .i64 vk, .bool vb, .int .i64 vi, .string vs, .slice VA vn vc, .slice VA2 vn2 vc2] _ (g := wr.heap.size)
    have hbn : Below wr.heap.size wr wo1 := by rw [← hx_]; exact (Below.refl _ _).alloc (Nat.le_refl _) _
    have zwo1 : wo1.heap.size = wr.heap.size + 1 := by rw [← hx_]; simp
    clear hx_
    have c0_0 := hO1.c 0 0
    have c0_1 := hO1.c 0 1
    have c0_2 := hO1.c 0 2
    have c0_3 := hO1.c 0 3
    have c0_4 := hO1.c 0 4
    have c0_5 := hO1.c 0 5
    have c0_6 := hO1.c 0 6
    have cf0 := hO1.fr 0
    clear hbn
    have hb5 := hO1.below
    clear zwo1
    repeat' (first | go_skip | go_guarded | go_step)
    refine (vvalid_any gg (vl1 f2) vk vb vi vs VA vn vc VA2 vn2 vc2 wo1 (RVl.at_ hvl2 hb5)).mono ?_
    rintro e w6 ⟨rfl, hb6⟩
    dsimp only
    rw [hcode.out]
    have hbz : Below w3.heap.size w3 w6 := hbr.trans ((hb5.trans (hb6.mono hb5.size)).mono hbr.size)
    clear hb5 hb6 hvl2 y0 y1 y2 y3 y4 y5 y6
    clear c0_0 c0_1 c0_2 c0_3 c0_4 c0_5 c0_6 cf0 hO1
    by_cases hz : code = 0
    ·subst hz
     rw [if_neg (by decide)] at hu
     have c12' : w6.cell? ⟨w.heap.size, 12, none⟩ = some (.slice (some ⟨b, o, none⟩) m.length c) := (same_at hbr hbz (p := ⟨w.heap.size, 12, none⟩) hlt3).trans c12
     clear c12
     have i3 : IntKind.i64.wrap ((i : Int) + 1) = (i : Int) + 1 := IntWalk.i64_in _ (by omega)
     repeat' (first | go_skip | go_guarded | go_step)
     go_roundw
     case rel => exact ⟨i + 1, by omega, by congr 1, hbz, hu⟩
     case measure => simp [intOf]; omega
    ·rw [if_pos hz] at hu
     have z1 : (code == 0) = false := by simpa using hz
     have z2 : (code != 0) = true := by simpa using hz
     clear hz
     repeat' (first | go_skip | go_guarded | go_step)
     go_ret
     exact ⟨by rw [hu] <;> rfl, hbw.trans (hbz.mono hbw.size)⟩
   ·rw [List.drop_of_length_le (by rw [List.length_map]; omega)] at hu
    repeat' (first | go_skip | go_guarded | go_step)
    go_ret
    exact ⟨by rw [hu] <;> rfl, hbx⟩
end Go.Proofs.YtgdapkglofchjaaGreatDoor
