/- Deploy: lists of strings; Has, busy, out. -/
import Derived.Test.YtennhjkhjplmoaaDoorDpV
import Derived.Test.YtennhjkhjplmoaaDoorDpM
import Derived.Test.YtennhjkhjplmoaaDoorIdN
import Derived.Test.YtennhjkhjplmoaaDoorCmpR
import Derived.BigQuiet
namespace Go.Proofs.YtennhjkhjplmoaaDoor
open Go.RowKit
abbrev strT : TypeId := 9
/-- a string's cell -/
def rB : Rd ByteArray := fun _ _ s cs => cs = [.string s]
theorem rB_ok : RdOk rB := fun _ _ _ _ _ _ _ _ h => h
theorem rB_one : RdOne rB := by
  rintro w S x cs rfl u hu
  simp at hu
  subst hu
  rfl
theorem strB_at {w : World} {S : Nat → Prop} {A : Option Addr} {n c i : Nat} {l : List ByteArray} {x : ByteArray} (h : RSlice rB 1 w S A n c l) (hx : l[i]? = some x) : ∃ b o, A = some ⟨b, o, none⟩ ∧ S b ∧ w.cell? ⟨b, o + i, none⟩ = some (.string x) := by
  obtain ⟨b, o, cs, hA, hb, _, rfl, hc⟩ := h.at_ hx
  have := hc 0 _ rfl
  rw [Nat.mul_one, Nat.add_zero] at this
  exact ⟨b, o, hA, hb, this⟩
theorem RSlice.upB {α : Type} {r : Rd α} (hr : RdOk r) {sz : Nat} {w w' : World} {A : Option Addr} {n c : Nat} {l : List α} (h : RSlice r sz w (fun b => b < w.heap.size) A n c l) (hb : Below w.heap.size w w') : RSlice r sz w' (fun b => b < w'.heap.size) A n c l :=
  (h.below hr hb).more hr (fun _ hp => Nat.lt_of_lt_of_le hp hb.size)
/-- an own row of strings lies in a new block -/
theorem ownB_new {w0 w : World} {e : TypeId} {A : Option Addr} {n c : Nat} {l : List ByteArray} (H : OwnR rB 1 w0 w e (.slice A n c) l) (hn : n = l.length) : RSlice rB 1 w (fun b => w0.heap.size ≤ b ∧ b < w.heap.size) A n c l := by
  subst hn
  have h := H.slice rB_ok
  obtain ⟨h1, h2, h3, cs, ⟨h4, h5⟩, h6⟩ := h
  refine ⟨h1, h2, h3, cs, ⟨h4, fun hp => ?_⟩, RList.map (r := rB) (w := w) (S := fun b => b < w.heap.size) (S' := fun b => w0.heap.size ≤ b ∧ b < w.heap.size) (fun x c hc => hc) h6⟩
  obtain ⟨g, rfl, hg1, hg2, _⟩ := H.head rfl hp
  obtain ⟨b, o, hA, hb, hc⟩ := h5 hp
  injection hA with hA
  injection hA with hA1 hA2
  subst hA1
  exact ⟨g, o, by rw [hA2], ⟨hg1, hg2⟩, hc⟩
theorem eqB_raw (a b : ByteArray) : (a.toList == b.toList) = eqB a b := rfl
set_option maxRecDepth 100000 in
set_option maxHeartbeats 2000000 in
theorem refHas_any (l : List ByteArray) (s : ByteArray) (A : Option Addr) (n c : Nat) (w : World) (h : RSlice rB 1 w (fun b => b < w.heap.size) A n c l) (hl : l.length ≤ 1000000) :
    Calls Tryd.prog 80 #[.slice A n c, .string s] w fun e w' => e = .returned (.bool (hasB l s)) ∧ w' = w := by
  go_enter Tryd.func80, Tryd.ntmps80
  have hn := h.1
  replace hn := Lib.hid hn
  repeat' ((fail_if_success at_builtin); (first | go_skip | go_guarded | go_step))
  go_loopw [5] (fun u5 wr => ∃ i : Nat, i ≤ n ∧ u5 = .int .i64 (i : Int) ∧ wr = w ∧ hasB (l.take i) s = false) (fun u5 _ => n - (intOf u5).toNat)
  case atStart => exact ⟨0, by omega, rfl, rfl, by simp [hasB]⟩
  case round =>
    obtain ⟨i, hi, rfl, rfl, hp⟩ := hrel
    have i0 : (0 : Int) ≤ (i : Int) := by omega
    have i2 : IntKind.i64.wrap ((i : Int) + 1) = (i : Int) + 1 := IntWalk.i64_in _ (by have := hn.out; omega)
    by_cases hlt : i < n
    · have i1 : (i : Int) < (n : Int) := by omega
      obtain ⟨x, hx⟩ : ∃ x, l[i]? = some x := ⟨_, List.getElem?_eq_getElem (by have := hn.out; omega)⟩
      obtain ⟨g, o, rfl, hg, e0⟩ := strB_at h hx
      have hm := List.mem_of_getElem? hx
      have hnx : hasB (l.take (i + 1)) s = eqB x s := by
        unfold hasB at hp ⊢
        rw [List.take_add_one, hx, List.any_append, hp]
        simp
      cases hv : eqB x s with
      | true =>
        have hq : (x.toList == s.toList) = true := hv
        have hr : hasB l s = true := List.any_eq_true.2 ⟨x, hm, hv⟩
        replace hr := Lib.hid hr
        clear hp hx hnx hv
        repeat' ((fail_if_success at_builtin); (first | go_skip | go_guarded | go_step))
        go_ret
        exact ⟨by rw [hr.out]; rfl, rfl⟩
      | false =>
        have hq : (x.toList == s.toList) = false := hv
        rw [hv] at hnx
        replace hnx := Lib.hid hnx
        clear hp hx hv
        repeat' ((fail_if_success at_builtin); (first | go_skip | go_guarded | go_step))
        go_roundw
        case rel => exact ⟨i + 1, by omega, by first | rfl | go_num, by first | rfl | trivial, hnx.out⟩
        case measure => (try go_num); (try simp [intOf]); (try omega)
    · have i1 : ¬ (i : Int) < (n : Int) := by omega
      have hr : hasB l s = false := by
        rw [List.take_of_length_le (by have := hn.out; omega)] at hp
        exact hp
      replace hr := Lib.hid hr
      clear hp
      repeat' ((fail_if_success at_builtin); (first | go_skip | go_guarded | go_step))
      go_ret
      exact ⟨by rw [hr.out]; rfl, rfl⟩
/-- two turns in memory -/
structure TwoT (w : World) (p : Turn × Turn) (A1 : Option Addr) (c1 : Nat) (A2 : Option Addr) (c2 : Nat) (B1 : Option Addr) (d1 : Nat) (B2 : Option Addr) (d2 : Nat) : Prop where
  w1 : RSlice rB 1 w (fun b => b < w.heap.size) A1 p.1.waiting.length c1 p.1.waiting
  h1 : RSlice rB 1 w (fun b => b < w.heap.size) A2 p.1.held.length c2 p.1.held
  w2 : RSlice rB 1 w (fun b => b < w.heap.size) B1 p.2.waiting.length d1 p.2.waiting
  h2 : RSlice rB 1 w (fun b => b < w.heap.size) B2 p.2.held.length d2 p.2.held
theorem TwoT.below {w w' : World} {p : Turn × Turn} {A1 : Option Addr} {c1 : Nat} {A2 : Option Addr} {c2 : Nat} {B1 : Option Addr} {d1 : Nat} {B2 : Option Addr} {d2 : Nat} (h : TwoT w p A1 c1 A2 c2 B1 d1 B2 d2) (hb : Below w.heap.size w w') : TwoT w' p A1 c1 A2 c2 B1 d1 B2 d2 := ⟨h.w1.upB rB_ok hb, h.h1.upB rB_ok hb, h.w2.upB rB_ok hb, h.h2.upB rB_ok hb⟩
set_option maxRecDepth 100000 in
set_option maxHeartbeats 4000000 in
theorem busy_any (p : Turn × Turn) (A1 : Option Addr) (c1 : Nat) (A2 : Option Addr) (c2 : Nat) (B1 : Option Addr) (d1 : Nat) (B2 : Option Addr) (d2 : Nat) (j : ByteArray) (w : World) (h : TwoT w p A1 c1 A2 c2 B1 d1 B2 d2) (hl1 : p.1.waiting.length ≤ 1000000) (hl2 : p.2.waiting.length ≤ 1000000) :
    Calls Tryd.prog 57 #[.agg #[.string p.1.holder, .slice A1 p.1.waiting.length c1, .slice A2 p.1.held.length c2, .string p.2.holder, .slice B1 p.2.waiting.length d1, .slice B2 p.2.held.length d2], .string j] w fun e w' => e = .returned (.bool (busyT p j)) ∧ Below w.heap.size w w' := by
  go_enter Tryd.func57, Tryd.ntmps57
  go_upto_region 1 with (fail)
  generalize hx_ : World.alloc w _ = wo1
  have hO1 : OwnB w wo1 [(w.heap.size, [.string p.1.holder, .slice A1 p.1.waiting.length c1, .slice A2 p.1.held.length c2, .string p.2.holder, .slice B1 p.2.waiting.length d1, .slice B2 p.2.held.length d2])] := by rw [← hx_]; exact (OwnB.refl w).new #[.string p.1.holder, .slice A1 p.1.waiting.length c1, .slice A2 p.1.held.length c2, .string p.2.holder, .slice B1 p.2.waiting.length d1, .slice B2 p.2.held.length d2] _ (g := w.heap.size)
  have hbn : Below w.heap.size w wo1 := by rw [← hx_]; exact (Below.refl _ _).alloc (Nat.le_refl _) _
  have zwo1 : w.heap.size + 0 < wo1.heap.size := by rw [← hx_]; simp <;> omega
  clear hx_
  have c0_0 : wo1.cell? ⟨w.heap.size, 0, none⟩ = some (.string p.1.holder) := hO1.c 0 0
  have c0_1 : wo1.cell? ⟨w.heap.size, 1, none⟩ = some (.slice A1 p.1.waiting.length c1) := hO1.c 0 1
  have c0_2 : wo1.cell? ⟨w.heap.size, 2, none⟩ = some (.slice A2 p.1.held.length c2) := hO1.c 0 2
  have c0_3 : wo1.cell? ⟨w.heap.size, 3, none⟩ = some (.string p.2.holder) := hO1.c 0 3
  have c0_4 : wo1.cell? ⟨w.heap.size, 4, none⟩ = some (.slice B1 p.2.waiting.length d1) := hO1.c 0 4
  have c0_5 : wo1.cell? ⟨w.heap.size, 5, none⟩ = some (.slice B2 p.2.held.length d2) := hO1.c 0 5
  have cf0 := hO1.fr 0
  clear hbn
  have hbz := hO1.below
  have hT := h.below hbz
  have hm : busyT p j = (eqB p.1.holder j || eqB p.2.holder j || hasB p.1.waiting j || hasB p.2.waiting j) := rfl
  cases h1 : eqB p.1.holder j with
  | true =>
    have q1 : (p.1.holder.toList == j.toList) = true := h1
    rw [h1] at hm
    simp only [Bool.true_or] at hm
    replace hm := Lib.hid hm
    clear h1
    repeat' ((fail_if_success at_builtin); (first | go_skip | go_guarded | go_step))
    go_ret
    exact ⟨by rw [hm.out]; rfl, hbz⟩
  | false =>
    have q1 : (p.1.holder.toList == j.toList) = false := h1
    rw [h1, Bool.false_or] at hm
    clear h1
    cases h2 : eqB p.2.holder j with
    | true =>
      have q2 : (p.2.holder.toList == j.toList) = true := h2
      rw [h2] at hm
      simp only [Bool.true_or] at hm
      replace hm := Lib.hid hm
      clear h2
      repeat' ((fail_if_success at_builtin); (first | go_skip | go_guarded | go_step))
      go_ret
      exact ⟨by rw [hm.out]; rfl, hbz⟩
    | false =>
      have q2 : (p.2.holder.toList == j.toList) = false := h2
      rw [h2, Bool.false_or] at hm
      clear h2
      have C := refHas_any p.1.waiting j A1 p.1.waiting.length c1 wo1 hT.w1 hl1
      cases h3 : hasB p.1.waiting j with
      | true =>
        rw [h3] at C hm
        simp only [Bool.true_or] at hm
        replace hm := Lib.hid hm
        replace C := Lib.hid C
        repeat' ((fail_if_success at_builtin); (first | go_skip | go_guarded | go_step))
        refine C.out.mono ?_
        clear C
        rintro e w2 ⟨rfl, hw2⟩
        subst w2
        dsimp only
        repeat' ((fail_if_success at_builtin); (first | go_skip | go_guarded | go_step))
        go_ret
        exact ⟨by rw [hm.out]; rfl, hbz⟩
      | false =>
        rw [h3] at C hm
        rw [Bool.false_or] at hm
        replace hm := Lib.hid hm
        replace C := Lib.hid C
        repeat' ((fail_if_success at_builtin); (first | go_skip | go_guarded | go_step))
        refine C.out.mono ?_
        clear C
        rintro e w2 ⟨rfl, hw2⟩
        subst w2
        dsimp only
        have C := refHas_any p.2.waiting j B1 p.2.waiting.length d1 wo1 hT.w2 hl2
        replace C := Lib.hid C
        repeat' ((fail_if_success at_builtin); (first | go_skip | go_guarded | go_step))
        refine C.out.mono ?_
        clear C
        rintro e w2 ⟨rfl, hw2⟩
        subst w2
        dsimp only
        repeat' ((fail_if_success at_builtin); (first | go_skip | go_guarded | go_step))
        go_ret
        exact ⟨by rw [hm.out]; rfl, hbz⟩
set_option maxRecDepth 100000 in
set_option maxHeartbeats 4000000 in
theorem out_any (l : List ByteArray) (s : ByteArray) (A : Option Addr) (n c : Nat) (w : World) (h : RSlice rB 1 w (fun b => b < w.heap.size) A n c l) (hl : l.length ≤ 1000000) :
    Calls Tryd.prog 58 #[.slice A n c, .string s] w fun e w' => ∃ A' c', e = .returned (.slice A' (outB l s).length c') ∧ Below w.heap.size w w' ∧ RSlice rB 1 w' (fun b => w.heap.size ≤ b ∧ b < w'.heap.size) A' (outB l s).length c' (outB l s) := by
  go_enter Tryd.func58, Tryd.ntmps58
  have hn := h.1
  replace hn := Lib.hid hn
  repeat' ((fail_if_success at_builtin); (first | go_skip | go_guarded | go_step))
  go_loopw [5, 6] (fun u5 u6 wr => ∃ i : Nat, i ≤ n ∧ u6 = .int .i64 (i : Int) ∧ OwnR rB 1 w wr strT u5 (outB (l.take i) s)) (fun _ u6 _ => n - (intOf u6).toNat)
  case atStart => exact ⟨0, by omega, rfl, OwnR.nil w strT⟩
  case round =>
    obtain ⟨i, hi, rfl, hO⟩ := hrel
    have i0 : (0 : Int) ≤ (i : Int) := by omega
    have i2 : IntKind.i64.wrap ((i : Int) + 1) = (i : Int) + 1 := IntWalk.i64_in _ (by have := hn.out; omega)
    have hb := hO.bel
    obtain ⟨A5, c5, rfl⟩ := hO.form
    by_cases hlt : i < n
    · have i1 : (i : Int) < (n : Int) := by omega
      obtain ⟨x, hx⟩ : ∃ x, l[i]? = some x := ⟨_, List.getElem?_eq_getElem (by have := hn.out; omega)⟩
      obtain ⟨g, o, rfl, hg, hx0⟩ := strB_at h hx
      have e0 := (hb.cell (p := ⟨g, _, none⟩) hg).trans hx0
      have hlen : (outB (l.take i) s).length ≤ i := Nat.le_trans (List.length_filter_le _ _) (by rw [List.length_take]; omega)
      have hnx : outB (l.take (i + 1)) s = outB (l.take i) s ++ (if eqB x s = true then [] else [x]) := by
        unfold outB
        rw [List.take_add_one, hx, List.filter_append]
        congr 1
        cases hq : eqB x s <;> simp [hq]
      clear hx0 hx
      cases hv : eqB x s with
      | true =>
        have hq : (x.toList == s.toList) = true := hv
        rw [hv, if_pos rfl, List.append_nil] at hnx
        replace hnx := Lib.hid hnx
        clear hv
        repeat' ((fail_if_success at_builtin); (first | go_skip | go_guarded | go_step))
        go_roundw
        case rel => exact ⟨i + 1, by omega, by first | rfl | go_num, by rw [hnx.out]; exact hO⟩
        case measure => (try go_num); (try simp [intOf]); (try omega)
      | false =>
        have hq : (x.toList == s.toList) = false := hv
        rw [hv, if_neg (by simp)] at hnx
        replace hnx := Lib.hid hnx
        have hby : ((outB (l.take i) s).length + 1) * 16 ≤ 140737488355328 := by have := hn.out; omega
        clear hv
        repeat' ((fail_if_success at_builtin); (first | go_skip | go_guarded | go_step))
        refine wp_appR1 rB_ok (cs := #[.string x]) hO (Below.refl _ _) (x := x) rfl Tryd.underlying45 str_info hby ?_
        intro v6 w6 hO6
        repeat' ((fail_if_success at_builtin); (first | go_skip | go_guarded | go_step))
        go_roundw
        case rel => exact ⟨i + 1, by omega, by first | rfl | go_num, by rw [hnx.out]; exact hO6⟩
        case measure => (try go_num); (try simp [intOf]); (try omega)
    · have i1 : ¬ (i : Int) < (n : Int) := by omega
      rw [List.take_of_length_le (by have := hn.out; omega)] at hO ⊢
      have hs := ownB_new hO rfl
      generalize hq : (outB l s).length = q at *
      replace hs := Lib.hid hs
      clear hO
      repeat' ((fail_if_success at_builtin); (first | go_skip | go_guarded | go_step))
      go_ret
      exact ⟨A5, c5, by rw [hq]; rfl, hb, by rw [hq]; exact hs.out⟩
end Go.Proofs.YtennhjkhjplmoaaDoor
