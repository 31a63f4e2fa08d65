/- Deploy: Locks: the walk. -/
import Derived.Test.YtennhjkhjplmoaaDoorDpT4
import Derived.Deep.CutBlock
namespace Go.Proofs.YtennhjkhjplmoaaDoor
open Go.RowKit
def tS : ByteArray := ⟨#[116, 101, 115, 116]⟩
theorem lk_c01 : cmpN pS.data.toList tS.data.toList < 0 := by decide
theorem lk_c10 : 0 < cmpN tS.data.toList pS.data.toList := by decide
theorem lk_n1 : nameS tS.data.toList = true := by decide
theorem lk_01 : eqB pS tS = false := by rw [eqB_lit]; decide
theorem lk_10 : eqB tS pS = false := by rw [eqB_lit]; decide
/-- the list of environments lies outside of block g -/
abbrev EsN (g : Nat) (w : World) (A : Option Addr) (n c : Nat) (l : List Env) : Prop := RSlice rEnv 5 w (fun b => b < w.heap.size ∧ b ≠ g) A n c l
abbrev TwN (g : Nat) (w : World) (p : Turn × Turn) (A1 : Option Addr) (c1 : Nat) (A2 : Option Addr) (c2 : Nat) (B1 : Option Addr) (d1 : Nat) (B2 : Option Addr) (d2 : Nat) : Prop := TwoS (fun b => b < w.heap.size ∧ b ≠ g) w p A1 c1 A2 c2 B1 d1 B2 d2
section
variable {g n c : Nat} {w w' : World} {A : Option Addr} {l : List Env} {p : Turn × Turn} {A1 : Option Addr} {c1 : Nat} {A2 : Option Addr} {c2 : Nat} {B1 : Option Addr} {d1 : Nat} {B2 : Option Addr} {d2 : Nat}
theorem EsN.up (h : EsN g w A n c l) (hb : Below w.heap.size w w') : EsN g w' A n c l := RSlice.map_ rEnv_ok (fun _ hp => hb.cell hp.1) (fun _ hp => ⟨Nat.lt_of_lt_of_le hp.1 hb.size, hp.2⟩) h
theorem EsN.set {o : Nat} {v : Value} (h : EsN g w A n c l) : EsN g (w.setCell ⟨g, o, none⟩ v) A n c l := RSlice.map_ rEnv_ok (fun p hp => World.cell?_setCell_far w ⟨g, o, none⟩ p v (fun e => hp.2 e.symm)) (fun _ hp => ⟨by simpa [World.setCell] using hp.1, hp.2⟩) h
theorem EsN.fin (h : EsN g w A n c l) : RSlice rEnv 5 w (fun b => b < w.heap.size) A n c l := h.more rEnv_ok (fun _ hp => hp.1)
theorem TwN.up (h : TwN g w p A1 c1 A2 c2 B1 d1 B2 d2) (hb : Below w.heap.size w w') : TwN g w' p A1 c1 A2 c2 B1 d1 B2 d2 := h.move (fun _ hp => hb.cell hp.1) (fun _ hp => ⟨Nat.lt_of_lt_of_le hp.1 hb.size, hp.2⟩)
theorem TwN.set {o : Nat} {v : Value} (h : TwN g w p A1 c1 A2 c2 B1 d1 B2 d2) : TwN g (w.setCell ⟨g, o, none⟩ v) p A1 c1 A2 c2 B1 d1 B2 d2 := h.move (fun p hp => World.cell?_setCell_far w ⟨g, o, none⟩ p v (fun e => hp.2 e.symm)) (fun _ hp => ⟨by simpa [World.setCell] using hp.1, hp.2⟩)
end
theorem own_drop {w0 w : World} {L : List (Nat × List Value)} (h : OwnB w0 w L) (k : Nat) : OwnB w0 w (L.drop k) :=
  ⟨h.below, fun i b cs hi => h.all (k + i) b cs (by rw [List.getElem?_drop] at hi; exact hi), fun i j b c x y hi hj hij => h.ne (k + i) (k + j) b c x y (by rw [List.getElem?_drop] at hi; exact hi) (by rw [List.getElem?_drop] at hj; exact hj) (by omega)⟩
theorem EndAt.new2 {w : World} {a b : Array Value} {t s : TypeId} (h : b.size = 6) : EndAt ((w.alloc (.cells a t)).alloc (.cells b s)) (w.heap.size + 1) 6 := by
  have := EndAt.new (w.alloc (.cells a t)) b s
  rw [h] at this
  simpa using this
set_option maxRecDepth 100000 in
set_option maxHeartbeats 1000000 in
theorem locks_law (l : List CallV) (A : Option Addr) (n c : Nat) (w : World) (h : RSlice rCall 3 w (fun b => b < w.heap.size) A n c l) (hB : ∀ x ∈ l, x.k < 256 ∧ x.p < 256 ∧ x.j < 256) :
    Calls Tryd.prog 7 #[.slice A n c] w fun e w' => e = .returned (.bool true) ∧ Below w.heap.size w w' := by
  go_enter Tryd.func7, Tryd.ntmps7
  have hn := h.1
  by_cases hk : 60 < n
  · have hk1 : (60 : Int) < (n : Int) := by omega
    replace hn := Lib.hid hn
    have C := lives_any w
    replace C := Lib.hid C
    repeat' ((fail_if_success at_builtin); (first | go_skip | go_guarded | go_step))
    refine C.out.mono ?_
    clear C
    rintro e wz ⟨rfl, hbz⟩
    dsimp only
    repeat' ((fail_if_success at_builtin); (first | go_skip | go_guarded | go_step))
    go_ret
    exact ⟨rfl, hbz⟩
  · have hk1 : ¬ (60 : Int) < (n : Int) := by omega
    replace hn := Lib.hid hn
    go_upto_region 6 with (fail)
    generalize hx_ : World.alloc (World.alloc w _) _ = wo1
    have hO1 : OwnB w wo1 [(w.heap.size + 1, [.string bE, .slice none 0 0, .slice none 0 0, .string bE, .slice none 0 0, .slice none 0 0]), (w.heap.size, [.string pS, .string tS])] := by rw [← hx_]; exact ((OwnB.refl w).new #[.string pS, .string tS] _ (g := w.heap.size)).new #[.string bE, .slice none 0 0, .slice none 0 0, .string bE, .slice none 0 0, .slice none 0 0] _ (g := w.heap.size + 1)
    have hbn : Below w.heap.size w wo1 := by rw [← hx_]; exact ((Below.refl _ _).alloc (Nat.le_refl _) _).alloc (by simp) _
    have zwo1 : w.heap.size + 1 < wo1.heap.size := by rw [← hx_]; simp <;> omega
    have hEnd : EndAt wo1 (w.heap.size + 1) 6 := by rw [← hx_]; exact EndAt.new2 rfl
    clear hx_
    have c0_0 : wo1.cell? ⟨w.heap.size + 1, 0, none⟩ = some (.string bE) := hO1.c 0 0
    have c0_1 : wo1.cell? ⟨w.heap.size + 1, 1, none⟩ = some (.slice none 0 0) := hO1.c 0 1
    have c0_2 : wo1.cell? ⟨w.heap.size + 1, 2, none⟩ = some (.slice none 0 0) := hO1.c 0 2
    have c0_3 : wo1.cell? ⟨w.heap.size + 1, 3, none⟩ = some (.string bE) := hO1.c 0 3
    have c0_4 : wo1.cell? ⟨w.heap.size + 1, 4, none⟩ = some (.slice none 0 0) := hO1.c 0 4
    have c0_5 : wo1.cell? ⟨w.heap.size + 1, 5, none⟩ = some (.slice none 0 0) := hO1.c 0 5
    have cf0 := hO1.fr 0
    have c1_0 : wo1.cell? ⟨w.heap.size, 0, none⟩ = some (.string pS) := hO1.c 1 0
    have c1_1 : wo1.cell? ⟨w.heap.size, 1, none⟩ = some (.string tS) := hO1.c 1 1
    have cf1 := hO1.fr 1
    clear hbn
    repeat' ((fail_if_success at_builtin); (first | go_skip | go_guarded | go_step))
    go_loopw [4, 6] (fun u4 u6 wr => ∃ (i : Nat) (es : List Env) (p : Turn × Turn) (Ae : Option Addr) (ne ce : Nat) (E1 : Option Addr) (e1 : Nat) (E2 : Option Addr) (e2 : Nat) (F1 : Option Addr) (f1 : Nat) (F2 : Option Addr) (f2 : Nat), i ≤ n ∧ u4 = .slice Ae ne ce ∧ u6 = .int .i64 (i : Int) ∧ Inv pS tS i es p ∧ smallN p.1 ∧ smallN p.2 ∧ OwnB w wr [(w.heap.size + 1, [.string p.1.holder, .slice E1 p.1.waiting.length e1, .slice E2 p.1.held.length e2, .string p.2.holder, .slice F1 p.2.waiting.length f1, .slice F2 p.2.held.length f2]), (w.heap.size, [.string pS, .string tS])] ∧ EsN (w.heap.size + 1) wr Ae ne ce es ∧ TwN (w.heap.size + 1) wr p E1 e1 E2 e2 F1 f1 F2 f2 ∧ EndAt wr (w.heap.size + 1) 6) (fun _ u6 _ => n - (intOf u6).toNat)
    case atStart =>
      have h0 : OkT 0 false ⟨bE, [], []⟩ [] := ⟨fun _ => ⟨rfl, rfl, rfl⟩, fun x hx => (by cases hx), by rw [if_pos (eqB_self bE)]; exact Nat.le_refl _, Nat.le_refl _, Nat.le_refl _, fun x hx => (by cases hx), List.Pairwise.nil⟩
      have s0 : smallN ⟨bE, [], []⟩ := ⟨small_bE, fun x hx => (by cases hx)⟩
      have hI : Inv pS tS 0 [] (⟨bE, [], []⟩, ⟨bE, [], []⟩) := ⟨false, false, [], [], rfl, h0, h0, by unfold namesT; rw [if_pos (eqB_self bE)]; exact List.nodup_nil⟩
      have z0 : ∀ {α : Type} (r : Rd α) (sz : Nat) (S : Nat → Prop), RSlice r sz wo1 S none 0 0 [] := fun r sz S => ⟨rfl, Nat.le_refl _, fun _ => rfl, [], ⟨by simp, fun h => (by omega)⟩, rfl⟩
      exact ⟨0, [], (⟨bE, [], []⟩, ⟨bE, [], []⟩), none, 0, 0, none, 0, none, 0, none, 0, none, 0, by omega, rfl, rfl, hI, s0, s0, hO1, z0 _ _ _, ⟨z0 _ _ _, z0 _ _ _, z0 _ _ _, z0 _ _ _⟩, hEnd⟩
    case round =>
      clear c0_0 c0_1 c0_2 c0_3 c0_4 c0_5 cf0 c1_0 c1_1 cf1 hO1
      clear hEnd
      obtain ⟨i, es, p, Ae, ne, ce, E1, e1, E2, e2, F1, f1, F2, f2, hi, rfl, rfl, hI, s1, s2, hOr, hEs, hTw, hEnd⟩ := hrel
      obtain ⟨wv, hwv⟩ : ∃ wv, wv = wr := ⟨wr, rfl⟩
      subst hwv
      have hO2 : OwnB w wv [(w.heap.size + 1, [.string p.1.holder, .slice E1 p.1.waiting.length e1, .slice E2 p.1.held.length e2, .string p.2.holder, .slice F1 p.2.waiting.length f1, .slice F2 p.2.held.length f2]), (w.heap.size, [.string pS, .string tS])] := hOr
      have c0_0 : wv.cell? ⟨w.heap.size + 1, 0, none⟩ = some (.string p.1.holder) := hO2.c 0 0
      have c0_1 : wv.cell? ⟨w.heap.size + 1, 1, none⟩ = some (.slice E1 p.1.waiting.length e1) := hO2.c 0 1
      have c0_2 : wv.cell? ⟨w.heap.size + 1, 2, none⟩ = some (.slice E2 p.1.held.length e2) := hO2.c 0 2
      have c0_3 : wv.cell? ⟨w.heap.size + 1, 3, none⟩ = some (.string p.2.holder) := hO2.c 0 3
      have c0_4 : wv.cell? ⟨w.heap.size + 1, 4, none⟩ = some (.slice F1 p.2.waiting.length f1) := hO2.c 0 4
      have c0_5 : wv.cell? ⟨w.heap.size + 1, 5, none⟩ = some (.slice F2 p.2.held.length f2) := hO2.c 0 5
      have cf0 := hO2.fr 0
      have c1_0 : wv.cell? ⟨w.heap.size, 0, none⟩ = some (.string pS) := hO2.c 1 0
      have c1_1 : wv.cell? ⟨w.heap.size, 1, none⟩ = some (.string tS) := hO2.c 1 1
      have cf1 := hO2.fr 1
      clear hOr
      have hbw := hO2.below
      have hgl : w.heap.size + 1 < wv.heap.size := hO2.lt 0
      have i0 : (0 : Int) ≤ (i : Int) := by omega
      have i2 : IntKind.i64.wrap ((i : Int) + 1) = (i : Int) + 1 := IntWalk.i64_in _ (by omega)
      by_cases hlt : i < n
      · skip
        have i1 : (i : Int) < (n : Int) := by omega
        obtain ⟨x, hx⟩ : ∃ x, l[i]? = some x := ⟨_, List.getElem?_eq_getElem (by have := hn.out; omega)⟩
        obtain ⟨hx1, hx2, hx3⟩ := hB x (List.mem_of_getElem? hx)
        obtain ⟨g, og, rfl, hg, a0, a1, a2⟩ := call_at h hx
        have b0 := (hbw.cell (p := ⟨g, _, none⟩) hg).trans a0
        have b1 := (hbw.cell (p := ⟨g, _, none⟩) hg).trans a1
        have b2 := (hbw.cell (p := ⟨g, _, none⟩) hg).trans a2
        obtain ⟨m, hm4, hmt⟩ : ∃ m : Nat, m < 4 ∧ (x.j : Int).tmod 4 = (m : Int) := ⟨x.j % 4, by omega, by rw [Int.tmod_eq_emod_of_nonneg (by omega)]; omega⟩
        have q0 : (0 : Int) ≤ (m : Int) := by omega
        have q1 : (m : Int) < 4 := by omega
        clear a0 a1 a2 hx
        go_upto_region 10 with (fail)
        generalize hx_ : World.alloc wv _ = wo3
        have hO3 : OwnB w wo3 [(wv.heap.size, [.int .u8 (x.k : Int), .int .u8 (x.p : Int), .int .u8 (x.j : Int)]), (w.heap.size + 1, [.string p.1.holder, .slice E1 p.1.waiting.length e1, .slice E2 p.1.held.length e2, .string p.2.holder, .slice F1 p.2.waiting.length f1, .slice F2 p.2.held.length f2]), (w.heap.size, [.string pS, .string tS])] := by rw [← hx_]; exact hO2.new #[.int .u8 (x.k : Int), .int .u8 (x.p : Int), .int .u8 (x.j : Int)] _ (g := wv.heap.size)
        have hbn : Below wv.heap.size wv wo3 := by rw [← hx_]; exact (Below.refl _ _).alloc (Nat.le_refl _) _
        have zwo3 : wv.heap.size + 0 < wo3.heap.size := by rw [← hx_]; simp <;> omega
        clear hx_ c0_0 c0_1 c0_2 c0_3 c0_4 c0_5 cf0 c1_0 c1_1 cf1 hO2
        have c0_0 : wo3.cell? ⟨wv.heap.size, 0, none⟩ = some (.int .u8 (x.k : Int)) := hO3.c 0 0
        have c0_1 : wo3.cell? ⟨wv.heap.size, 1, none⟩ = some (.int .u8 (x.p : Int)) := hO3.c 0 1
        have c0_2 : wo3.cell? ⟨wv.heap.size, 2, none⟩ = some (.int .u8 (x.j : Int)) := hO3.c 0 2
        have cf0 := hO3.fr 0
        have c1_0 : wo3.cell? ⟨w.heap.size + 1, 0, none⟩ = some (.string p.1.holder) := hO3.c 1 0
        have c1_1 : wo3.cell? ⟨w.heap.size + 1, 1, none⟩ = some (.slice E1 p.1.waiting.length e1) := hO3.c 1 1
        have c1_2 : wo3.cell? ⟨w.heap.size + 1, 2, none⟩ = some (.slice E2 p.1.held.length e2) := hO3.c 1 2
        have c1_3 : wo3.cell? ⟨w.heap.size + 1, 3, none⟩ = some (.string p.2.holder) := hO3.c 1 3
        have c1_4 : wo3.cell? ⟨w.heap.size + 1, 4, none⟩ = some (.slice F1 p.2.waiting.length f1) := hO3.c 1 4
        have c1_5 : wo3.cell? ⟨w.heap.size + 1, 5, none⟩ = some (.slice F2 p.2.held.length f2) := hO3.c 1 5
        have cf1 := hO3.fr 1
        have c2_0 : wo3.cell? ⟨w.heap.size, 0, none⟩ = some (.string pS) := hO3.c 2 0
        have c2_1 : wo3.cell? ⟨w.heap.size, 1, none⟩ = some (.string tS) := hO3.c 2 1
        have cf2 := hO3.fr 2
        replace hEs : EsN (w.heap.size + 1) wo3 Ae ne ce es := hEs.up hbn
        replace hTw : TwN (w.heap.size + 1) wo3 p E1 e1 E2 e2 F1 f1 F2 f2 := hTw.up hbn
        replace hEnd : EndAt wo3 (w.heap.size + 1) 6 := hEnd.up (by omega) hbn
        clear hbn
        obtain ⟨j, hj1, hj2, hjc⟩ : ∃ j : ByteArray, j ≠ bE ∧ j.size ≤ 1 ∧ (wo3.alloc (.cells #[.string ⟨#[97]⟩, .string ⟨#[98]⟩, .string ⟨#[99]⟩, .string ⟨#[100]⟩] strT)).cell? ⟨wo3.heap.size, m, none⟩ = some (.string j) := by
          have hc := CellsAt.new wo3 #[.string ⟨#[97]⟩, .string ⟨#[98]⟩, .string ⟨#[99]⟩, .string ⟨#[100]⟩] strT
          have : m = 0 ∨ m = 1 ∨ m = 2 ∨ m = 3 := by omega
          rcases this with rfl | rfl | rfl | rfl
          · exact ⟨_, by decide, by decide, hc.cell 0 _ rfl⟩
          · exact ⟨_, by decide, by decide, hc.cell 1 _ rfl⟩
          · exact ⟨_, by decide, by decide, hc.cell 2 _ rfl⟩
          · exact ⟨_, by decide, by decide, hc.cell 3 _ rfl⟩
        have hm_ : ∀ ob, OwnB w (wo3.alloc ob) [(wv.heap.size, [.int .u8 (x.k : Int), .int .u8 (x.p : Int), .int .u8 (x.j : Int)]), (w.heap.size + 1, [.string p.1.holder, .slice E1 p.1.waiting.length e1, .slice E2 p.1.held.length e2, .string p.2.holder, .slice F1 p.2.waiting.length f1, .slice F2 p.2.held.length f2]), (w.heap.size, [.string pS, .string tS])] := fun ob => hO3.kept ((Below.refl _ _).alloc (Nat.le_refl _) _)
        have m0_0 : ∀ ob, (wo3.alloc ob).cell? ⟨wv.heap.size, 0, none⟩ = some (.int .u8 (x.k : Int)) := fun ob => (hm_ ob).c 0 0
        have m0_1 : ∀ ob, (wo3.alloc ob).cell? ⟨wv.heap.size, 1, none⟩ = some (.int .u8 (x.p : Int)) := fun ob => (hm_ ob).c 0 1
        have m0_2 : ∀ ob, (wo3.alloc ob).cell? ⟨wv.heap.size, 2, none⟩ = some (.int .u8 (x.j : Int)) := fun ob => (hm_ ob).c 0 2
        have mf0 : ∀ ob j, (wo3.alloc ob).frozen? ⟨wv.heap.size, j, none⟩ = false := fun ob => (hm_ ob).fr 0
        have m1_0 : ∀ ob, (wo3.alloc ob).cell? ⟨w.heap.size + 1, 0, none⟩ = some (.string p.1.holder) := fun ob => (hm_ ob).c 1 0
        have m1_1 : ∀ ob, (wo3.alloc ob).cell? ⟨w.heap.size + 1, 1, none⟩ = some (.slice E1 p.1.waiting.length e1) := fun ob => (hm_ ob).c 1 1
        have m1_2 : ∀ ob, (wo3.alloc ob).cell? ⟨w.heap.size + 1, 2, none⟩ = some (.slice E2 p.1.held.length e2) := fun ob => (hm_ ob).c 1 2
        have m1_3 : ∀ ob, (wo3.alloc ob).cell? ⟨w.heap.size + 1, 3, none⟩ = some (.string p.2.holder) := fun ob => (hm_ ob).c 1 3
        have m1_4 : ∀ ob, (wo3.alloc ob).cell? ⟨w.heap.size + 1, 4, none⟩ = some (.slice F1 p.2.waiting.length f1) := fun ob => (hm_ ob).c 1 4
        have m1_5 : ∀ ob, (wo3.alloc ob).cell? ⟨w.heap.size + 1, 5, none⟩ = some (.slice F2 p.2.held.length f2) := fun ob => (hm_ ob).c 1 5
        have mf1 : ∀ ob j, (wo3.alloc ob).frozen? ⟨w.heap.size + 1, j, none⟩ = false := fun ob => (hm_ ob).fr 1
        have m2_0 : ∀ ob, (wo3.alloc ob).cell? ⟨w.heap.size, 0, none⟩ = some (.string pS) := fun ob => (hm_ ob).c 2 0
        have m2_1 : ∀ ob, (wo3.alloc ob).cell? ⟨w.heap.size, 1, none⟩ = some (.string tS) := fun ob => (hm_ ob).c 2 1
        have mf2 : ∀ ob j, (wo3.alloc ob).frozen? ⟨w.heap.size, j, none⟩ = false := fun ob => (hm_ ob).fr 2
        clear hm_
        go_upto_region 11 with (fail)
        clear hjc q0 q1 hmt hm4
        clear m0_0 m0_1 m0_2 mf0 m1_0 m1_1 m1_2 m1_3 m1_4 m1_5 mf1 m2_0 m2_1 mf2
        generalize hx_ : World.alloc wo3 _ = wo4
        have hO4 : OwnB w wo4 [(wo3.heap.size, [.string ⟨#[97]⟩, .string ⟨#[98]⟩, .string ⟨#[99]⟩, .string ⟨#[100]⟩]), (wv.heap.size, [.int .u8 (x.k : Int), .int .u8 (x.p : Int), .int .u8 (x.j : Int)]), (w.heap.size + 1, [.string p.1.holder, .slice E1 p.1.waiting.length e1, .slice E2 p.1.held.length e2, .string p.2.holder, .slice F1 p.2.waiting.length f1, .slice F2 p.2.held.length f2]), (w.heap.size, [.string pS, .string tS])] := by rw [← hx_]; exact hO3.new #[.string ⟨#[97]⟩, .string ⟨#[98]⟩, .string ⟨#[99]⟩, .string ⟨#[100]⟩] _ (g := wo3.heap.size)
        have hbn : Below wo3.heap.size wo3 wo4 := by rw [← hx_]; exact (Below.refl _ _).alloc (Nat.le_refl _) _
        have zwo4 : wo3.heap.size + 0 < wo4.heap.size := by rw [← hx_]; simp <;> omega
        clear hx_ c0_0 c0_1 c0_2 cf0 c1_0 c1_1 c1_2 c1_3 c1_4 c1_5 cf1 c2_0 c2_1 cf2 hO3
        have c0_0 : wo4.cell? ⟨wo3.heap.size, 0, none⟩ = some (.string ⟨#[97]⟩) := hO4.c 0 0
        have c0_1 : wo4.cell? ⟨wo3.heap.size, 1, none⟩ = some (.string ⟨#[98]⟩) := hO4.c 0 1
        have c0_2 : wo4.cell? ⟨wo3.heap.size, 2, none⟩ = some (.string ⟨#[99]⟩) := hO4.c 0 2
        have c0_3 : wo4.cell? ⟨wo3.heap.size, 3, none⟩ = some (.string ⟨#[100]⟩) := hO4.c 0 3
        have cf0 := hO4.fr 0
        have c1_0 : wo4.cell? ⟨wv.heap.size, 0, none⟩ = some (.int .u8 (x.k : Int)) := hO4.c 1 0
        have c1_1 : wo4.cell? ⟨wv.heap.size, 1, none⟩ = some (.int .u8 (x.p : Int)) := hO4.c 1 1
        have c1_2 : wo4.cell? ⟨wv.heap.size, 2, none⟩ = some (.int .u8 (x.j : Int)) := hO4.c 1 2
        have cf1 := hO4.fr 1
        have c2_0 : wo4.cell? ⟨w.heap.size + 1, 0, none⟩ = some (.string p.1.holder) := hO4.c 2 0
        have c2_1 : wo4.cell? ⟨w.heap.size + 1, 1, none⟩ = some (.slice E1 p.1.waiting.length e1) := hO4.c 2 1
        have c2_2 : wo4.cell? ⟨w.heap.size + 1, 2, none⟩ = some (.slice E2 p.1.held.length e2) := hO4.c 2 2
        have c2_3 : wo4.cell? ⟨w.heap.size + 1, 3, none⟩ = some (.string p.2.holder) := hO4.c 2 3
        have c2_4 : wo4.cell? ⟨w.heap.size + 1, 4, none⟩ = some (.slice F1 p.2.waiting.length f1) := hO4.c 2 4
        have c2_5 : wo4.cell? ⟨w.heap.size + 1, 5, none⟩ = some (.slice F2 p.2.held.length f2) := hO4.c 2 5
        have cf2 := hO4.fr 2
        have c3_0 : wo4.cell? ⟨w.heap.size, 0, none⟩ = some (.string pS) := hO4.c 3 0
        have c3_1 : wo4.cell? ⟨w.heap.size, 1, none⟩ = some (.string tS) := hO4.c 3 1
        have cf3 := hO4.fr 3
        replace hEs : EsN (w.heap.size + 1) wo4 Ae ne ce es := hEs.up hbn
        replace hTw : TwN (w.heap.size + 1) wo4 p E1 e1 E2 e2 F1 f1 F2 f2 := hTw.up hbn
        replace hEnd : EndAt wo4 (w.heap.size + 1) 6 := hEnd.up (by omega) hbn
        clear hbn
        go_upto_region 12 with (fail)
        generalize hx_ : World.alloc wo4 _ = wo5
        have hO5 : OwnB w wo5 [(wo4.heap.size, [.string ⟨#[114]⟩, .string j]), (wo3.heap.size, [.string ⟨#[97]⟩, .string ⟨#[98]⟩, .string ⟨#[99]⟩, .string ⟨#[100]⟩]), (wv.heap.size, [.int .u8 (x.k : Int), .int .u8 (x.p : Int), .int .u8 (x.j : Int)]), (w.heap.size + 1, [.string p.1.holder, .slice E1 p.1.waiting.length e1, .slice E2 p.1.held.length e2, .string p.2.holder, .slice F1 p.2.waiting.length f1, .slice F2 p.2.held.length f2]), (w.heap.size, [.string pS, .string tS])] := by rw [← hx_]; exact hO4.new #[.string ⟨#[114]⟩, .string j] _ (g := wo4.heap.size)
        have hbn : Below wo4.heap.size wo4 wo5 := by rw [← hx_]; exact (Below.refl _ _).alloc (Nat.le_refl _) _
        have zwo5 : wo4.heap.size + 0 < wo5.heap.size := by rw [← hx_]; simp <;> omega
        clear hx_ c0_0 c0_1 c0_2 c0_3 cf0 c1_0 c1_1 c1_2 cf1 c2_0 c2_1 c2_2 c2_3 c2_4 c2_5 cf2 c3_0 c3_1 cf3 hO4
        have c0_0 : wo5.cell? ⟨wo4.heap.size, 0, none⟩ = some (.string ⟨#[114]⟩) := hO5.c 0 0
        have c0_1 : wo5.cell? ⟨wo4.heap.size, 1, none⟩ = some (.string j) := hO5.c 0 1
        have cf0 := hO5.fr 0
        have c1_0 : wo5.cell? ⟨wo3.heap.size, 0, none⟩ = some (.string ⟨#[97]⟩) := hO5.c 1 0
        have c1_1 : wo5.cell? ⟨wo3.heap.size, 1, none⟩ = some (.string ⟨#[98]⟩) := hO5.c 1 1
        have c1_2 : wo5.cell? ⟨wo3.heap.size, 2, none⟩ = some (.string ⟨#[99]⟩) := hO5.c 1 2
        have c1_3 : wo5.cell? ⟨wo3.heap.size, 3, none⟩ = some (.string ⟨#[100]⟩) := hO5.c 1 3
        have cf1 := hO5.fr 1
        have c2_0 : wo5.cell? ⟨wv.heap.size, 0, none⟩ = some (.int .u8 (x.k : Int)) := hO5.c 2 0
        have c2_1 : wo5.cell? ⟨wv.heap.size, 1, none⟩ = some (.int .u8 (x.p : Int)) := hO5.c 2 1
        have c2_2 : wo5.cell? ⟨wv.heap.size, 2, none⟩ = some (.int .u8 (x.j : Int)) := hO5.c 2 2
        have cf2 := hO5.fr 2
        have c3_0 : wo5.cell? ⟨w.heap.size + 1, 0, none⟩ = some (.string p.1.holder) := hO5.c 3 0
        have c3_1 : wo5.cell? ⟨w.heap.size + 1, 1, none⟩ = some (.slice E1 p.1.waiting.length e1) := hO5.c 3 1
        have c3_2 : wo5.cell? ⟨w.heap.size + 1, 2, none⟩ = some (.slice E2 p.1.held.length e2) := hO5.c 3 2
        have c3_3 : wo5.cell? ⟨w.heap.size + 1, 3, none⟩ = some (.string p.2.holder) := hO5.c 3 3
        have c3_4 : wo5.cell? ⟨w.heap.size + 1, 4, none⟩ = some (.slice F1 p.2.waiting.length f1) := hO5.c 3 4
        have c3_5 : wo5.cell? ⟨w.heap.size + 1, 5, none⟩ = some (.slice F2 p.2.held.length f2) := hO5.c 3 5
        have cf3 := hO5.fr 3
        have c4_0 : wo5.cell? ⟨w.heap.size, 0, none⟩ = some (.string pS) := hO5.c 4 0
        have c4_1 : wo5.cell? ⟨w.heap.size, 1, none⟩ = some (.string tS) := hO5.c 4 1
        have cf4 := hO5.fr 4
        replace hEs : EsN (w.heap.size + 1) wo5 Ae ne ce es := hEs.up hbn
        replace hTw : TwN (w.heap.size + 1) wo5 p E1 e1 E2 e2 F1 f1 F2 f2 := hTw.up hbn
        replace hEnd : EndAt wo5 (w.heap.size + 1) 6 := hEnd.up (by omega) hbn
        clear hbn
        obtain ⟨kk, hk4, hkt, hkk⟩ : ∃ kk : Nat, kk < 4 ∧ (x.k : Int).tmod 4 = (kk : Int) ∧ x.k % 4 = kk := ⟨x.k % 4, by omega, by rw [Int.tmod_eq_emod_of_nonneg (by omega)]; omega, rfl⟩
        obtain ⟨pp, hpp2, hppt, hppb⟩ : ∃ pp : Nat, pp < 2 ∧ (x.p : Int).tmod 2 = (pp : Int) ∧ (x.p % 2 == 1) = (pp == 1) := ⟨x.p % 2, by omega, by rw [Int.tmod_eq_emod_of_nonneg (by omega)]; omega, rfl⟩
        replace hppb := Lib.hid hppb
        have hbp := inv_bnd (s0 := pS) (s1 := tS) (by decide) (by decide) (by omega) hI s1 s2
        have hbp1 := hbp.w1
        have hbp2 := hbp.w2
        have hbp3 := hbp.h1
        have hbp4 := hbp.h2
        clear hbp
        go_upto_block 2 with (fail)
        go_cut [4, 10] (fun u4 u10 wx => ∃ (wq : World) (A4 : Option Addr) (n4 c4 : Nat) (es4 : List Env) (cd : Int), wq = wx ∧ u4 = .slice A4 n4 c4 ∧ u10 = .int .i64 cd ∧ opL kk (selT (pp == 1) (pS, tS)) j i es = (es4, cd) ∧ Below wo5.heap.size wo5 wq ∧ RSlice rEnv 5 wq (fun b => b < wq.heap.size) A4 n4 c4 es4)
        case first =>
          have hbnd := inv_bnd (s0 := pS) (s1 := tS) (by decide) (by decide) (by omega) hI s1 s2
          have hEW := hbnd.EW
          have hH : ∀ x ∈ es, x.history.length ≤ 999999 := fun x hx => by have := hbnd.hist x hx; omega
          have hsz : (selT (pp == 1) (pS, tS)).size ≤ 1000000 := by cases (pp == 1) <;> decide
          have t0 : (0 : Int) ≤ (pp : Int) := by omega
          have t1 : (pp : Int) < 2 := by omega
          have hnm : wo5.cell? ⟨w.heap.size, pp, none⟩ = some (.string (selT (pp == 1) (pS, tS))) := by
            have : pp = 0 ∨ pp = 1 := by omega
            rcases this with rfl | rfl
            · exact hO5.c 4 0
            · exact hO5.c 4 1
          have hk6 : kk = 0 ∨ kk = 1 ∨ kk = 2 ∨ kk = 3 := by omega
          clear hkt hk4
          have y0 := hO5.lt 0
          have y1 := hO5.lt 2
          have y2 := hO5.lt 4
          have hw5 : wv.heap.size ≤ wo5.heap.size := by omega
          rcases hk6 with rfl | rfl | rfl | rfl
          · skip
            have hS0 : (Below wo5.heap.size wo5 wo5 ∧ wo5.cell? ⟨wv.heap.size, 1, none⟩ = some (.int .u8 (x.p : Int)) ∧ wo5.cell? ⟨w.heap.size, pp, none⟩ = some (.string (selT (pp == 1) (pS, tS))) ∧ wo5.cell? ⟨wo4.heap.size, 0, none⟩ = some (.string ⟨#[114]⟩) ∧ wo5.cell? ⟨wo4.heap.size, 1, none⟩ = some (.string j)) := ⟨Below.refl _ _, hO5.c 2 1, hnm, hO5.c 0 0, hO5.c 0 1⟩
            have keepS : ∀ v1 v2 : World, (Below wo5.heap.size wo5 v1 ∧ v1.cell? ⟨wv.heap.size, 1, none⟩ = some (.int .u8 (x.p : Int)) ∧ v1.cell? ⟨w.heap.size, pp, none⟩ = some (.string (selT (pp == 1) (pS, tS))) ∧ v1.cell? ⟨wo4.heap.size, 0, none⟩ = some (.string ⟨#[114]⟩) ∧ v1.cell? ⟨wo4.heap.size, 1, none⟩ = some (.string j)) → Below v1.heap.size v1 v2 → (Below wo5.heap.size wo5 v2 ∧ v2.cell? ⟨wv.heap.size, 1, none⟩ = some (.int .u8 (x.p : Int)) ∧ v2.cell? ⟨w.heap.size, pp, none⟩ = some (.string (selT (pp == 1) (pS, tS))) ∧ v2.cell? ⟨wo4.heap.size, 0, none⟩ = some (.string ⟨#[114]⟩) ∧ v2.cell? ⟨wo4.heap.size, 1, none⟩ = some (.string j)) := fun v1 v2 h hb => ⟨h.1.trans (hb.mono h.1.size), (hb.cell (p := ⟨wv.heap.size, _, none⟩) (Nat.lt_of_lt_of_le y1 h.1.size)).trans h.2.1, (hb.cell (p := ⟨w.heap.size, _, none⟩) (Nat.lt_of_lt_of_le y2 h.1.size)).trans h.2.2.1, (hb.cell (p := ⟨wo4.heap.size, _, none⟩) (Nat.lt_of_lt_of_le y0 h.1.size)).trans h.2.2.2.1, (hb.cell (p := ⟨wo4.heap.size, _, none⟩) (Nat.lt_of_lt_of_le y0 h.1.size)).trans h.2.2.2.2⟩
            have hS1 : (Below wo5.heap.size wo5 wo5.drew ∧ wo5.drew.cell? ⟨wv.heap.size, 1, none⟩ = some (.int .u8 (x.p : Int)) ∧ wo5.drew.cell? ⟨w.heap.size, pp, none⟩ = some (.string (selT (pp == 1) (pS, tS))) ∧ wo5.drew.cell? ⟨wo4.heap.size, 0, none⟩ = some (.string ⟨#[114]⟩) ∧ wo5.drew.cell? ⟨wo4.heap.size, 1, none⟩ = some (.string j)) := keepS _ _ hS0 ((Below.refl _ _).drew)
            replace keepS := Lib.hid keepS
            clear hS0
            go_upto_region 15 with (fail)
            refine wp_region_held_drew (S := fun w' => Below wo5.heap.size wo5 w' ∧ w'.cell? ⟨wv.heap.size, 1, none⟩ = some (.int .u8 (x.p : Int)) ∧ w'.cell? ⟨w.heap.size, pp, none⟩ = some (.string (selT (pp == 1) (pS, tS))) ∧ w'.cell? ⟨wo4.heap.size, 0, none⟩ = some (.string ⟨#[114]⟩) ∧ w'.cell? ⟨wo4.heap.size, 1, none⟩ = some (.string j)) (by kernel_rfl) ?_ (fun hHeld => ?_)
            · (try dsimp only)
              exact hS1
            refine tkY 0 (v := ?v71) rfl (.inl ⟨by rfl, ?hy71⟩) ?hr71
            case hy71 => (intro w hSw; (try dsimp only at hSw); go_simp; try with_reducible rfl)
            simp only [Act.put, List.getElem_toArray, List.getElem_cons_zero, List.setIfInBounds_toArray, List.set_cons_zero, List.set_cons_succ]
            refine tkY 1 (v := ?v72) rfl (.inl ⟨by rfl, ?hy72⟩) ?hr72
            case hy72 => (intro w hSw; (try dsimp only at hSw); go_simp; try with_reducible rfl)
            simp only [Act.put, List.getElem_toArray, List.getElem_cons_zero, List.getElem_cons_succ, List.setIfInBounds_toArray, List.set_cons_zero, List.set_cons_succ]
            refine tkY 2 (v := ?v73) rfl (.inl ⟨by rfl, ?hy73⟩) ?hr73
            case hy73 => (intro w hSw; (try dsimp only at hSw); go_simp; try with_reducible rfl)
            simp only [Act.put, List.getElem_toArray, List.getElem_cons_zero, List.getElem_cons_succ, List.setIfInBounds_toArray, List.set_cons_zero, List.set_cons_succ]
            refine tkY 3 (v := ?v74) rfl (.inl ⟨by rfl, ?hy74⟩) ?hr74
            case hy74 => (intro w hSw; (try dsimp only at hSw); go_simp; try with_reducible rfl)
            simp only [Act.put, List.getElem_toArray, List.getElem_cons_zero, List.getElem_cons_succ, List.setIfInBounds_toArray, List.set_cons_zero, List.set_cons_succ]
            refine tkY 4 (v := ?v75) rfl (.inl ⟨by rfl, ?hy75⟩) ?hr75
            case hy75 => (intro w hSw; (try dsimp only at hSw); go_simp; try with_reducible rfl)
            simp only [Act.put, List.getElem_toArray, List.getElem_cons_zero, List.getElem_cons_succ, List.setIfInBounds_toArray, List.set_cons_zero, List.set_cons_succ]
            refine tkY 5 (v := ?v76) rfl (.inl ⟨by rfl, ?hy76⟩) ?hr76
            case hy76 => (intro w hSw; (try dsimp only at hSw); go_simp; try with_reducible rfl)
            simp only [Act.put, List.getElem_toArray, List.getElem_cons_zero, List.getElem_cons_succ, List.setIfInBounds_toArray, List.set_cons_zero, List.set_cons_succ]
            refine tkY 6 (v := ?v77) rfl (.inl ⟨by rfl, ?hy77⟩) ?hr77
            case hy77 => (intro w hSw; (try dsimp only at hSw); go_simp; try with_reducible rfl)
            simp only [Act.put, List.getElem_toArray, List.getElem_cons_zero, List.getElem_cons_succ, List.setIfInBounds_toArray, List.set_cons_zero, List.set_cons_succ]
            refine tkY 7 (v := ?v78) rfl (.inl ⟨by rfl, ?hy78⟩) ?hr78
            case hy78 => (intro w hSw; (try dsimp only at hSw); go_simp; try with_reducible rfl)
            simp only [Act.put, List.getElem_toArray, List.getElem_cons_zero, List.getElem_cons_succ, List.setIfInBounds_toArray, List.set_cons_zero, List.set_cons_succ]
            refine wpAnyH_ready (rs := [8]) (by kernel_rfl) (by simp) ?_
            refine AllReadyH.cons rfl (fun K hK => ?_) AllReadyH.nil
            go_simp
            go_at_call 13
            refine (request_any es (selT (pp == 1) (pS, tS)) (rOf j) Ae ne ce _ (hEW.envs (hEs.up hHeld.1).fin) hsz).mono ?_
            rintro e r1 ⟨A4, n4, c4, rfl, hbq, hr4⟩
            dsimp only
            refine hK.out _ _ ?_ (fun hHeld => ?_)
            · (try dsimp only)
              exact keepS.out _ _ hHeld hbq
            clear hK K
            try simp only [Act.put, List.getElem_toArray, List.getElem_cons_zero, List.getElem_cons_succ, List.setIfInBounds_toArray, List.set_cons_zero, List.set_cons_succ]
            refine tkY 9 (v := ?v79) rfl (.inl ⟨by rfl, ?hy79⟩) ?hr79
            case hy79 => (intro w hSw; (try dsimp only at hSw); go_simp; try with_reducible rfl)
            simp only [Act.put, List.getElem_toArray, List.getElem_cons_zero, List.getElem_cons_succ, List.setIfInBounds_toArray, List.set_cons_zero, List.set_cons_succ]
            refine tkY 10 (v := ?v80) rfl (.inl ⟨by rfl, ?hy80⟩) ?hr80
            case hy80 => (intro w hSw; (try dsimp only at hSw); go_simp; try with_reducible rfl)
            simp only [Act.put, List.getElem_toArray, List.getElem_cons_zero, List.getElem_cons_succ, List.setIfInBounds_toArray, List.set_cons_zero, List.set_cons_succ]
            refine tkY 11 (v := ?v81) rfl (.inl ⟨by rfl, ?hy81⟩) ?hr81
            case hy81 => (intro w hSw; (try dsimp only at hSw); go_simp; try with_reducible rfl)
            simp only [Act.put, List.getElem_toArray, List.getElem_cons_zero, List.getElem_cons_succ, List.setIfInBounds_toArray, List.set_cons_zero, List.set_cons_succ]
            refine tkY 12 (v := ?v82) rfl (.inl ⟨by rfl, ?hy82⟩) ?hr82
            case hy82 => (intro w hSw; (try dsimp only at hSw); go_simp; try with_reducible rfl)
            simp only [Act.put, List.getElem_toArray, List.getElem_cons_zero, List.getElem_cons_succ, List.setIfInBounds_toArray, List.set_cons_zero, List.set_cons_succ]
            refine tkY 13 (v := ?v83) rfl (.inl ⟨by rfl, ?hy83⟩) ?hr83
            case hy83 => (intro w hSw; (try dsimp only at hSw); go_simp; try with_reducible rfl)
            simp only [Act.put, List.getElem_toArray, List.getElem_cons_zero, List.getElem_cons_succ, List.setIfInBounds_toArray, List.set_cons_zero, List.set_cons_succ]
            refine wpAnyH_done (by kernel_rfl) ?_ _
            have hbW := hHeld.1
            clear hHeld hS1 keepS
            (try repeat' ((fail_if_success at_builtin); (first | go_skip | go_guarded | go_step)))
            go_meet
            case rel => exact ⟨_, A4, n4, c4, _, _, rfl, rfl, rfl, rfl, hbW, hr4⟩
          · skip
            have hS0 : (Below wo5.heap.size wo5 wo5 ∧ wo5.cell? ⟨wv.heap.size, 1, none⟩ = some (.int .u8 (x.p : Int)) ∧ wo5.cell? ⟨w.heap.size, pp, none⟩ = some (.string (selT (pp == 1) (pS, tS))) ∧ wo5.cell? ⟨wo4.heap.size, 0, none⟩ = some (.string ⟨#[114]⟩) ∧ wo5.cell? ⟨wo4.heap.size, 1, none⟩ = some (.string j)) := ⟨Below.refl _ _, hO5.c 2 1, hnm, hO5.c 0 0, hO5.c 0 1⟩
            have keepS : ∀ v1 v2 : World, (Below wo5.heap.size wo5 v1 ∧ v1.cell? ⟨wv.heap.size, 1, none⟩ = some (.int .u8 (x.p : Int)) ∧ v1.cell? ⟨w.heap.size, pp, none⟩ = some (.string (selT (pp == 1) (pS, tS))) ∧ v1.cell? ⟨wo4.heap.size, 0, none⟩ = some (.string ⟨#[114]⟩) ∧ v1.cell? ⟨wo4.heap.size, 1, none⟩ = some (.string j)) → Below v1.heap.size v1 v2 → (Below wo5.heap.size wo5 v2 ∧ v2.cell? ⟨wv.heap.size, 1, none⟩ = some (.int .u8 (x.p : Int)) ∧ v2.cell? ⟨w.heap.size, pp, none⟩ = some (.string (selT (pp == 1) (pS, tS))) ∧ v2.cell? ⟨wo4.heap.size, 0, none⟩ = some (.string ⟨#[114]⟩) ∧ v2.cell? ⟨wo4.heap.size, 1, none⟩ = some (.string j)) := fun v1 v2 h hb => ⟨h.1.trans (hb.mono h.1.size), (hb.cell (p := ⟨wv.heap.size, _, none⟩) (Nat.lt_of_lt_of_le y1 h.1.size)).trans h.2.1, (hb.cell (p := ⟨w.heap.size, _, none⟩) (Nat.lt_of_lt_of_le y2 h.1.size)).trans h.2.2.1, (hb.cell (p := ⟨wo4.heap.size, _, none⟩) (Nat.lt_of_lt_of_le y0 h.1.size)).trans h.2.2.2.1, (hb.cell (p := ⟨wo4.heap.size, _, none⟩) (Nat.lt_of_lt_of_le y0 h.1.size)).trans h.2.2.2.2⟩
            have hS1 : (Below wo5.heap.size wo5 wo5.drew ∧ wo5.drew.cell? ⟨wv.heap.size, 1, none⟩ = some (.int .u8 (x.p : Int)) ∧ wo5.drew.cell? ⟨w.heap.size, pp, none⟩ = some (.string (selT (pp == 1) (pS, tS))) ∧ wo5.drew.cell? ⟨wo4.heap.size, 0, none⟩ = some (.string ⟨#[114]⟩) ∧ wo5.drew.cell? ⟨wo4.heap.size, 1, none⟩ = some (.string j)) := keepS _ _ hS0 ((Below.refl _ _).drew)
            replace keepS := Lib.hid keepS
            clear hS0
            go_upto_region 17 with (fail)
            refine wp_region_held_drew (S := fun w' => Below wo5.heap.size wo5 w' ∧ w'.cell? ⟨wv.heap.size, 1, none⟩ = some (.int .u8 (x.p : Int)) ∧ w'.cell? ⟨w.heap.size, pp, none⟩ = some (.string (selT (pp == 1) (pS, tS))) ∧ w'.cell? ⟨wo4.heap.size, 0, none⟩ = some (.string ⟨#[114]⟩) ∧ w'.cell? ⟨wo4.heap.size, 1, none⟩ = some (.string j)) (by kernel_rfl) ?_ (fun hHeld => ?_)
            · (try dsimp only)
              exact hS1
            refine tkY 0 (v := ?v84) rfl (.inl ⟨by rfl, ?hy84⟩) ?hr84
            case hy84 => (intro w hSw; (try dsimp only at hSw); go_simp; try with_reducible rfl)
            simp only [Act.put, List.getElem_toArray, List.getElem_cons_zero, List.setIfInBounds_toArray, List.set_cons_zero, List.set_cons_succ]
            refine tkY 1 (v := ?v85) rfl (.inl ⟨by rfl, ?hy85⟩) ?hr85
            case hy85 => (intro w hSw; (try dsimp only at hSw); go_simp; try with_reducible rfl)
            simp only [Act.put, List.getElem_toArray, List.getElem_cons_zero, List.getElem_cons_succ, List.setIfInBounds_toArray, List.set_cons_zero, List.set_cons_succ]
            refine tkY 2 (v := ?v86) rfl (.inl ⟨by rfl, ?hy86⟩) ?hr86
            case hy86 => (intro w hSw; (try dsimp only at hSw); go_simp; try with_reducible rfl)
            simp only [Act.put, List.getElem_toArray, List.getElem_cons_zero, List.getElem_cons_succ, List.setIfInBounds_toArray, List.set_cons_zero, List.set_cons_succ]
            refine tkY 3 (v := ?v87) rfl (.inl ⟨by rfl, ?hy87⟩) ?hr87
            case hy87 => (intro w hSw; (try dsimp only at hSw); go_simp; try with_reducible rfl)
            simp only [Act.put, List.getElem_toArray, List.getElem_cons_zero, List.getElem_cons_succ, List.setIfInBounds_toArray, List.set_cons_zero, List.set_cons_succ]
            refine tkY 4 (v := ?v88) rfl (.inl ⟨by rfl, ?hy88⟩) ?hr88
            case hy88 => (intro w hSw; (try dsimp only at hSw); go_simp; try with_reducible rfl)
            simp only [Act.put, List.getElem_toArray, List.getElem_cons_zero, List.getElem_cons_succ, List.setIfInBounds_toArray, List.set_cons_zero, List.set_cons_succ]
            refine tkY 5 (v := ?v89) rfl (.inl ⟨by rfl, ?hy89⟩) ?hr89
            case hy89 => (intro w hSw; (try dsimp only at hSw); go_simp; try with_reducible rfl)
            simp only [Act.put, List.getElem_toArray, List.getElem_cons_zero, List.getElem_cons_succ, List.setIfInBounds_toArray, List.set_cons_zero, List.set_cons_succ]
            refine tkY 6 (v := ?v90) rfl (.inl ⟨by rfl, ?hy90⟩) ?hr90
            case hy90 => (intro w hSw; (try dsimp only at hSw); go_simp; try with_reducible rfl)
            simp only [Act.put, List.getElem_toArray, List.getElem_cons_zero, List.getElem_cons_succ, List.setIfInBounds_toArray, List.set_cons_zero, List.set_cons_succ]
            refine tkY 7 (v := ?v91) rfl (.inl ⟨by rfl, ?hy91⟩) ?hr91
            case hy91 => (intro w hSw; (try dsimp only at hSw); go_simp; try with_reducible rfl)
            simp only [Act.put, List.getElem_toArray, List.getElem_cons_zero, List.getElem_cons_succ, List.setIfInBounds_toArray, List.set_cons_zero, List.set_cons_succ]
            refine wpAnyH_ready (rs := [8]) (by kernel_rfl) (by simp) ?_
            refine AllReadyH.cons rfl (fun K hK => ?_) AllReadyH.nil
            go_simp
            go_at_call 18
            refine (lock_any es (selT (pp == 1) (pS, tS)) (rOf j) Ae ne ce _ (hEW.envs (hEs.up hHeld.1).fin)).mono ?_
            rintro e r1 ⟨A4, n4, c4, rfl, hbq, hr4⟩
            dsimp only
            refine hK.out _ _ ?_ (fun hHeld => ?_)
            · (try dsimp only)
              exact keepS.out _ _ hHeld hbq
            clear hK K
            try simp only [Act.put, List.getElem_toArray, List.getElem_cons_zero, List.getElem_cons_succ, List.setIfInBounds_toArray, List.set_cons_zero, List.set_cons_succ]
            refine tkY 9 (v := ?v92) rfl (.inl ⟨by rfl, ?hy92⟩) ?hr92
            case hy92 => (intro w hSw; (try dsimp only at hSw); go_simp; try with_reducible rfl)
            simp only [Act.put, List.getElem_toArray, List.getElem_cons_zero, List.getElem_cons_succ, List.setIfInBounds_toArray, List.set_cons_zero, List.set_cons_succ]
            refine tkY 10 (v := ?v93) rfl (.inl ⟨by rfl, ?hy93⟩) ?hr93
            case hy93 => (intro w hSw; (try dsimp only at hSw); go_simp; try with_reducible rfl)
            simp only [Act.put, List.getElem_toArray, List.getElem_cons_zero, List.getElem_cons_succ, List.setIfInBounds_toArray, List.set_cons_zero, List.set_cons_succ]
            refine tkY 11 (v := ?v94) rfl (.inl ⟨by rfl, ?hy94⟩) ?hr94
            case hy94 => (intro w hSw; (try dsimp only at hSw); go_simp; try with_reducible rfl)
            simp only [Act.put, List.getElem_toArray, List.getElem_cons_zero, List.getElem_cons_succ, List.setIfInBounds_toArray, List.set_cons_zero, List.set_cons_succ]
            refine tkY 12 (v := ?v95) rfl (.inl ⟨by rfl, ?hy95⟩) ?hr95
            case hy95 => (intro w hSw; (try dsimp only at hSw); go_simp; try with_reducible rfl)
            simp only [Act.put, List.getElem_toArray, List.getElem_cons_zero, List.getElem_cons_succ, List.setIfInBounds_toArray, List.set_cons_zero, List.set_cons_succ]
            refine tkY 13 (v := ?v96) rfl (.inl ⟨by rfl, ?hy96⟩) ?hr96
            case hy96 => (intro w hSw; (try dsimp only at hSw); go_simp; try with_reducible rfl)
            simp only [Act.put, List.getElem_toArray, List.getElem_cons_zero, List.getElem_cons_succ, List.setIfInBounds_toArray, List.set_cons_zero, List.set_cons_succ]
            refine wpAnyH_done (by kernel_rfl) ?_ _
            have hbW := hHeld.1
            clear hHeld hS1 keepS
            (try repeat' ((fail_if_success at_builtin); (first | go_skip | go_guarded | go_step)))
            go_meet
            case rel => exact ⟨_, A4, n4, c4, _, _, rfl, rfl, rfl, rfl, hbW, hr4⟩
          · skip
            have C := finish_any es (rOf j) 1 1 (i : Int) Ae ne ce wo5 (hEW.envs hEs.fin) hH
            replace C := Lib.hid C
            repeat' ((fail_if_success at_builtin); (first | go_skip | go_guarded | go_step))
            refine C.out.mono ?_
            clear C
            rintro e r1 ⟨A4, n4, c4, rfl, hbq, hr4⟩
            dsimp only
            (try repeat' ((fail_if_success at_builtin); (first | go_skip | go_guarded | go_step)))
            go_meet
            case rel => exact ⟨_, A4, n4, c4, _, _, rfl, rfl, rfl, rfl, hbq, hr4⟩
          · skip
            have C := abandon_any es (rOf j) Ae ne ce wo5 (hEW.envs hEs.fin)
            replace C := Lib.hid C
            repeat' ((fail_if_success at_builtin); (first | go_skip | go_guarded | go_step))
            refine C.out.mono ?_
            clear C
            rintro e r1 ⟨A4, n4, c4, rfl, hbq, hr4⟩
            dsimp only
            (try repeat' ((fail_if_success at_builtin); (first | go_skip | go_guarded | go_step)))
            go_meet
            case rel => exact ⟨_, A4, n4, c4, _, _, rfl, rfl, rfl, rfl, hbq, hr4⟩
        case rest =>
          clear hkt hk4 hppt
          obtain ⟨wq, A4, n4, c4, es4, cd, rfl, rfl, rfl, hop, hbc, hr4⟩ := hcut
          have hi6 : i < 60 := by omega
          have hsim := sim_all lk_01 lk_10 lk_c10 (by have := lk_c01; omega) lv_nm lk_n1 kk (pp == 1) hj1 hi6 hI
          rw [hop] at hsim
          clear hop hI
          have hsm := small_exp s1 s2 hj2 kk (pp == 1)
          obtain ⟨Q, hQ⟩ : ∃ Q, Q = expT kk (pp == 1) j p := ⟨_, rfl⟩
          rw [← hQ] at hsim hsm
          obtain ⟨hc, hI4⟩ := hsim
          obtain ⟨sm1, sm2⟩ := hsm
          have hi7 : i + 1 ≤ 60 := hi6
          have hbnd := inv_bnd (s0 := pS) (s1 := tS) (by decide) (by decide) hi7 hI4 sm1 sm2
          have hv := inv_valid lv_nm lk_n1 lk_c01 hi7 hI4
          have zwq := hbc.size
          have hO6 : OwnB w wq [(wo4.heap.size, [.string ⟨#[114]⟩, .string j]), (wo3.heap.size, [.string ⟨#[97]⟩, .string ⟨#[98]⟩, .string ⟨#[99]⟩, .string ⟨#[100]⟩]), (wv.heap.size, [.int .u8 (x.k : Int), .int .u8 (x.p : Int), .int .u8 (x.j : Int)]), (w.heap.size + 1, [.string p.1.holder, .slice E1 p.1.waiting.length e1, .slice E2 p.1.held.length e2, .string p.2.holder, .slice F1 p.2.waiting.length f1, .slice F2 p.2.held.length f2]), (w.heap.size, [.string pS, .string tS])] := hO5.kept hbc
          clear c0_0 c0_1 cf0 c1_0 c1_1 c1_2 c1_3 cf1 c2_0 c2_1 c2_2 cf2 c3_0 c3_1 c3_2 c3_3 c3_4 c3_5 cf3 c4_0 c4_1 cf4 hO5
          have c0_0 : wq.cell? ⟨wo4.heap.size, 0, none⟩ = some (.string ⟨#[114]⟩) := hO6.c 0 0
          have c0_1 : wq.cell? ⟨wo4.heap.size, 1, none⟩ = some (.string j) := hO6.c 0 1
          have cf0 := hO6.fr 0
          have c1_0 : wq.cell? ⟨wo3.heap.size, 0, none⟩ = some (.string ⟨#[97]⟩) := hO6.c 1 0
          have c1_1 : wq.cell? ⟨wo3.heap.size, 1, none⟩ = some (.string ⟨#[98]⟩) := hO6.c 1 1
          have c1_2 : wq.cell? ⟨wo3.heap.size, 2, none⟩ = some (.string ⟨#[99]⟩) := hO6.c 1 2
          have c1_3 : wq.cell? ⟨wo3.heap.size, 3, none⟩ = some (.string ⟨#[100]⟩) := hO6.c 1 3
          have cf1 := hO6.fr 1
          have c2_0 : wq.cell? ⟨wv.heap.size, 0, none⟩ = some (.int .u8 (x.k : Int)) := hO6.c 2 0
          have c2_1 : wq.cell? ⟨wv.heap.size, 1, none⟩ = some (.int .u8 (x.p : Int)) := hO6.c 2 1
          have c2_2 : wq.cell? ⟨wv.heap.size, 2, none⟩ = some (.int .u8 (x.j : Int)) := hO6.c 2 2
          have cf2 := hO6.fr 2
          have c3_0 : wq.cell? ⟨w.heap.size + 1, 0, none⟩ = some (.string p.1.holder) := hO6.c 3 0
          have c3_1 : wq.cell? ⟨w.heap.size + 1, 1, none⟩ = some (.slice E1 p.1.waiting.length e1) := hO6.c 3 1
          have c3_2 : wq.cell? ⟨w.heap.size + 1, 2, none⟩ = some (.slice E2 p.1.held.length e2) := hO6.c 3 2
          have c3_3 : wq.cell? ⟨w.heap.size + 1, 3, none⟩ = some (.string p.2.holder) := hO6.c 3 3
          have c3_4 : wq.cell? ⟨w.heap.size + 1, 4, none⟩ = some (.slice F1 p.2.waiting.length f1) := hO6.c 3 4
          have c3_5 : wq.cell? ⟨w.heap.size + 1, 5, none⟩ = some (.slice F2 p.2.held.length f2) := hO6.c 3 5
          have cf3 := hO6.fr 3
          have c4_0 : wq.cell? ⟨w.heap.size, 0, none⟩ = some (.string pS) := hO6.c 4 0
          have c4_1 : wq.cell? ⟨w.heap.size, 1, none⟩ = some (.string tS) := hO6.c 4 1
          have cf4 := hO6.fr 4
          replace hTw : TwN (w.heap.size + 1) wq p E1 e1 E2 e2 F1 f1 F2 f2 := hTw.up hbc
          replace hEnd : EndAt wq (w.heap.size + 1) 6 := hEnd.up (by omega) hbc
          have hE4 : EsN (w.heap.size + 1) wq A4 n4 c4 es4 := env_shun (two_no (hO6.c 3 1) (hO6.c 3 2) (hO6.c 3 4) (hO6.c 3 5) hEnd) hr4
          clear hr4 hEs
          have C := expected_any x.k x.p x.j hx2 p E1 e1 E2 e2 F1 f1 F2 f2 j wq (fun b => b < wq.heap.size ∧ b ≠ (w.heap.size + 1)) (fun _ hp => hp.1) hTw (by omega) (by omega) (by omega) (by omega) Q (by rw [hQ, hkk, hppb.out])
          clear hTw hQ
          replace C := Lib.hid C
          repeat' ((fail_if_success at_builtin); (first | go_skip | go_guarded | go_step))
          refine C.out.mono ?_
          clear C
          rintro e w6 ⟨A1', c1', A2', c2', B1', d1', B2', d2', rfl, hb6, hT6⟩
          dsimp only
          have hzz : (w.heap.size + 1) < wq.heap.size := by omega
          have hTq : TwN (w.heap.size + 1) w6 Q.1 A1' c1' A2' c2' B1' d1' B2' d2' := hT6.move (fun _ _ => rfl) (fun b hb => ⟨hb.1, hb.2.elim (fun h => h.2) (fun h => by omega)⟩)
          clear hT6 hzz
          have zw6 := hb6.size
          have hO7 : OwnB w w6 [(wo4.heap.size, [.string ⟨#[114]⟩, .string j]), (wo3.heap.size, [.string ⟨#[97]⟩, .string ⟨#[98]⟩, .string ⟨#[99]⟩, .string ⟨#[100]⟩]), (wv.heap.size, [.int .u8 (x.k : Int), .int .u8 (x.p : Int), .int .u8 (x.j : Int)]), (w.heap.size + 1, [.string p.1.holder, .slice E1 p.1.waiting.length e1, .slice E2 p.1.held.length e2, .string p.2.holder, .slice F1 p.2.waiting.length f1, .slice F2 p.2.held.length f2]), (w.heap.size, [.string pS, .string tS])] := hO6.kept hb6
          clear c0_0 c0_1 cf0 c1_0 c1_1 c1_2 c1_3 cf1 c2_0 c2_1 c2_2 cf2 c3_0 c3_1 c3_2 c3_3 c3_4 c3_5 cf3 c4_0 c4_1 cf4 hO6
          have c0_0 : w6.cell? ⟨wo4.heap.size, 0, none⟩ = some (.string ⟨#[114]⟩) := hO7.c 0 0
          have c0_1 : w6.cell? ⟨wo4.heap.size, 1, none⟩ = some (.string j) := hO7.c 0 1
          have cf0 := hO7.fr 0
          have c1_0 : w6.cell? ⟨wo3.heap.size, 0, none⟩ = some (.string ⟨#[97]⟩) := hO7.c 1 0
          have c1_1 : w6.cell? ⟨wo3.heap.size, 1, none⟩ = some (.string ⟨#[98]⟩) := hO7.c 1 1
          have c1_2 : w6.cell? ⟨wo3.heap.size, 2, none⟩ = some (.string ⟨#[99]⟩) := hO7.c 1 2
          have c1_3 : w6.cell? ⟨wo3.heap.size, 3, none⟩ = some (.string ⟨#[100]⟩) := hO7.c 1 3
          have cf1 := hO7.fr 1
          have c2_0 : w6.cell? ⟨wv.heap.size, 0, none⟩ = some (.int .u8 (x.k : Int)) := hO7.c 2 0
          have c2_1 : w6.cell? ⟨wv.heap.size, 1, none⟩ = some (.int .u8 (x.p : Int)) := hO7.c 2 1
          have c2_2 : w6.cell? ⟨wv.heap.size, 2, none⟩ = some (.int .u8 (x.j : Int)) := hO7.c 2 2
          have cf2 := hO7.fr 2
          have c3_0 : w6.cell? ⟨w.heap.size + 1, 0, none⟩ = some (.string p.1.holder) := hO7.c 3 0
          have c3_1 : w6.cell? ⟨w.heap.size + 1, 1, none⟩ = some (.slice E1 p.1.waiting.length e1) := hO7.c 3 1
          have c3_2 : w6.cell? ⟨w.heap.size + 1, 2, none⟩ = some (.slice E2 p.1.held.length e2) := hO7.c 3 2
          have c3_3 : w6.cell? ⟨w.heap.size + 1, 3, none⟩ = some (.string p.2.holder) := hO7.c 3 3
          have c3_4 : w6.cell? ⟨w.heap.size + 1, 4, none⟩ = some (.slice F1 p.2.waiting.length f1) := hO7.c 3 4
          have c3_5 : w6.cell? ⟨w.heap.size + 1, 5, none⟩ = some (.slice F2 p.2.held.length f2) := hO7.c 3 5
          have cf3 := hO7.fr 3
          have c4_0 : w6.cell? ⟨w.heap.size, 0, none⟩ = some (.string pS) := hO7.c 4 0
          have c4_1 : w6.cell? ⟨w.heap.size, 1, none⟩ = some (.string tS) := hO7.c 4 1
          have cf4 := hO7.fr 4
          replace hEnd : EndAt w6 (w.heap.size + 1) 6 := hEnd.up (by omega) hb6
          replace hE4 : EsN (w.heap.size + 1) w6 A4 n4 c4 es4 := hE4.up hb6
          go_upto_region 23 with (fail)
          generalize hx_ : World.alloc w6 _ = wo8
          have hO8 : OwnB w wo8 [(w6.heap.size, [.string Q.1.1.holder, .slice A1' Q.1.1.waiting.length c1', .slice A2' Q.1.1.held.length c2', .string Q.1.2.holder, .slice B1' Q.1.2.waiting.length d1', .slice B2' Q.1.2.held.length d2']), (wo4.heap.size, [.string ⟨#[114]⟩, .string j]), (wo3.heap.size, [.string ⟨#[97]⟩, .string ⟨#[98]⟩, .string ⟨#[99]⟩, .string ⟨#[100]⟩]), (wv.heap.size, [.int .u8 (x.k : Int), .int .u8 (x.p : Int), .int .u8 (x.j : Int)]), (w.heap.size + 1, [.string p.1.holder, .slice E1 p.1.waiting.length e1, .slice E2 p.1.held.length e2, .string p.2.holder, .slice F1 p.2.waiting.length f1, .slice F2 p.2.held.length f2]), (w.heap.size, [.string pS, .string tS])] := by rw [← hx_]; exact hO7.new #[.string Q.1.1.holder, .slice A1' Q.1.1.waiting.length c1', .slice A2' Q.1.1.held.length c2', .string Q.1.2.holder, .slice B1' Q.1.2.waiting.length d1', .slice B2' Q.1.2.held.length d2'] _ (g := w6.heap.size)
          have hbn : Below w6.heap.size w6 wo8 := by rw [← hx_]; exact (Below.refl _ _).alloc (Nat.le_refl _) _
          have zwo8 : w6.heap.size + 0 < wo8.heap.size := by rw [← hx_]; simp <;> omega
          clear hx_ c0_0 c0_1 cf0 c1_0 c1_1 c1_2 c1_3 cf1 c2_0 c2_1 c2_2 cf2 c3_0 c3_1 c3_2 c3_3 c3_4 c3_5 cf3 c4_0 c4_1 cf4 hO7
          have c0_0 : wo8.cell? ⟨w6.heap.size, 0, none⟩ = some (.string Q.1.1.holder) := hO8.c 0 0
          have c0_1 : wo8.cell? ⟨w6.heap.size, 1, none⟩ = some (.slice A1' Q.1.1.waiting.length c1') := hO8.c 0 1
          have c0_2 : wo8.cell? ⟨w6.heap.size, 2, none⟩ = some (.slice A2' Q.1.1.held.length c2') := hO8.c 0 2
          have c0_3 : wo8.cell? ⟨w6.heap.size, 3, none⟩ = some (.string Q.1.2.holder) := hO8.c 0 3
          have c0_4 : wo8.cell? ⟨w6.heap.size, 4, none⟩ = some (.slice B1' Q.1.2.waiting.length d1') := hO8.c 0 4
          have c0_5 : wo8.cell? ⟨w6.heap.size, 5, none⟩ = some (.slice B2' Q.1.2.held.length d2') := hO8.c 0 5
          have cf0 := hO8.fr 0
          have c1_0 : wo8.cell? ⟨wo4.heap.size, 0, none⟩ = some (.string ⟨#[114]⟩) := hO8.c 1 0
          have c1_1 : wo8.cell? ⟨wo4.heap.size, 1, none⟩ = some (.string j) := hO8.c 1 1
          have cf1 := hO8.fr 1
          have c2_0 : wo8.cell? ⟨wo3.heap.size, 0, none⟩ = some (.string ⟨#[97]⟩) := hO8.c 2 0
          have c2_1 : wo8.cell? ⟨wo3.heap.size, 1, none⟩ = some (.string ⟨#[98]⟩) := hO8.c 2 1
          have c2_2 : wo8.cell? ⟨wo3.heap.size, 2, none⟩ = some (.string ⟨#[99]⟩) := hO8.c 2 2
          have c2_3 : wo8.cell? ⟨wo3.heap.size, 3, none⟩ = some (.string ⟨#[100]⟩) := hO8.c 2 3
          have cf2 := hO8.fr 2
          have c3_0 : wo8.cell? ⟨wv.heap.size, 0, none⟩ = some (.int .u8 (x.k : Int)) := hO8.c 3 0
          have c3_1 : wo8.cell? ⟨wv.heap.size, 1, none⟩ = some (.int .u8 (x.p : Int)) := hO8.c 3 1
          have c3_2 : wo8.cell? ⟨wv.heap.size, 2, none⟩ = some (.int .u8 (x.j : Int)) := hO8.c 3 2
          have cf3 := hO8.fr 3
          have c4_0 : wo8.cell? ⟨w.heap.size + 1, 0, none⟩ = some (.string p.1.holder) := hO8.c 4 0
          have c4_1 : wo8.cell? ⟨w.heap.size + 1, 1, none⟩ = some (.slice E1 p.1.waiting.length e1) := hO8.c 4 1
          have c4_2 : wo8.cell? ⟨w.heap.size + 1, 2, none⟩ = some (.slice E2 p.1.held.length e2) := hO8.c 4 2
          have c4_3 : wo8.cell? ⟨w.heap.size + 1, 3, none⟩ = some (.string p.2.holder) := hO8.c 4 3
          have c4_4 : wo8.cell? ⟨w.heap.size + 1, 4, none⟩ = some (.slice F1 p.2.waiting.length f1) := hO8.c 4 4
          have c4_5 : wo8.cell? ⟨w.heap.size + 1, 5, none⟩ = some (.slice F2 p.2.held.length f2) := hO8.c 4 5
          have cf4 := hO8.fr 4
          have c5_0 : wo8.cell? ⟨w.heap.size, 0, none⟩ = some (.string pS) := hO8.c 5 0
          have c5_1 : wo8.cell? ⟨w.heap.size, 1, none⟩ = some (.string tS) := hO8.c 5 1
          have cf5 := hO8.fr 5
          replace hEnd : EndAt wo8 (w.heap.size + 1) 6 := hEnd.up (by omega) hbn
          replace hE4 : EsN (w.heap.size + 1) wo8 A4 n4 c4 es4 := hE4.up hbn
          replace hTq : TwN (w.heap.size + 1) wo8 Q.1 A1' c1' A2' c2' B1' d1' B2' d2' := hTq.up hbn
          clear hbn
          have C := valid_any es4 A4 n4 c4 wo8 (hbnd.EW.envs hE4.fin) hbnd.ok (fun x hx => by have := hbnd.wait x hx; omega) hbnd.go
          rw [hv] at C
          clear hv
          replace C := Lib.hid C
          generalize hok : Q.2 = ok at *
          replace hbnd := Lib.hid hbnd
          repeat' ((fail_if_success at_builtin); (first | go_skip | go_guarded | go_step))
          refine C.out.mono ?_
          clear C
          rintro e w9 ⟨rfl, hb9⟩
          dsimp only
          have zw9 := hb9.size
          have hO9 : OwnB w w9 [(w6.heap.size, [.string Q.1.1.holder, .slice A1' Q.1.1.waiting.length c1', .slice A2' Q.1.1.held.length c2', .string Q.1.2.holder, .slice B1' Q.1.2.waiting.length d1', .slice B2' Q.1.2.held.length d2']), (wo4.heap.size, [.string ⟨#[114]⟩, .string j]), (wo3.heap.size, [.string ⟨#[97]⟩, .string ⟨#[98]⟩, .string ⟨#[99]⟩, .string ⟨#[100]⟩]), (wv.heap.size, [.int .u8 (x.k : Int), .int .u8 (x.p : Int), .int .u8 (x.j : Int)]), (w.heap.size + 1, [.string p.1.holder, .slice E1 p.1.waiting.length e1, .slice E2 p.1.held.length e2, .string p.2.holder, .slice F1 p.2.waiting.length f1, .slice F2 p.2.held.length f2]), (w.heap.size, [.string pS, .string tS])] := hO8.kept hb9
          clear c0_0 c0_1 c0_2 c0_3 c0_4 c0_5 cf0 c1_0 c1_1 cf1 c2_0 c2_1 c2_2 c2_3 cf2 c3_0 c3_1 c3_2 cf3 c4_0 c4_1 c4_2 c4_3 c4_4 c4_5 cf4 c5_0 c5_1 cf5 hO8
          have c0_0 : w9.cell? ⟨w6.heap.size, 0, none⟩ = some (.string Q.1.1.holder) := hO9.c 0 0
          have c0_1 : w9.cell? ⟨w6.heap.size, 1, none⟩ = some (.slice A1' Q.1.1.waiting.length c1') := hO9.c 0 1
          have c0_2 : w9.cell? ⟨w6.heap.size, 2, none⟩ = some (.slice A2' Q.1.1.held.length c2') := hO9.c 0 2
          have c0_3 : w9.cell? ⟨w6.heap.size, 3, none⟩ = some (.string Q.1.2.holder) := hO9.c 0 3
          have c0_4 : w9.cell? ⟨w6.heap.size, 4, none⟩ = some (.slice B1' Q.1.2.waiting.length d1') := hO9.c 0 4
          have c0_5 : w9.cell? ⟨w6.heap.size, 5, none⟩ = some (.slice B2' Q.1.2.held.length d2') := hO9.c 0 5
          have cf0 := hO9.fr 0
          have c1_0 : w9.cell? ⟨wo4.heap.size, 0, none⟩ = some (.string ⟨#[114]⟩) := hO9.c 1 0
          have c1_1 : w9.cell? ⟨wo4.heap.size, 1, none⟩ = some (.string j) := hO9.c 1 1
          have cf1 := hO9.fr 1
          have c2_0 : w9.cell? ⟨wo3.heap.size, 0, none⟩ = some (.string ⟨#[97]⟩) := hO9.c 2 0
          have c2_1 : w9.cell? ⟨wo3.heap.size, 1, none⟩ = some (.string ⟨#[98]⟩) := hO9.c 2 1
          have c2_2 : w9.cell? ⟨wo3.heap.size, 2, none⟩ = some (.string ⟨#[99]⟩) := hO9.c 2 2
          have c2_3 : w9.cell? ⟨wo3.heap.size, 3, none⟩ = some (.string ⟨#[100]⟩) := hO9.c 2 3
          have cf2 := hO9.fr 2
          have c3_0 : w9.cell? ⟨wv.heap.size, 0, none⟩ = some (.int .u8 (x.k : Int)) := hO9.c 3 0
          have c3_1 : w9.cell? ⟨wv.heap.size, 1, none⟩ = some (.int .u8 (x.p : Int)) := hO9.c 3 1
          have c3_2 : w9.cell? ⟨wv.heap.size, 2, none⟩ = some (.int .u8 (x.j : Int)) := hO9.c 3 2
          have cf3 := hO9.fr 3
          have c4_0 : w9.cell? ⟨w.heap.size + 1, 0, none⟩ = some (.string p.1.holder) := hO9.c 4 0
          have c4_1 : w9.cell? ⟨w.heap.size + 1, 1, none⟩ = some (.slice E1 p.1.waiting.length e1) := hO9.c 4 1
          have c4_2 : w9.cell? ⟨w.heap.size + 1, 2, none⟩ = some (.slice E2 p.1.held.length e2) := hO9.c 4 2
          have c4_3 : w9.cell? ⟨w.heap.size + 1, 3, none⟩ = some (.string p.2.holder) := hO9.c 4 3
          have c4_4 : w9.cell? ⟨w.heap.size + 1, 4, none⟩ = some (.slice F1 p.2.waiting.length f1) := hO9.c 4 4
          have c4_5 : w9.cell? ⟨w.heap.size + 1, 5, none⟩ = some (.slice F2 p.2.held.length f2) := hO9.c 4 5
          have cf4 := hO9.fr 4
          have c5_0 : w9.cell? ⟨w.heap.size, 0, none⟩ = some (.string pS) := hO9.c 5 0
          have c5_1 : w9.cell? ⟨w.heap.size, 1, none⟩ = some (.string tS) := hO9.c 5 1
          have cf5 := hO9.fr 5
          replace hEnd : EndAt w9 (w.heap.size + 1) 6 := hEnd.up (by omega) hb9
          replace hE4 : EsN (w.heap.size + 1) w9 A4 n4 c4 es4 := hE4.up hb9
          replace hTq : TwN (w.heap.size + 1) w9 Q.1 A1' c1' A2' c2' B1' d1' B2' d2' := hTq.up hb9
          go_upto_region 26 with (fail)
          generalize hx_ : World.setCell (World.setCell (World.setCell (World.setCell (World.setCell (World.setCell _ _ _) _ _) _ _) _ _) _ _) _ _ = wo10
          have hO10 : OwnB w wo10 [(w6.heap.size, [.string Q.1.1.holder, .slice A1' Q.1.1.waiting.length c1', .slice A2' Q.1.1.held.length c2', .string Q.1.2.holder, .slice B1' Q.1.2.waiting.length d1', .slice B2' Q.1.2.held.length d2']), (wo4.heap.size, [.string ⟨#[114]⟩, .string j]), (wo3.heap.size, [.string ⟨#[97]⟩, .string ⟨#[98]⟩, .string ⟨#[99]⟩, .string ⟨#[100]⟩]), (wv.heap.size, [.int .u8 (x.k : Int), .int .u8 (x.p : Int), .int .u8 (x.j : Int)]), (w.heap.size + 1, [.string Q.1.1.holder, .slice A1' Q.1.1.waiting.length c1', .slice A2' Q.1.1.held.length c2', .string Q.1.2.holder, .slice B1' Q.1.2.waiting.length d1', .slice B2' Q.1.2.held.length d2']), (w.heap.size, [.string pS, .string tS])] := by rw [← hx_]; exact (((((hO9.store 4 rfl 0 _).store 4 rfl 1 _).store 4 rfl 2 _).store 4 rfl 3 _).store 4 rfl 4 _).store 4 rfl 5 _
          have zwo10 : w9.heap.size ≤ wo10.heap.size := by rw [← hx_]; simp [World.setCell]
          replace hEnd : EndAt wo10 (w.heap.size + 1) 6 := by rw [← hx_]; exact ((((((hEnd.set (by omega)).set (by omega)).set (by omega)).set (by omega)).set (by omega)).set (by omega))
          replace hE4 : EsN (w.heap.size + 1) wo10 A4 n4 c4 es4 := by rw [← hx_]; exact ((((((hE4.set).set).set).set).set).set)
          replace hTq : TwN (w.heap.size + 1) wo10 Q.1 A1' c1' A2' c2' B1' d1' B2' d2' := by rw [← hx_]; exact ((((((hTq.set).set).set).set).set).set)
          clear hx_ c0_0 c0_1 c0_2 c0_3 c0_4 c0_5 cf0 c1_0 c1_1 cf1 c2_0 c2_1 c2_2 c2_3 cf2 c3_0 c3_1 c3_2 cf3 c4_0 c4_1 c4_2 c4_3 c4_4 c4_5 cf4 c5_0 c5_1 cf5 hO9
          have c0_0 : wo10.cell? ⟨w6.heap.size, 0, none⟩ = some (.string Q.1.1.holder) := hO10.c 0 0
          have c0_1 : wo10.cell? ⟨w6.heap.size, 1, none⟩ = some (.slice A1' Q.1.1.waiting.length c1') := hO10.c 0 1
          have c0_2 : wo10.cell? ⟨w6.heap.size, 2, none⟩ = some (.slice A2' Q.1.1.held.length c2') := hO10.c 0 2
          have c0_3 : wo10.cell? ⟨w6.heap.size, 3, none⟩ = some (.string Q.1.2.holder) := hO10.c 0 3
          have c0_4 : wo10.cell? ⟨w6.heap.size, 4, none⟩ = some (.slice B1' Q.1.2.waiting.length d1') := hO10.c 0 4
          have c0_5 : wo10.cell? ⟨w6.heap.size, 5, none⟩ = some (.slice B2' Q.1.2.held.length d2') := hO10.c 0 5
          have cf0 := hO10.fr 0
          have c1_0 : wo10.cell? ⟨wo4.heap.size, 0, none⟩ = some (.string ⟨#[114]⟩) := hO10.c 1 0
          have c1_1 : wo10.cell? ⟨wo4.heap.size, 1, none⟩ = some (.string j) := hO10.c 1 1
          have cf1 := hO10.fr 1
          have c2_0 : wo10.cell? ⟨wo3.heap.size, 0, none⟩ = some (.string ⟨#[97]⟩) := hO10.c 2 0
          have c2_1 : wo10.cell? ⟨wo3.heap.size, 1, none⟩ = some (.string ⟨#[98]⟩) := hO10.c 2 1
          have c2_2 : wo10.cell? ⟨wo3.heap.size, 2, none⟩ = some (.string ⟨#[99]⟩) := hO10.c 2 2
          have c2_3 : wo10.cell? ⟨wo3.heap.size, 3, none⟩ = some (.string ⟨#[100]⟩) := hO10.c 2 3
          have cf2 := hO10.fr 2
          have c3_0 : wo10.cell? ⟨wv.heap.size, 0, none⟩ = some (.int .u8 (x.k : Int)) := hO10.c 3 0
          have c3_1 : wo10.cell? ⟨wv.heap.size, 1, none⟩ = some (.int .u8 (x.p : Int)) := hO10.c 3 1
          have c3_2 : wo10.cell? ⟨wv.heap.size, 2, none⟩ = some (.int .u8 (x.j : Int)) := hO10.c 3 2
          have cf3 := hO10.fr 3
          have c4_0 : wo10.cell? ⟨w.heap.size + 1, 0, none⟩ = some (.string Q.1.1.holder) := hO10.c 4 0
          have c4_1 : wo10.cell? ⟨w.heap.size + 1, 1, none⟩ = some (.slice A1' Q.1.1.waiting.length c1') := hO10.c 4 1
          have c4_2 : wo10.cell? ⟨w.heap.size + 1, 2, none⟩ = some (.slice A2' Q.1.1.held.length c2') := hO10.c 4 2
          have c4_3 : wo10.cell? ⟨w.heap.size + 1, 3, none⟩ = some (.string Q.1.2.holder) := hO10.c 4 3
          have c4_4 : wo10.cell? ⟨w.heap.size + 1, 4, none⟩ = some (.slice B1' Q.1.2.waiting.length d1') := hO10.c 4 4
          have c4_5 : wo10.cell? ⟨w.heap.size + 1, 5, none⟩ = some (.slice B2' Q.1.2.held.length d2') := hO10.c 4 5
          have cf4 := hO10.fr 4
          have c5_0 : wo10.cell? ⟨w.heap.size, 0, none⟩ = some (.string pS) := hO10.c 5 0
          have c5_1 : wo10.cell? ⟨w.heap.size, 1, none⟩ = some (.string tS) := hO10.c 5 1
          have cf5 := hO10.fr 5
          repeat' ((fail_if_success at_builtin); (first | go_skip | go_guarded | go_step))
          go_loopw [13] (fun u13 wy => ∃ k2 : Nat, k2 ≤ 2 ∧ u13 = .int .i64 (k2 : Int) ∧ Below wo10.heap.size wo10 wy) (fun u13 _ => 2 - (intOf u13).toNat)
          case atStart => exact ⟨0, by omega, rfl, Below.refl _ _⟩
          case round =>
            obtain ⟨k2, hk2, rfl, hbk⟩ := hrel
            have zwr := hbk.size
            have hO11 : OwnB w wr [(w6.heap.size, [.string Q.1.1.holder, .slice A1' Q.1.1.waiting.length c1', .slice A2' Q.1.1.held.length c2', .string Q.1.2.holder, .slice B1' Q.1.2.waiting.length d1', .slice B2' Q.1.2.held.length d2']), (wo4.heap.size, [.string ⟨#[114]⟩, .string j]), (wo3.heap.size, [.string ⟨#[97]⟩, .string ⟨#[98]⟩, .string ⟨#[99]⟩, .string ⟨#[100]⟩]), (wv.heap.size, [.int .u8 (x.k : Int), .int .u8 (x.p : Int), .int .u8 (x.j : Int)]), (w.heap.size + 1, [.string Q.1.1.holder, .slice A1' Q.1.1.waiting.length c1', .slice A2' Q.1.1.held.length c2', .string Q.1.2.holder, .slice B1' Q.1.2.waiting.length d1', .slice B2' Q.1.2.held.length d2']), (w.heap.size, [.string pS, .string tS])] := hO10.kept hbk
            clear c0_0 c0_1 c0_2 c0_3 c0_4 c0_5 cf0 c1_0 c1_1 cf1 c2_0 c2_1 c2_2 c2_3 cf2 c3_0 c3_1 c3_2 cf3 c4_0 c4_1 c4_2 c4_3 c4_4 c4_5 cf4 c5_0 c5_1 cf5 hO10
            have c0_0 : wr.cell? ⟨w6.heap.size, 0, none⟩ = some (.string Q.1.1.holder) := hO11.c 0 0
            have c0_1 : wr.cell? ⟨w6.heap.size, 1, none⟩ = some (.slice A1' Q.1.1.waiting.length c1') := hO11.c 0 1
            have c0_2 : wr.cell? ⟨w6.heap.size, 2, none⟩ = some (.slice A2' Q.1.1.held.length c2') := hO11.c 0 2
            have c0_3 : wr.cell? ⟨w6.heap.size, 3, none⟩ = some (.string Q.1.2.holder) := hO11.c 0 3
            have c0_4 : wr.cell? ⟨w6.heap.size, 4, none⟩ = some (.slice B1' Q.1.2.waiting.length d1') := hO11.c 0 4
            have c0_5 : wr.cell? ⟨w6.heap.size, 5, none⟩ = some (.slice B2' Q.1.2.held.length d2') := hO11.c 0 5
            have cf0 := hO11.fr 0
            have c1_0 : wr.cell? ⟨wo4.heap.size, 0, none⟩ = some (.string ⟨#[114]⟩) := hO11.c 1 0
            have c1_1 : wr.cell? ⟨wo4.heap.size, 1, none⟩ = some (.string j) := hO11.c 1 1
            have cf1 := hO11.fr 1
            have c2_0 : wr.cell? ⟨wo3.heap.size, 0, none⟩ = some (.string ⟨#[97]⟩) := hO11.c 2 0
            have c2_1 : wr.cell? ⟨wo3.heap.size, 1, none⟩ = some (.string ⟨#[98]⟩) := hO11.c 2 1
            have c2_2 : wr.cell? ⟨wo3.heap.size, 2, none⟩ = some (.string ⟨#[99]⟩) := hO11.c 2 2
            have c2_3 : wr.cell? ⟨wo3.heap.size, 3, none⟩ = some (.string ⟨#[100]⟩) := hO11.c 2 3
            have cf2 := hO11.fr 2
            have c3_0 : wr.cell? ⟨wv.heap.size, 0, none⟩ = some (.int .u8 (x.k : Int)) := hO11.c 3 0
            have c3_1 : wr.cell? ⟨wv.heap.size, 1, none⟩ = some (.int .u8 (x.p : Int)) := hO11.c 3 1
            have c3_2 : wr.cell? ⟨wv.heap.size, 2, none⟩ = some (.int .u8 (x.j : Int)) := hO11.c 3 2
            have cf3 := hO11.fr 3
            have c4_0 : wr.cell? ⟨w.heap.size + 1, 0, none⟩ = some (.string Q.1.1.holder) := hO11.c 4 0
            have c4_1 : wr.cell? ⟨w.heap.size + 1, 1, none⟩ = some (.slice A1' Q.1.1.waiting.length c1') := hO11.c 4 1
            have c4_2 : wr.cell? ⟨w.heap.size + 1, 2, none⟩ = some (.slice A2' Q.1.1.held.length c2') := hO11.c 4 2
            have c4_3 : wr.cell? ⟨w.heap.size + 1, 3, none⟩ = some (.string Q.1.2.holder) := hO11.c 4 3
            have c4_4 : wr.cell? ⟨w.heap.size + 1, 4, none⟩ = some (.slice B1' Q.1.2.waiting.length d1') := hO11.c 4 4
            have c4_5 : wr.cell? ⟨w.heap.size + 1, 5, none⟩ = some (.slice B2' Q.1.2.held.length d2') := hO11.c 4 5
            have cf4 := hO11.fr 4
            have c5_0 : wr.cell? ⟨w.heap.size, 0, none⟩ = some (.string pS) := hO11.c 5 0
            have c5_1 : wr.cell? ⟨w.heap.size, 1, none⟩ = some (.string tS) := hO11.c 5 1
            have cf5 := hO11.fr 5
            replace hEnd : EndAt wr (w.heap.size + 1) 6 := hEnd.up (by omega) hbk
            replace hE4 : EsN (w.heap.size + 1) wr A4 n4 c4 es4 := hE4.up hbk
            replace hTq : TwN (w.heap.size + 1) wr Q.1 A1' c1' A2' c2' B1' d1' B2' d2' := hTq.up hbk
            have y1 := hO11.lt 4
            have y2 := hO11.lt 5
            have hk3 : k2 = 0 ∨ k2 = 1 ∨ k2 = 2 := by omega
            clear hk2
            rcases hk3 with rfl | rfl | rfl
            · skip
              have hf := inv_fits lk_01 lk_10 false hI4
              have hwl : Q.1.1.waiting.length ≤ 1000000 := by have := hbnd.out.w1; omega
              have hS0 : (Below wr.heap.size wr wr ∧ wr.cell? ⟨w.heap.size, 0, none⟩ = some (.string pS) ∧ wr.cell? ⟨(w.heap.size + 1), 0, none⟩ = some (.string Q.1.1.holder) ∧ wr.cell? ⟨(w.heap.size + 1), 1, none⟩ = some (.slice A1' Q.1.1.waiting.length c1') ∧ wr.cell? ⟨(w.heap.size + 1), 2, none⟩ = some (.slice A2' Q.1.1.held.length c2')) := ⟨Below.refl _ _, hO11.c 5 0, hO11.c 4 0, hO11.c 4 1, hO11.c 4 2⟩
              have keepS : ∀ v1 v2 : World, (Below wr.heap.size wr v1 ∧ v1.cell? ⟨w.heap.size, 0, none⟩ = some (.string pS) ∧ v1.cell? ⟨(w.heap.size + 1), 0, none⟩ = some (.string Q.1.1.holder) ∧ v1.cell? ⟨(w.heap.size + 1), 1, none⟩ = some (.slice A1' Q.1.1.waiting.length c1') ∧ v1.cell? ⟨(w.heap.size + 1), 2, none⟩ = some (.slice A2' Q.1.1.held.length c2')) → Below v1.heap.size v1 v2 → (Below wr.heap.size wr v2 ∧ v2.cell? ⟨w.heap.size, 0, none⟩ = some (.string pS) ∧ v2.cell? ⟨(w.heap.size + 1), 0, none⟩ = some (.string Q.1.1.holder) ∧ v2.cell? ⟨(w.heap.size + 1), 1, none⟩ = some (.slice A1' Q.1.1.waiting.length c1') ∧ v2.cell? ⟨(w.heap.size + 1), 2, none⟩ = some (.slice A2' Q.1.1.held.length c2')) := fun v1 v2 h hb => ⟨h.1.trans (hb.mono h.1.size), (hb.cell (p := ⟨w.heap.size, _, none⟩) (Nat.lt_of_lt_of_le y2 h.1.size)).trans h.2.1, (hb.cell (p := ⟨(w.heap.size + 1), _, none⟩) (Nat.lt_of_lt_of_le y1 h.1.size)).trans h.2.2.1, (hb.cell (p := ⟨(w.heap.size + 1), _, none⟩) (Nat.lt_of_lt_of_le y1 h.1.size)).trans h.2.2.2.1, (hb.cell (p := ⟨(w.heap.size + 1), _, none⟩) (Nat.lt_of_lt_of_le y1 h.1.size)).trans h.2.2.2.2⟩
              have hS1 : (Below wr.heap.size wr wr.drew ∧ wr.drew.cell? ⟨w.heap.size, 0, none⟩ = some (.string pS) ∧ wr.drew.cell? ⟨(w.heap.size + 1), 0, none⟩ = some (.string Q.1.1.holder) ∧ wr.drew.cell? ⟨(w.heap.size + 1), 1, none⟩ = some (.slice A1' Q.1.1.waiting.length c1') ∧ wr.drew.cell? ⟨(w.heap.size + 1), 2, none⟩ = some (.slice A2' Q.1.1.held.length c2')) := keepS _ _ hS0 ((Below.refl _ _).drew)
              replace keepS := Lib.hid keepS
              clear hS0
              go_upto_region 29 with (fail)
              refine wp_region_held_drew (S := fun w' => Below wr.heap.size wr w' ∧ w'.cell? ⟨w.heap.size, 0, none⟩ = some (.string pS) ∧ w'.cell? ⟨(w.heap.size + 1), 0, none⟩ = some (.string Q.1.1.holder) ∧ w'.cell? ⟨(w.heap.size + 1), 1, none⟩ = some (.slice A1' Q.1.1.waiting.length c1') ∧ w'.cell? ⟨(w.heap.size + 1), 2, none⟩ = some (.slice A2' Q.1.1.held.length c2')) (by kernel_rfl) ?_ (fun hHeld => ?_)
              · (try dsimp only)
                exact hS1
              refine tkY 0 (v := ?v97) rfl (.inl ⟨by rfl, ?hy97⟩) ?hr97
              case hy97 => (intro w hSw; (try dsimp only at hSw); go_simp; try with_reducible rfl)
              simp only [Act.put, List.getElem_toArray, List.getElem_cons_zero, List.setIfInBounds_toArray, List.set_cons_zero, List.set_cons_succ]
              refine tkY 1 (v := ?v98) rfl (.inl ⟨by rfl, ?hy98⟩) ?hr98
              case hy98 => (intro w hSw; (try dsimp only at hSw); go_simp; try with_reducible rfl)
              simp only [Act.put, List.getElem_toArray, List.getElem_cons_zero, List.getElem_cons_succ, List.setIfInBounds_toArray, List.set_cons_zero, List.set_cons_succ]
              refine tkY 2 (v := ?v99) rfl (.inl ⟨by rfl, ?hy99⟩) ?hr99
              case hy99 => (intro w hSw; (try dsimp only at hSw); go_simp; try with_reducible rfl)
              simp only [Act.put, List.getElem_toArray, List.getElem_cons_zero, List.getElem_cons_succ, List.setIfInBounds_toArray, List.set_cons_zero, List.set_cons_succ]
              refine tkY 3 (v := ?v100) rfl (.inl ⟨by rfl, ?hy100⟩) ?hr100
              case hy100 => (intro w hSw; (try dsimp only at hSw); go_simp; try with_reducible rfl)
              simp only [Act.put, List.getElem_toArray, List.getElem_cons_zero, List.getElem_cons_succ, List.setIfInBounds_toArray, List.set_cons_zero, List.set_cons_succ]
              refine tkY 4 (v := ?v101) rfl (.inl ⟨by rfl, ?hy101⟩) ?hr101
              case hy101 => (intro w hSw; (try dsimp only at hSw); go_simp; try with_reducible rfl)
              simp only [Act.put, List.getElem_toArray, List.getElem_cons_zero, List.getElem_cons_succ, List.setIfInBounds_toArray, List.set_cons_zero, List.set_cons_succ]
              refine tkY 5 (v := ?v102) rfl (.inl ⟨by rfl, ?hy102⟩) ?hr102
              case hy102 => (intro w hSw; (try dsimp only at hSw); go_simp; try with_reducible rfl)
              simp only [Act.put, List.getElem_toArray, List.getElem_cons_zero, List.getElem_cons_succ, List.setIfInBounds_toArray, List.set_cons_zero, List.set_cons_succ]
              refine tkY 6 (v := ?v103) rfl (.inl ⟨by rfl, ?hy103⟩) ?hr103
              case hy103 => (intro w hSw; (try dsimp only at hSw); go_simp; try with_reducible rfl)
              simp only [Act.put, List.getElem_toArray, List.getElem_cons_zero, List.getElem_cons_succ, List.setIfInBounds_toArray, List.set_cons_zero, List.set_cons_succ]
              refine tkY 7 (v := ?v104) rfl (.inl ⟨by rfl, ?hy104⟩) ?hr104
              case hy104 => (intro w hSw; (try dsimp only at hSw); go_simp; try with_reducible rfl)
              simp only [Act.put, List.getElem_toArray, List.getElem_cons_zero, List.getElem_cons_succ, List.setIfInBounds_toArray, List.set_cons_zero, List.set_cons_succ]
              refine wpAnyH_ready (rs := [8]) (by kernel_rfl) (by simp) ?_
              refine AllReadyH.cons rfl (fun K hK => ?_) AllReadyH.nil
              go_simp
              go_at_call 25
              have hTy := hTq.up hHeld.1
              refine (fits_any es4 pS Q.1.1 A4 n4 c4 A1' c1' A2' c2' _ (hbnd.out.EW.envs (hE4.up hHeld.1).fin) (hTy.w1.more rB_ok (fun _ hp => hp.1)) (by omega) hf).mono ?_
              rintro e r1 ⟨rfl, hbq⟩
              dsimp only
              refine hK.out _ _ ?_ (fun hHeld => ?_)
              · (try dsimp only)
                exact keepS.out _ _ hHeld hbq
              clear hK K
              try simp only [Act.put, List.getElem_toArray, List.getElem_cons_zero, List.getElem_cons_succ, List.setIfInBounds_toArray, List.set_cons_zero, List.set_cons_succ]
              refine tkY 9 (v := ?v105) rfl (.inl ⟨by rfl, ?hy105⟩) ?hr105
              case hy105 => (intro w hSw; (try dsimp only at hSw); go_simp; try with_reducible rfl)
              simp only [Act.put, List.getElem_toArray, List.getElem_cons_zero, List.getElem_cons_succ, List.setIfInBounds_toArray, List.set_cons_zero, List.set_cons_succ]
              refine wpAnyH_done (by kernel_rfl) ?_ _
              have hbW := hHeld.1
              clear hHeld hS1 keepS
              repeat' ((fail_if_success at_builtin); (first | go_skip | go_guarded | go_step))
              go_roundw
              case rel => exact ⟨1, by omega, by first | rfl | go_num, hbk.trans (hbW.mono hbk.size)⟩
              case measure => (try go_num); (try simp [intOf]); (try omega)
            · skip
              have hf := inv_fits lk_01 lk_10 true hI4
              have hwl : Q.1.2.waiting.length ≤ 1000000 := by have := hbnd.out.w2; omega
              have hS0 : (Below wr.heap.size wr wr ∧ wr.cell? ⟨w.heap.size, 1, none⟩ = some (.string tS) ∧ wr.cell? ⟨(w.heap.size + 1), 3, none⟩ = some (.string Q.1.2.holder) ∧ wr.cell? ⟨(w.heap.size + 1), 4, none⟩ = some (.slice B1' Q.1.2.waiting.length d1') ∧ wr.cell? ⟨(w.heap.size + 1), 5, none⟩ = some (.slice B2' Q.1.2.held.length d2')) := ⟨Below.refl _ _, hO11.c 5 1, hO11.c 4 3, hO11.c 4 4, hO11.c 4 5⟩
              have keepS : ∀ v1 v2 : World, (Below wr.heap.size wr v1 ∧ v1.cell? ⟨w.heap.size, 1, none⟩ = some (.string tS) ∧ v1.cell? ⟨(w.heap.size + 1), 3, none⟩ = some (.string Q.1.2.holder) ∧ v1.cell? ⟨(w.heap.size + 1), 4, none⟩ = some (.slice B1' Q.1.2.waiting.length d1') ∧ v1.cell? ⟨(w.heap.size + 1), 5, none⟩ = some (.slice B2' Q.1.2.held.length d2')) → Below v1.heap.size v1 v2 → (Below wr.heap.size wr v2 ∧ v2.cell? ⟨w.heap.size, 1, none⟩ = some (.string tS) ∧ v2.cell? ⟨(w.heap.size + 1), 3, none⟩ = some (.string Q.1.2.holder) ∧ v2.cell? ⟨(w.heap.size + 1), 4, none⟩ = some (.slice B1' Q.1.2.waiting.length d1') ∧ v2.cell? ⟨(w.heap.size + 1), 5, none⟩ = some (.slice B2' Q.1.2.held.length d2')) := fun v1 v2 h hb => ⟨h.1.trans (hb.mono h.1.size), (hb.cell (p := ⟨w.heap.size, _, none⟩) (Nat.lt_of_lt_of_le y2 h.1.size)).trans h.2.1, (hb.cell (p := ⟨(w.heap.size + 1), _, none⟩) (Nat.lt_of_lt_of_le y1 h.1.size)).trans h.2.2.1, (hb.cell (p := ⟨(w.heap.size + 1), _, none⟩) (Nat.lt_of_lt_of_le y1 h.1.size)).trans h.2.2.2.1, (hb.cell (p := ⟨(w.heap.size + 1), _, none⟩) (Nat.lt_of_lt_of_le y1 h.1.size)).trans h.2.2.2.2⟩
              have hS1 : (Below wr.heap.size wr wr.drew ∧ wr.drew.cell? ⟨w.heap.size, 1, none⟩ = some (.string tS) ∧ wr.drew.cell? ⟨(w.heap.size + 1), 3, none⟩ = some (.string Q.1.2.holder) ∧ wr.drew.cell? ⟨(w.heap.size + 1), 4, none⟩ = some (.slice B1' Q.1.2.waiting.length d1') ∧ wr.drew.cell? ⟨(w.heap.size + 1), 5, none⟩ = some (.slice B2' Q.1.2.held.length d2')) := keepS _ _ hS0 ((Below.refl _ _).drew)
              replace keepS := Lib.hid keepS
              clear hS0
              go_upto_region 29 with (fail)
              refine wp_region_held_drew (S := fun w' => Below wr.heap.size wr w' ∧ w'.cell? ⟨w.heap.size, 1, none⟩ = some (.string tS) ∧ w'.cell? ⟨(w.heap.size + 1), 3, none⟩ = some (.string Q.1.2.holder) ∧ w'.cell? ⟨(w.heap.size + 1), 4, none⟩ = some (.slice B1' Q.1.2.waiting.length d1') ∧ w'.cell? ⟨(w.heap.size + 1), 5, none⟩ = some (.slice B2' Q.1.2.held.length d2')) (by kernel_rfl) ?_ (fun hHeld => ?_)
              · (try dsimp only)
                exact hS1
              refine tkY 0 (v := ?v106) rfl (.inl ⟨by rfl, ?hy106⟩) ?hr106
              case hy106 => (intro w hSw; (try dsimp only at hSw); go_simp; try with_reducible rfl)
              simp only [Act.put, List.getElem_toArray, List.getElem_cons_zero, List.setIfInBounds_toArray, List.set_cons_zero, List.set_cons_succ]
              refine tkY 1 (v := ?v107) rfl (.inl ⟨by rfl, ?hy107⟩) ?hr107
              case hy107 => (intro w hSw; (try dsimp only at hSw); go_simp; try with_reducible rfl)
              simp only [Act.put, List.getElem_toArray, List.getElem_cons_zero, List.getElem_cons_succ, List.setIfInBounds_toArray, List.set_cons_zero, List.set_cons_succ]
              refine tkY 2 (v := ?v108) rfl (.inl ⟨by rfl, ?hy108⟩) ?hr108
              case hy108 => (intro w hSw; (try dsimp only at hSw); go_simp; try with_reducible rfl)
              simp only [Act.put, List.getElem_toArray, List.getElem_cons_zero, List.getElem_cons_succ, List.setIfInBounds_toArray, List.set_cons_zero, List.set_cons_succ]
              refine tkY 3 (v := ?v109) rfl (.inl ⟨by rfl, ?hy109⟩) ?hr109
              case hy109 => (intro w hSw; (try dsimp only at hSw); go_simp; try with_reducible rfl)
              simp only [Act.put, List.getElem_toArray, List.getElem_cons_zero, List.getElem_cons_succ, List.setIfInBounds_toArray, List.set_cons_zero, List.set_cons_succ]
              refine tkY 4 (v := ?v110) rfl (.inl ⟨by rfl, ?hy110⟩) ?hr110
              case hy110 => (intro w hSw; (try dsimp only at hSw); go_simp; try with_reducible rfl)
              simp only [Act.put, List.getElem_toArray, List.getElem_cons_zero, List.getElem_cons_succ, List.setIfInBounds_toArray, List.set_cons_zero, List.set_cons_succ]
              refine tkY 5 (v := ?v111) rfl (.inl ⟨by rfl, ?hy111⟩) ?hr111
              case hy111 => (intro w hSw; (try dsimp only at hSw); go_simp; try with_reducible rfl)
              simp only [Act.put, List.getElem_toArray, List.getElem_cons_zero, List.getElem_cons_succ, List.setIfInBounds_toArray, List.set_cons_zero, List.set_cons_succ]
              refine tkY 6 (v := ?v112) rfl (.inl ⟨by rfl, ?hy112⟩) ?hr112
              case hy112 => (intro w hSw; (try dsimp only at hSw); go_simp; try with_reducible rfl)
              simp only [Act.put, List.getElem_toArray, List.getElem_cons_zero, List.getElem_cons_succ, List.setIfInBounds_toArray, List.set_cons_zero, List.set_cons_succ]
              refine tkY 7 (v := ?v113) rfl (.inl ⟨by rfl, ?hy113⟩) ?hr113
              case hy113 => (intro w hSw; (try dsimp only at hSw); go_simp; try with_reducible rfl)
              simp only [Act.put, List.getElem_toArray, List.getElem_cons_zero, List.getElem_cons_succ, List.setIfInBounds_toArray, List.set_cons_zero, List.set_cons_succ]
              refine wpAnyH_ready (rs := [8]) (by kernel_rfl) (by simp) ?_
              refine AllReadyH.cons rfl (fun K hK => ?_) AllReadyH.nil
              go_simp
              go_at_call 25
              have hTy := hTq.up hHeld.1
              refine (fits_any es4 tS Q.1.2 A4 n4 c4 B1' d1' B2' d2' _ (hbnd.out.EW.envs (hE4.up hHeld.1).fin) (hTy.w2.more rB_ok (fun _ hp => hp.1)) (by omega) hf).mono ?_
              rintro e r1 ⟨rfl, hbq⟩
              dsimp only
              refine hK.out _ _ ?_ (fun hHeld => ?_)
              · (try dsimp only)
                exact keepS.out _ _ hHeld hbq
              clear hK K
              try simp only [Act.put, List.getElem_toArray, List.getElem_cons_zero, List.getElem_cons_succ, List.setIfInBounds_toArray, List.set_cons_zero, List.set_cons_succ]
              refine tkY 9 (v := ?v114) rfl (.inl ⟨by rfl, ?hy114⟩) ?hr114
              case hy114 => (intro w hSw; (try dsimp only at hSw); go_simp; try with_reducible rfl)
              simp only [Act.put, List.getElem_toArray, List.getElem_cons_zero, List.getElem_cons_succ, List.setIfInBounds_toArray, List.set_cons_zero, List.set_cons_succ]
              refine wpAnyH_done (by kernel_rfl) ?_ _
              have hbW := hHeld.1
              clear hHeld hS1 keepS
              repeat' ((fail_if_success at_builtin); (first | go_skip | go_guarded | go_step))
              go_roundw
              case rel => exact ⟨2, by omega, by first | rfl | go_num, hbk.trans (hbW.mono hbk.size)⟩
              case measure => (try go_num); (try simp [intOf]); (try omega)
            · repeat' ((fail_if_success at_builtin); (first | go_skip | go_guarded | go_step))
              go_roundw
              case rel => exact ⟨i + 1, es4, Q.1, A4, n4, c4, A1', c1', A2', c2', B1', d1', B2', d2', by omega, by first | rfl | go_num, by first | rfl | go_num, hI4, sm1, sm2, own_drop hO11 4, hE4, hTq, hEnd⟩
              case measure => (try go_num); (try simp [intOf]); (try omega)
      · have i1 : ¬ (i : Int) < (n : Int) := by omega
        have C := lives_any wv
        replace C := Lib.hid C
        repeat' ((fail_if_success at_builtin); (first | go_skip | go_guarded | go_step))
        refine C.out.mono ?_
        clear C
        rintro e wz ⟨rfl, hbz⟩
        dsimp only
        repeat' ((fail_if_success at_builtin); (first | go_skip | go_guarded | go_step))
        go_ret
        exact ⟨rfl, hbw.trans (hbz.mono hbw.size)⟩
end Go.Proofs.YtennhjkhjplmoaaDoor
