/- Joined: JnW. -/
import Derived.Deep.DeepCutAuto
import Derived.Test.YtgdapkglofchjaaGreatDoorE3
set_option maxRecDepth 100000
set_option maxHeartbeats 2000000
set_option linter.unusedVariables false
namespace Go.Proofs.YtgdapkglofchjaaGreatDoor
open Go.RowKit
theorem Z1 {α : Type} {xs : List α} {i : Nat} (h : i < xs.toArray.size) : xs.toArray[i] = xs[i]'(by simpa using h) := List.getElem_toArray h
theorem Z2 {α : Type} (a : α) (l : List α) (h : 0 < (a :: l).length) : getElem (a :: l) 0 h = a := List.getElem_cons_zero a l h
theorem Z3 {α : Type} (a : α) (l : List α) (i : Nat) (h : i + 1 < (a :: l).length) : getElem (a :: l) (i + 1) h = getElem l i (Nat.lt_of_succ_lt_succ h) := List.getElem_cons_succ a l i h
theorem Z4 {α : Type} (l : List α) (i : Nat) (a : α) : l.toArray.setIfInBounds i a = (l.set i a).toArray := List.setIfInBounds_toArray ..
theorem Z5 {α : Type} {x a : α} {l : List α} : (x :: l).set 0 a = a :: l := List.set_cons_zero
theorem Z6 {α : Type} {x a : α} {l : List α} {i : Nat} : (x :: l).set (i + 1) a = x :: l.set i a := List.set_cons_succ
theorem CT {B : Nat} {a w : World} {g j : Nat} {u : Value} (h : Below B a w) (hl : g < B) (e : a.cell? ⟨g, j, none⟩ = some u) : w.cell? ⟨g, j, none⟩ = some u := (h.cell (p := ⟨g, j, none⟩) hl).trans e
end Go.Proofs.YtgdapkglofchjaaGreatDoor
namespace Go.Proofs.YtgdapkglofchjaaGreatDoor
open Go.RowKit
theorem Bhd.below {w w' : World} {v : Value} {g b : Nat} (h : Bhd w v g b) (hb : Below w.heap.size w w') : Bhd w' v g b := ⟨Nat.lt_of_lt_of_le h.1 hb.size, h.2⟩
theorem Bhd.grew {w w' : World} {v v' : Value} {g b : Nat} (h : Bhd w v g b) (hg : Grew w w' v v') : Bhd w' v' g b := ⟨Nat.lt_of_lt_of_le h.1 hg.by_.size, hg.ne h.1 h.2.1, h.2.2⟩
theorem seq_box {w : World} {b : Nat} {cs : List Value} (h : CellsAt w b cs) (hl : cs.length = 4) : Seq w w.heap.size 4 (some ⟨b, 0, none⟩) 1 cs := ⟨hl, fun _ => ⟨b, 0, rfl, h.lt, fun j u hu => by rw [Nat.zero_add]; exact h.cell j u hu⟩⟩
theorem own_blk {W0 w : World} {e : TypeId} {n c : Nat} {A : Option Addr} {xs : List Value} (h : Own W0 w e 4 (.slice A (n + 1) c) (n + 1) xs) : ∃ r, A = some ⟨r, 0, none⟩ ∧ W0.heap.size ≤ r ∧ r < w.heap.size := by
 obtain ⟨r, h1, h2, h3, _⟩ := h.head (by omega)
 exact ⟨r, h1, h2, h3⟩
theorem row_at {W0 w : World} {e : TypeId} {n c r : Nat} {cs : List Value} {z0 z1 z2 z3 : Value} (h : Own W0 w e 4 (.slice (some ⟨r, 0, none⟩) (n + 1) c) (n + 1) (cs ++ [z0, z1, z2, z3])) (hl : cs.length = n * 4) (j : Nat) {u : Value} (hu : [z0, z1, z2, z3][j]? = some u) : w.cell? ⟨r, n * 4 + j, none⟩ = some u := by
 obtain ⟨g, h1, _, _, h4, _⟩ := h.head (by omega)
 injection h1 with h1
 injection h1 with h1
 subst h1
 exact h4 _ u (by rw [← hl, List.getElem?_append_right (by omega), Nat.add_sub_cancel_left]; exact hu)
theorem row_fr {W0 w : World} {e : TypeId} {n c r : Nat} {xs : List Value} (h : Own W0 w e 4 (.slice (some ⟨r, 0, none⟩) (n + 1) c) (n + 1) xs) : ∀ j, w.frozen? ⟨r, j, none⟩ = false := by
 obtain ⟨g, h1, _, _, _, h5⟩ := h.head (by omega)
 injection h1 with h1
 injection h1 with h1
 subst h1
 exact h5
theorem zero_one : ∀ u ∈ [Value.int .i64 0, .int .i64 0, .string ⟨#[]⟩, .slice none 0 0], u.oneCell' = true := fun u hu => by
 simp only [List.mem_cons, List.not_mem_nil, or_false] at hu
 rcases hu with rfl | rfl | rfl | rfl <;> rfl
theorem far4s {w : World} {r b o : Nat} (hne : b ≠ r) (o1 o2 o3 o4 : Nat) (u1 u2 u3 u4 : Value) : ((((w.setCell ⟨r, o1, none⟩ u1).setCell ⟨r, o2, none⟩ u2).setCell ⟨r, o3, none⟩ u3).setCell ⟨r, o4, none⟩ u4).cell? ⟨b, o, none⟩ = w.cell? ⟨b, o, none⟩ := by
 rw [World.cell?_setCell_far _ _ _ _ (fun e => hne e.symm), World.cell?_setCell_far _ _ _ _ (fun e => hne e.symm), World.cell?_setCell_far _ _ _ _ (fun e => hne e.symm), World.cell?_setCell_far _ _ _ _ (fun e => hne e.symm)]
theorem ii0 : IsInt 0 := ⟨by decide, by decide⟩
theorem ii1 : IsInt 1 := ⟨by decide, by decide⟩
theorem ii2 : IsInt 2 := ⟨by decide, by decide⟩
theorem rd_int {x : Int} (hx : IsInt x) {w : World} {S : Nat → Prop} : rF w S (fI x) [.int .i64 0, .int .i64 x, .string ⟨#[]⟩, .slice none 0 0] := ⟨none, 0, [], rfl, ii0, hx, ⟨SeqP.nil_, Nat.le_refl _⟩, rfl⟩
theorem rd_str (s : ByteArray) {w : World} {S : Nat → Prop} : rF w S (fS s) [.int .i64 1, .int .i64 0, .string s, .slice none 0 0] := ⟨none, 0, [], rfl, ii1, ii0, ⟨SeqP.nil_, Nat.le_refl _⟩, rfl⟩
theorem CW.mk {W0 w : World} {g r c : Nat} {l : List FV} {f : FV} {cs fs : List Value} (h : Mid W0 w g ([.slice (some ⟨r, 0, none⟩) (l.length + 1) c, .bool false, .bool false]) (.slice (some ⟨r, 0, none⟩) (l.length + 1) c) (l.length + 1) (cs ++ fs) (l ++ [f]) (cs ++ fs)) : CW W0 w g (l ++ [f]) := ⟨some ⟨r, 0, none⟩, c, cs ++ fs, by rw [List.length_append]; exact h⟩
theorem cell_lt {w : World} {p : Addr} {v : Value} (h : w.cell? p = some v) : p.block < w.heap.size := by
 by_cases hl : p.block < w.heap.size
 ·exact hl
 ·exfalso
  have : w.heap[p.block]? = none := by simp; omega
  unfold World.cell? at h
  rw [this] at h
  cases h
theorem int_w (x : Int) (hx : IsInt x) (W0 w1 w : World) (g pb po : Nat) (l : List FV) (hc : CW W0 w1 g l) (hb : Below w1.heap.size w1 w) (hp : pb < W0.heap.size ∨ w1.heap.size ≤ pb) (hv : w.cell? ⟨pb, po, none⟩ = some (.int .i64 x)) (hl : l.length ≤ 1000000000) :
  Calls Tryz.prog 76 #[.pointer (some ⟨g, 0, none⟩), .pointer (some ⟨pb, po, none⟩)] w fun e w' => e = .returned (.tuple #[]) ∧ CW W0 w' g (l ++ [fI x]) ∧ w'.cell? ⟨pb, po, none⟩ = some (.int .i64 x) := by
 obtain ⟨A, c, cs, hM⟩ := hc
 have hpb : Bhd w (.slice A l.length c) g pb := hp.elim (fun h => (hM.lo h).below hb) (fun h => hM.hi hb h (cell_lt hv))
 replace hM := hM.below hb
 have hM4 : cs.length = l.length * 4 := hM.own.1.1
 have hplt := hpb.1
 have c1 := hM.cel.cell 1 _ rfl
 go_enter Tryz.func76, Tryz.ntmps76
 repeat' ((fail_if_success at_builtin); first | go_skip | go_guarded | go_step)
 go_upto_region 2 with (fail)
 replace hv : w.drew.cell? ⟨pb, po, none⟩ = some (.int .i64 x) := hv
 replace hM := hM.drew.add (rd_int hx)
 replace hpb : Bhd w.drew (.slice A l.length c) g pb := hpb
 replace hplt : pb < w.drew.heap.size := hplt
 refine wp_region_held_drew (S := (fun w' => w'.cell? ⟨pb, po, none⟩ = some (.int .i64 x))) (by kernel_rfl) ?_ (fun hHeld => ?_)
 ·(try dsimp only)
  exact hv
 generalize World.drew w = vd at *
 refine tkY 0 (v := ?v1) rfl (.inl ⟨by rfl, ?hy1⟩) ?hr1
 case hy1 => (intro w hSw; (try dsimp only at hSw); go_simp; try with_reducible rfl)
 simp only [Act.put, Z1, Z2, Z4, Z5, Z6]
 refine tkY 1 (v := ?v2) rfl (.inl ⟨by rfl, ?hy2⟩) ?hr2
 case hy2 => (intro w hSw; (try dsimp only at hSw); go_simp; try with_reducible rfl)
 simp only [Act.put, Z1, Z2, Z3, Z4, Z5, Z6]
 refine tkY 2 (v := ?v3) rfl (.inl ⟨by rfl, ?hy3⟩) ?hr3
 case hy3 => (intro w hSw; (try dsimp only at hSw); go_simp; try with_reducible rfl)
 simp only [Act.put, Z1, Z2, Z3, Z4, Z5, Z6]
 refine tkY 4 (v := ?v4) rfl (.inl ⟨by rfl, ?hy4⟩) ?hr4
 case hy4 => (intro w hSw; (try dsimp only at hSw); go_simp; try with_reducible rfl)
 simp only [Act.put, Z1, Z2, Z3, Z4, Z5, Z6]
 refine tkY 5 (v := ?v5) rfl (.inl ⟨by rfl, ?hy5⟩) ?hr5
 case hy5 => (intro w hSw; (try dsimp only at hSw); go_simp; try with_reducible rfl)
 simp only [Act.put, Z1, Z2, Z3, Z4, Z5, Z6]
 refine tkY 6 (v := ?v6) rfl (.inl ⟨by rfl, ?hy6⟩) ?hr6
 case hy6 => (intro w hSw; (try dsimp only at hSw); go_simp; try with_reducible rfl)
 simp only [Act.put, Z1, Z2, Z3, Z4, Z5, Z6]
 refine tkY 7 (v := ?v7) rfl (.inl ⟨by rfl, ?hy7⟩) ?hr7
 case hy7 => (intro w hSw; (try dsimp only at hSw); go_simp; try with_reducible rfl)
 simp only [Act.put, Z1, Z2, Z3, Z4, Z5, Z6]
 refine wpAnyH_ready (rs := [3, 9]) (by kernel_rfl) (by simp) ?_
 refine AllReadyH.cons rfl (fun K hK => ?_) ?_
 ·have x3 := hM.cel.cell 0 _ rfl
  go_simp
  clear x3
  refine hK.out _ _ ?_ (fun hHeld => ?_)
  ·(try dsimp only)
   exact hv
  clear hK K
  try simp only [Act.put, Z1, Z2, Z3, Z4, Z5, Z6]
  refine tkY 8 (v := ?v8) rfl (.inl ⟨by rfl, ?hy8⟩) ?hr8
  case hy8 => (intro w hSw; (try dsimp only at hSw); go_simp; try with_reducible rfl)
  simp only [Act.put, Z1, Z2, Z3, Z4, Z5, Z6]
  refine wpAnyH_ready (rs := [9]) (by kernel_rfl) (by simp) ?_
  refine AllReadyH.cons rfl (fun K hK => ?_) ?_
  ·go_simp
   have hba := (Below.refl vd.heap.size vd).alloc (Nat.le_refl _) (.cells #[.int .i64 0, .int .i64 0, .string ⟨#[]⟩, .slice none 0 0] 98)
   have hz := CellsAt.new vd #[.int .i64 0, .int .i64 0, .string ⟨#[]⟩, .slice none 0 0] 98
   replace hM := hM.below hba
   replace hpb := hpb.below hba
   replace hv := (hba.cell (p := ⟨pb, _, none⟩) hplt).trans hv
   replace hplt := Nat.lt_of_lt_of_le hplt hba.size
   obtain ⟨zb, hzb⟩ : ∃ zb, zb = vd.heap.size := ⟨_, rfl⟩
   rw [← hzb] at hz ⊢
   clear hzb hba
   generalize World.alloc vd _ = v2 at *
   refine hK.out _ _ ?_ (fun hHeld => ?_)
   ·(try dsimp only)
    exact hv
   clear hK K
   try simp only [Act.put, Z1, Z2, Z3, Z4, Z5, Z6]
   refine wpAnyH_ready (rs := [10]) (by kernel_rfl) (by simp) ?_
   refine AllReadyH.cons rfl (fun K hK => ?_) ?_
   ·have hzs : Seq v2 v2.heap.size 4 (some ⟨zb, 0, none⟩) 1 [.int .i64 0, .int .i64 0, .string ⟨#[]⟩, .slice none 0 0] := seq_box hz rfl
    refine step_appS hM.own fld_und fld_info hzs zero_one (by omega) ?_
    intro u4 v3 hO4 hg4
    obtain ⟨A4, c4, rfl⟩ := hO4.slice_form
    obtain ⟨r, rfl, hrlo, hrlt⟩ := own_blk hO4
    replace hv := (hg4.cell (p := ⟨pb, _, none⟩) hplt hpb.2.1).trans hv
    replace hpb := hpb.grew hg4
    replace hplt := Nat.lt_of_lt_of_le hplt hg4.by_.size
    replace hM := hM.grew hO4 hg4
    have hpr : r ≠ pb := fun e => hpb.2.1 (by rw [← e]; rfl)
    have hpg : g ≠ pb := fun e => hpb.2.2 e.symm
    have fi : (l.length : Int) < (l.length : Int) + 1 := by omega
    clear hO4 hg4 hzs hz
    refine hK.out _ _ ?_ (fun hHeld => ?_)
    ·(try dsimp only)
     exact hv
    clear hK K
    try simp only [Act.put, Z1, Z2, Z3, Z4, Z5, Z6]
    refine tkY 11 (v := ?v9) rfl (.inl ⟨by rfl, ?hy9⟩) ?hr9
    case hy9 => (intro w hSw; (try dsimp only at hSw); go_simp; try with_reducible rfl)
    simp only [Act.put, Z1, Z2, Z3, Z4, Z5, Z6]
    refine tkY 13 (v := ?v10) rfl (.inl ⟨by rfl, ?hy10⟩) ?hr10
    case hy10 => (intro w hSw; (try dsimp only at hSw); go_simp; try with_reducible rfl)
    simp only [Act.put, Z1, Z2, Z3, Z4, Z5, Z6]
    refine tkY 14 (v := ?v11) rfl (.inl ⟨by rfl, ?hy11⟩) ?hr11
    case hy11 => (intro w hSw; (try dsimp only at hSw); go_simp; try with_reducible rfl)
    simp only [Act.put, Z1, Z2, Z3, Z4, Z5, Z6]
    refine wpAnyH_ready (rs := [12, 15]) (by kernel_rfl) (by simp) ?_
    refine AllReadyH.cons rfl (fun K hK => ?_) ?_
    ·have y0 : v3.cell? ⟨r, l.length * 4, none⟩ = some (.int .i64 0) := row_at hM.own hM4 0 rfl
     have y1 := row_at hM.own hM4 1 rfl
     have y2 := row_at hM.own hM4 2 rfl
     have y3 := row_at hM.own hM4 3 rfl
     have yf := row_fr hM.own
     go_simp
     clear y0 y1 y2 y3 yf
     replace hv : (((((v3.setCell ⟨r, l.length * 4, none⟩ (.int .i64 0)).setCell ⟨r, l.length * 4 + 1, none⟩ (.int .i64 x)).setCell ⟨r, l.length * 4 + 2, none⟩ (.string ⟨#[]⟩)).setCell ⟨r, l.length * 4 + 3, none⟩ (.slice none 0 0))).cell? ⟨pb, po, none⟩ = some (.int .i64 x) := (far4s (fun e => hpr e.symm) _ _ _ _ _ _ _ _).trans hv
     replace hM := (((hM.row hrlo (l.length * 4) (.int .i64 0)).row hrlo (l.length * 4 + 1) (.int .i64 x)).row hrlo (l.length * 4 + 2) (.string ⟨#[]⟩)).row hrlo (l.length * 4 + 3) (.slice none 0 0)
     rw [set4 cs l.length hM4] at hM
     replace hpb : Bhd (((((v3.setCell ⟨r, l.length * 4, none⟩ (.int .i64 0)).setCell ⟨r, l.length * 4 + 1, none⟩ (.int .i64 x)).setCell ⟨r, l.length * 4 + 2, none⟩ (.string ⟨#[]⟩)).setCell ⟨r, l.length * 4 + 3, none⟩ (.slice none 0 0))) (.slice (some ⟨r, 0, none⟩) (l.length + 1) c4) g pb := ⟨by simpa [World.setCell] using hpb.1, hpb.2⟩
     replace hplt := hpb.1
     generalize ((((v3.setCell ⟨r, l.length * 4, none⟩ (.int .i64 0)).setCell ⟨r, l.length * 4 + 1, none⟩ (.int .i64 x)).setCell ⟨r, l.length * 4 + 2, none⟩ (.string ⟨#[]⟩)).setCell ⟨r, l.length * 4 + 3, none⟩ (.slice none 0 0)) = v4 at *
     refine hK.out _ _ ?_ (fun hHeld => ?_)
     ·(try dsimp only)
      exact hv
     clear hK K
     try simp only [Act.put, Z1, Z2, Z3, Z4, Z5, Z6]
     refine wpAnyH_ready (rs := [15]) (by kernel_rfl) (by simp) ?_
     refine AllReadyH.cons rfl (fun K hK => ?_) ?_
     ·have y0 := hM.cel.cell 0 _ rfl
      have yf := hM.cel.fr
      go_simp
      clear y0 yf
      replace hv : ((v4.setCell ⟨g, 0, none⟩ (.slice (some ⟨r, 0, none⟩) (l.length + 1) c4))).cell? ⟨pb, po, none⟩ = some (.int .i64 x) := (World.cell?_setCell_far v4 ⟨g, 0, none⟩ ⟨pb, po, none⟩ _ hpg).trans hv
      replace hM := hM.set 0 (.slice (some ⟨r, 0, none⟩) (l.length + 1) c4)
      replace hpb : Bhd ((v4.setCell ⟨g, 0, none⟩ (.slice (some ⟨r, 0, none⟩) (l.length + 1) c4))) (.slice (some ⟨r, 0, none⟩) (l.length + 1) c4) g pb := ⟨by simpa [World.setCell] using hpb.1, hpb.2⟩
      replace hplt := hpb.1
      generalize (v4.setCell ⟨g, 0, none⟩ (.slice (some ⟨r, 0, none⟩) (l.length + 1) c4)) = v5 at *
      refine hK.out _ _ ?_ (fun hHeld => ?_)
      ·(try dsimp only)
       exact hv
      clear hK K
      try simp only [Act.put, Z1, Z2, Z3, Z4, Z5, Z6]
      refine wpAnyH_done (by kernel_rfl) ?_ _
      repeat' ((fail_if_success at_builtin); first | go_skip | go_guarded | go_step)
      go_end0
      have hw := CW.mk hM
      exact ⟨rfl, hw, hv⟩
     exact AllReadyH.nil
    refine AllReadyH.cons rfl (fun K hK => ?_) ?_
    ·have y0 := hM.cel.cell 0 _ rfl
     have yf := hM.cel.fr
     go_simp
     clear y0 yf
     replace hv : ((v3.setCell ⟨g, 0, none⟩ (.slice (some ⟨r, 0, none⟩) (l.length + 1) c4))).cell? ⟨pb, po, none⟩ = some (.int .i64 x) := (World.cell?_setCell_far v3 ⟨g, 0, none⟩ ⟨pb, po, none⟩ _ hpg).trans hv
     replace hM := hM.set 0 (.slice (some ⟨r, 0, none⟩) (l.length + 1) c4)
     replace hpb : Bhd ((v3.setCell ⟨g, 0, none⟩ (.slice (some ⟨r, 0, none⟩) (l.length + 1) c4))) (.slice (some ⟨r, 0, none⟩) (l.length + 1) c4) g pb := ⟨by simpa [World.setCell] using hpb.1, hpb.2⟩
     replace hplt := hpb.1
     generalize (v3.setCell ⟨g, 0, none⟩ (.slice (some ⟨r, 0, none⟩) (l.length + 1) c4)) = v4 at *
     refine hK.out _ _ ?_ (fun hHeld => ?_)
     ·(try dsimp only)
      exact hv
     clear hK K
     try simp only [Act.put, Z1, Z2, Z3, Z4, Z5, Z6]
     refine wpAnyH_ready (rs := [12]) (by kernel_rfl) (by simp) ?_
     refine AllReadyH.cons rfl (fun K hK => ?_) ?_
     ·have y0 : v4.cell? ⟨r, l.length * 4, none⟩ = some (.int .i64 0) := row_at hM.own hM4 0 rfl
      have y1 := row_at hM.own hM4 1 rfl
      have y2 := row_at hM.own hM4 2 rfl
      have y3 := row_at hM.own hM4 3 rfl
      have yf := row_fr hM.own
      go_simp
      clear y0 y1 y2 y3 yf
      replace hv : (((((v4.setCell ⟨r, l.length * 4, none⟩ (.int .i64 0)).setCell ⟨r, l.length * 4 + 1, none⟩ (.int .i64 x)).setCell ⟨r, l.length * 4 + 2, none⟩ (.string ⟨#[]⟩)).setCell ⟨r, l.length * 4 + 3, none⟩ (.slice none 0 0))).cell? ⟨pb, po, none⟩ = some (.int .i64 x) := (far4s (fun e => hpr e.symm) _ _ _ _ _ _ _ _).trans hv
      replace hM := (((hM.row hrlo (l.length * 4) (.int .i64 0)).row hrlo (l.length * 4 + 1) (.int .i64 x)).row hrlo (l.length * 4 + 2) (.string ⟨#[]⟩)).row hrlo (l.length * 4 + 3) (.slice none 0 0)
      rw [set4 cs l.length hM4] at hM
      replace hpb : Bhd (((((v4.setCell ⟨r, l.length * 4, none⟩ (.int .i64 0)).setCell ⟨r, l.length * 4 + 1, none⟩ (.int .i64 x)).setCell ⟨r, l.length * 4 + 2, none⟩ (.string ⟨#[]⟩)).setCell ⟨r, l.length * 4 + 3, none⟩ (.slice none 0 0))) (.slice (some ⟨r, 0, none⟩) (l.length + 1) c4) g pb := ⟨by simpa [World.setCell] using hpb.1, hpb.2⟩
      replace hplt := hpb.1
      generalize ((((v4.setCell ⟨r, l.length * 4, none⟩ (.int .i64 0)).setCell ⟨r, l.length * 4 + 1, none⟩ (.int .i64 x)).setCell ⟨r, l.length * 4 + 2, none⟩ (.string ⟨#[]⟩)).setCell ⟨r, l.length * 4 + 3, none⟩ (.slice none 0 0)) = v5 at *
      refine hK.out _ _ ?_ (fun hHeld => ?_)
      ·(try dsimp only)
       exact hv
      clear hK K
      try simp only [Act.put, Z1, Z2, Z3, Z4, Z5, Z6]
      refine wpAnyH_done (by kernel_rfl) ?_ _
      repeat' ((fail_if_success at_builtin); first | go_skip | go_guarded | go_step)
      go_end0
      have hw := CW.mk hM
      exact ⟨rfl, hw, hv⟩
     exact AllReadyH.nil
    exact AllReadyH.nil
   exact AllReadyH.nil
  exact AllReadyH.nil
 refine AllReadyH.cons rfl (fun K hK => ?_) ?_
 ·go_simp
  have hba := (Below.refl vd.heap.size vd).alloc (Nat.le_refl _) (.cells #[.int .i64 0, .int .i64 0, .string ⟨#[]⟩, .slice none 0 0] 98)
  have hz := CellsAt.new vd #[.int .i64 0, .int .i64 0, .string ⟨#[]⟩, .slice none 0 0] 98
  replace hM := hM.below hba
  replace hpb := hpb.below hba
  replace hv := (hba.cell (p := ⟨pb, _, none⟩) hplt).trans hv
  replace hplt := Nat.lt_of_lt_of_le hplt hba.size
  obtain ⟨zb, hzb⟩ : ∃ zb, zb = vd.heap.size := ⟨_, rfl⟩
  rw [← hzb] at hz ⊢
  clear hzb hba
  generalize World.alloc vd _ = v1 at *
  refine hK.out _ _ ?_ (fun hHeld => ?_)
  ·(try dsimp only)
   exact hv
  clear hK K
  try simp only [Act.put, Z1, Z2, Z3, Z4, Z5, Z6]
  refine wpAnyH_ready (rs := [3]) (by kernel_rfl) (by simp) ?_
  refine AllReadyH.cons rfl (fun K hK => ?_) ?_
  ·have x3 := hM.cel.cell 0 _ rfl
   go_simp
   clear x3
   refine hK.out _ _ ?_ (fun hHeld => ?_)
   ·(try dsimp only)
    exact hv
   clear hK K
   try simp only [Act.put, Z1, Z2, Z3, Z4, Z5, Z6]
   refine tkY 8 (v := ?v12) rfl (.inl ⟨by rfl, ?hy12⟩) ?hr12
   case hy12 => (intro w hSw; (try dsimp only at hSw); go_simp; try with_reducible rfl)
   simp only [Act.put, Z1, Z2, Z3, Z4, Z5, Z6]
   refine wpAnyH_ready (rs := [10]) (by kernel_rfl) (by simp) ?_
   refine AllReadyH.cons rfl (fun K hK => ?_) ?_
   ·have hzs : Seq v1 v1.heap.size 4 (some ⟨zb, 0, none⟩) 1 [.int .i64 0, .int .i64 0, .string ⟨#[]⟩, .slice none 0 0] := seq_box hz rfl
    refine step_appS hM.own fld_und fld_info hzs zero_one (by omega) ?_
    intro u4 v3 hO4 hg4
    obtain ⟨A4, c4, rfl⟩ := hO4.slice_form
    obtain ⟨r, rfl, hrlo, hrlt⟩ := own_blk hO4
    replace hv := (hg4.cell (p := ⟨pb, _, none⟩) hplt hpb.2.1).trans hv
    replace hpb := hpb.grew hg4
    replace hplt := Nat.lt_of_lt_of_le hplt hg4.by_.size
    replace hM := hM.grew hO4 hg4
    have hpr : r ≠ pb := fun e => hpb.2.1 (by rw [← e]; rfl)
    have hpg : g ≠ pb := fun e => hpb.2.2 e.symm
    have fi : (l.length : Int) < (l.length : Int) + 1 := by omega
    clear hO4 hg4 hzs hz
    refine hK.out _ _ ?_ (fun hHeld => ?_)
    ·(try dsimp only)
     exact hv
    clear hK K
    try simp only [Act.put, Z1, Z2, Z3, Z4, Z5, Z6]
    refine tkY 11 (v := ?v13) rfl (.inl ⟨by rfl, ?hy13⟩) ?hr13
    case hy13 => (intro w hSw; (try dsimp only at hSw); go_simp; try with_reducible rfl)
    simp only [Act.put, Z1, Z2, Z3, Z4, Z5, Z6]
    refine tkY 13 (v := ?v14) rfl (.inl ⟨by rfl, ?hy14⟩) ?hr14
    case hy14 => (intro w hSw; (try dsimp only at hSw); go_simp; try with_reducible rfl)
    simp only [Act.put, Z1, Z2, Z3, Z4, Z5, Z6]
    refine tkY 14 (v := ?v15) rfl (.inl ⟨by rfl, ?hy15⟩) ?hr15
    case hy15 => (intro w hSw; (try dsimp only at hSw); go_simp; try with_reducible rfl)
    simp only [Act.put, Z1, Z2, Z3, Z4, Z5, Z6]
    refine wpAnyH_ready (rs := [12, 15]) (by kernel_rfl) (by simp) ?_
    refine AllReadyH.cons rfl (fun K hK => ?_) ?_
    ·have y0 : v3.cell? ⟨r, l.length * 4, none⟩ = some (.int .i64 0) := row_at hM.own hM4 0 rfl
     have y1 := row_at hM.own hM4 1 rfl
     have y2 := row_at hM.own hM4 2 rfl
     have y3 := row_at hM.own hM4 3 rfl
     have yf := row_fr hM.own
     go_simp
     clear y0 y1 y2 y3 yf
     replace hv : (((((v3.setCell ⟨r, l.length * 4, none⟩ (.int .i64 0)).setCell ⟨r, l.length * 4 + 1, none⟩ (.int .i64 x)).setCell ⟨r, l.length * 4 + 2, none⟩ (.string ⟨#[]⟩)).setCell ⟨r, l.length * 4 + 3, none⟩ (.slice none 0 0))).cell? ⟨pb, po, none⟩ = some (.int .i64 x) := (far4s (fun e => hpr e.symm) _ _ _ _ _ _ _ _).trans hv
     replace hM := (((hM.row hrlo (l.length * 4) (.int .i64 0)).row hrlo (l.length * 4 + 1) (.int .i64 x)).row hrlo (l.length * 4 + 2) (.string ⟨#[]⟩)).row hrlo (l.length * 4 + 3) (.slice none 0 0)
     rw [set4 cs l.length hM4] at hM
     replace hpb : Bhd (((((v3.setCell ⟨r, l.length * 4, none⟩ (.int .i64 0)).setCell ⟨r, l.length * 4 + 1, none⟩ (.int .i64 x)).setCell ⟨r, l.length * 4 + 2, none⟩ (.string ⟨#[]⟩)).setCell ⟨r, l.length * 4 + 3, none⟩ (.slice none 0 0))) (.slice (some ⟨r, 0, none⟩) (l.length + 1) c4) g pb := ⟨by simpa [World.setCell] using hpb.1, hpb.2⟩
     replace hplt := hpb.1
     generalize ((((v3.setCell ⟨r, l.length * 4, none⟩ (.int .i64 0)).setCell ⟨r, l.length * 4 + 1, none⟩ (.int .i64 x)).setCell ⟨r, l.length * 4 + 2, none⟩ (.string ⟨#[]⟩)).setCell ⟨r, l.length * 4 + 3, none⟩ (.slice none 0 0)) = v4 at *
     refine hK.out _ _ ?_ (fun hHeld => ?_)
     ·(try dsimp only)
      exact hv
     clear hK K
     try simp only [Act.put, Z1, Z2, Z3, Z4, Z5, Z6]
     refine wpAnyH_ready (rs := [15]) (by kernel_rfl) (by simp) ?_
     refine AllReadyH.cons rfl (fun K hK => ?_) ?_
     ·have y0 := hM.cel.cell 0 _ rfl
      have yf := hM.cel.fr
      go_simp
      clear y0 yf
      replace hv : ((v4.setCell ⟨g, 0, none⟩ (.slice (some ⟨r, 0, none⟩) (l.length + 1) c4))).cell? ⟨pb, po, none⟩ = some (.int .i64 x) := (World.cell?_setCell_far v4 ⟨g, 0, none⟩ ⟨pb, po, none⟩ _ hpg).trans hv
      replace hM := hM.set 0 (.slice (some ⟨r, 0, none⟩) (l.length + 1) c4)
      replace hpb : Bhd ((v4.setCell ⟨g, 0, none⟩ (.slice (some ⟨r, 0, none⟩) (l.length + 1) c4))) (.slice (some ⟨r, 0, none⟩) (l.length + 1) c4) g pb := ⟨by simpa [World.setCell] using hpb.1, hpb.2⟩
      replace hplt := hpb.1
      generalize (v4.setCell ⟨g, 0, none⟩ (.slice (some ⟨r, 0, none⟩) (l.length + 1) c4)) = v5 at *
      refine hK.out _ _ ?_ (fun hHeld => ?_)
      ·(try dsimp only)
       exact hv
      clear hK K
      try simp only [Act.put, Z1, Z2, Z3, Z4, Z5, Z6]
      refine wpAnyH_done (by kernel_rfl) ?_ _
      repeat' ((fail_if_success at_builtin); first | go_skip | go_guarded | go_step)
      go_end0
      have hw := CW.mk hM
      exact ⟨rfl, hw, hv⟩
     exact AllReadyH.nil
    refine AllReadyH.cons rfl (fun K hK => ?_) ?_
    ·have y0 := hM.cel.cell 0 _ rfl
     have yf := hM.cel.fr
     go_simp
     clear y0 yf
     replace hv : ((v3.setCell ⟨g, 0, none⟩ (.slice (some ⟨r, 0, none⟩) (l.length + 1) c4))).cell? ⟨pb, po, none⟩ = some (.int .i64 x) := (World.cell?_setCell_far v3 ⟨g, 0, none⟩ ⟨pb, po, none⟩ _ hpg).trans hv
     replace hM := hM.set 0 (.slice (some ⟨r, 0, none⟩) (l.length + 1) c4)
     replace hpb : Bhd ((v3.setCell ⟨g, 0, none⟩ (.slice (some ⟨r, 0, none⟩) (l.length + 1) c4))) (.slice (some ⟨r, 0, none⟩) (l.length + 1) c4) g pb := ⟨by simpa [World.setCell] using hpb.1, hpb.2⟩
     replace hplt := hpb.1
     generalize (v3.setCell ⟨g, 0, none⟩ (.slice (some ⟨r, 0, none⟩) (l.length + 1) c4)) = v4 at *
     refine hK.out _ _ ?_ (fun hHeld => ?_)
     ·(try dsimp only)
      exact hv
     clear hK K
     try simp only [Act.put, Z1, Z2, Z3, Z4, Z5, Z6]
     refine wpAnyH_ready (rs := [12]) (by kernel_rfl) (by simp) ?_
     refine AllReadyH.cons rfl (fun K hK => ?_) ?_
     ·have y0 : v4.cell? ⟨r, l.length * 4, none⟩ = some (.int .i64 0) := row_at hM.own hM4 0 rfl
      have y1 := row_at hM.own hM4 1 rfl
      have y2 := row_at hM.own hM4 2 rfl
      have y3 := row_at hM.own hM4 3 rfl
      have yf := row_fr hM.own
      go_simp
      clear y0 y1 y2 y3 yf
      replace hv : (((((v4.setCell ⟨r, l.length * 4, none⟩ (.int .i64 0)).setCell ⟨r, l.length * 4 + 1, none⟩ (.int .i64 x)).setCell ⟨r, l.length * 4 + 2, none⟩ (.string ⟨#[]⟩)).setCell ⟨r, l.length * 4 + 3, none⟩ (.slice none 0 0))).cell? ⟨pb, po, none⟩ = some (.int .i64 x) := (far4s (fun e => hpr e.symm) _ _ _ _ _ _ _ _).trans hv
      replace hM := (((hM.row hrlo (l.length * 4) (.int .i64 0)).row hrlo (l.length * 4 + 1) (.int .i64 x)).row hrlo (l.length * 4 + 2) (.string ⟨#[]⟩)).row hrlo (l.length * 4 + 3) (.slice none 0 0)
      rw [set4 cs l.length hM4] at hM
      replace hpb : Bhd (((((v4.setCell ⟨r, l.length * 4, none⟩ (.int .i64 0)).setCell ⟨r, l.length * 4 + 1, none⟩ (.int .i64 x)).setCell ⟨r, l.length * 4 + 2, none⟩ (.string ⟨#[]⟩)).setCell ⟨r, l.length * 4 + 3, none⟩ (.slice none 0 0))) (.slice (some ⟨r, 0, none⟩) (l.length + 1) c4) g pb := ⟨by simpa [World.setCell] using hpb.1, hpb.2⟩
      replace hplt := hpb.1
      generalize ((((v4.setCell ⟨r, l.length * 4, none⟩ (.int .i64 0)).setCell ⟨r, l.length * 4 + 1, none⟩ (.int .i64 x)).setCell ⟨r, l.length * 4 + 2, none⟩ (.string ⟨#[]⟩)).setCell ⟨r, l.length * 4 + 3, none⟩ (.slice none 0 0)) = v5 at *
      refine hK.out _ _ ?_ (fun hHeld => ?_)
      ·(try dsimp only)
       exact hv
      clear hK K
      try simp only [Act.put, Z1, Z2, Z3, Z4, Z5, Z6]
      refine wpAnyH_done (by kernel_rfl) ?_ _
      repeat' ((fail_if_success at_builtin); first | go_skip | go_guarded | go_step)
      go_end0
      have hw := CW.mk hM
      exact ⟨rfl, hw, hv⟩
     exact AllReadyH.nil
    exact AllReadyH.nil
   exact AllReadyH.nil
  exact AllReadyH.nil
 exact AllReadyH.nil
theorem str_w (s : ByteArray) (W0 w1 w : World) (g pb po : Nat) (l : List FV) (hc : CW W0 w1 g l) (hb : Below w1.heap.size w1 w) (hp : pb < W0.heap.size ∨ w1.heap.size ≤ pb) (hv : w.cell? ⟨pb, po, none⟩ = some (.string s)) (hl : l.length ≤ 1000000000) :
  Calls Tryz.prog 77 #[.pointer (some ⟨g, 0, none⟩), .pointer (some ⟨pb, po, none⟩)] w fun e w' => e = .returned (.tuple #[]) ∧ CW W0 w' g (l ++ [fS s]) ∧ w'.cell? ⟨pb, po, none⟩ = some (.string s) := by
 obtain ⟨A, c, cs, hM⟩ := hc
 have hpb : Bhd w (.slice A l.length c) g pb := hp.elim (fun h => (hM.lo h).below hb) (fun h => hM.hi hb h (cell_lt hv))
 replace hM := hM.below hb
 have hM4 : cs.length = l.length * 4 := hM.own.1.1
 have hplt := hpb.1
 have c1 := hM.cel.cell 1 _ rfl
 go_enter Tryz.func77, Tryz.ntmps77
 repeat' ((fail_if_success at_builtin); first | go_skip | go_guarded | go_step)
 go_upto_region 2 with (fail)
 replace hv : w.drew.cell? ⟨pb, po, none⟩ = some (.string s) := hv
 replace hM := hM.drew.add (rd_str s)
 replace hpb : Bhd w.drew (.slice A l.length c) g pb := hpb
 replace hplt : pb < w.drew.heap.size := hplt
 refine wp_region_held_drew (S := (fun w' => w'.cell? ⟨pb, po, none⟩ = some (.string s))) (by kernel_rfl) ?_ (fun hHeld => ?_)
 ·(try dsimp only)
  exact hv
 generalize World.drew w = vd at *
 refine tkY 0 (v := ?v16) rfl (.inl ⟨by rfl, ?hy16⟩) ?hr16
 case hy16 => (intro w hSw; (try dsimp only at hSw); go_simp; try with_reducible rfl)
 simp only [Act.put, Z1, Z2, Z4, Z5, Z6]
 refine tkY 1 (v := ?v17) rfl (.inl ⟨by rfl, ?hy17⟩) ?hr17
 case hy17 => (intro w hSw; (try dsimp only at hSw); go_simp; try with_reducible rfl)
 simp only [Act.put, Z1, Z2, Z3, Z4, Z5, Z6]
 refine tkY 2 (v := ?v18) rfl (.inl ⟨by rfl, ?hy18⟩) ?hr18
 case hy18 => (intro w hSw; (try dsimp only at hSw); go_simp; try with_reducible rfl)
 simp only [Act.put, Z1, Z2, Z3, Z4, Z5, Z6]
 refine tkY 4 (v := ?v19) rfl (.inl ⟨by rfl, ?hy19⟩) ?hr19
 case hy19 => (intro w hSw; (try dsimp only at hSw); go_simp; try with_reducible rfl)
 simp only [Act.put, Z1, Z2, Z3, Z4, Z5, Z6]
 refine tkY 5 (v := ?v20) rfl (.inl ⟨by rfl, ?hy20⟩) ?hr20
 case hy20 => (intro w hSw; (try dsimp only at hSw); go_simp; try with_reducible rfl)
 simp only [Act.put, Z1, Z2, Z3, Z4, Z5, Z6]
 refine tkY 6 (v := ?v21) rfl (.inl ⟨by rfl, ?hy21⟩) ?hr21
 case hy21 => (intro w hSw; (try dsimp only at hSw); go_simp; try with_reducible rfl)
 simp only [Act.put, Z1, Z2, Z3, Z4, Z5, Z6]
 refine tkY 7 (v := ?v22) rfl (.inl ⟨by rfl, ?hy22⟩) ?hr22
 case hy22 => (intro w hSw; (try dsimp only at hSw); go_simp; try with_reducible rfl)
 simp only [Act.put, Z1, Z2, Z3, Z4, Z5, Z6]
 refine wpAnyH_ready (rs := [3, 9]) (by kernel_rfl) (by simp) ?_
 refine AllReadyH.cons rfl (fun K hK => ?_) ?_
 ·have x3 := hM.cel.cell 0 _ rfl
  go_simp
  clear x3
  refine hK.out _ _ ?_ (fun hHeld => ?_)
  ·(try dsimp only)
   exact hv
  clear hK K
  try simp only [Act.put, Z1, Z2, Z3, Z4, Z5, Z6]
  refine tkY 8 (v := ?v23) rfl (.inl ⟨by rfl, ?hy23⟩) ?hr23
  case hy23 => (intro w hSw; (try dsimp only at hSw); go_simp; try with_reducible rfl)
  simp only [Act.put, Z1, Z2, Z3, Z4, Z5, Z6]
  refine wpAnyH_ready (rs := [9]) (by kernel_rfl) (by simp) ?_
  refine AllReadyH.cons rfl (fun K hK => ?_) ?_
  ·go_simp
   have hba := (Below.refl vd.heap.size vd).alloc (Nat.le_refl _) (.cells #[.int .i64 0, .int .i64 0, .string ⟨#[]⟩, .slice none 0 0] 98)
   have hz := CellsAt.new vd #[.int .i64 0, .int .i64 0, .string ⟨#[]⟩, .slice none 0 0] 98
   replace hM := hM.below hba
   replace hpb := hpb.below hba
   replace hv := (hba.cell (p := ⟨pb, _, none⟩) hplt).trans hv
   replace hplt := Nat.lt_of_lt_of_le hplt hba.size
   obtain ⟨zb, hzb⟩ : ∃ zb, zb = vd.heap.size := ⟨_, rfl⟩
   rw [← hzb] at hz ⊢
   clear hzb hba
   generalize World.alloc vd _ = v2 at *
   refine hK.out _ _ ?_ (fun hHeld => ?_)
   ·(try dsimp only)
    exact hv
   clear hK K
   try simp only [Act.put, Z1, Z2, Z3, Z4, Z5, Z6]
   refine wpAnyH_ready (rs := [10]) (by kernel_rfl) (by simp) ?_
   refine AllReadyH.cons rfl (fun K hK => ?_) ?_
   ·have hzs : Seq v2 v2.heap.size 4 (some ⟨zb, 0, none⟩) 1 [.int .i64 0, .int .i64 0, .string ⟨#[]⟩, .slice none 0 0] := seq_box hz rfl
    refine step_appS hM.own fld_und fld_info hzs zero_one (by omega) ?_
    intro u4 v3 hO4 hg4
    obtain ⟨A4, c4, rfl⟩ := hO4.slice_form
    obtain ⟨r, rfl, hrlo, hrlt⟩ := own_blk hO4
    replace hv := (hg4.cell (p := ⟨pb, _, none⟩) hplt hpb.2.1).trans hv
    replace hpb := hpb.grew hg4
    replace hplt := Nat.lt_of_lt_of_le hplt hg4.by_.size
    replace hM := hM.grew hO4 hg4
    have hpr : r ≠ pb := fun e => hpb.2.1 (by rw [← e]; rfl)
    have hpg : g ≠ pb := fun e => hpb.2.2 e.symm
    have fi : (l.length : Int) < (l.length : Int) + 1 := by omega
    clear hO4 hg4 hzs hz
    refine hK.out _ _ ?_ (fun hHeld => ?_)
    ·(try dsimp only)
     exact hv
    clear hK K
    try simp only [Act.put, Z1, Z2, Z3, Z4, Z5, Z6]
    refine tkY 11 (v := ?v24) rfl (.inl ⟨by rfl, ?hy24⟩) ?hr24
    case hy24 => (intro w hSw; (try dsimp only at hSw); go_simp; try with_reducible rfl)
    simp only [Act.put, Z1, Z2, Z3, Z4, Z5, Z6]
    refine tkY 13 (v := ?v25) rfl (.inl ⟨by rfl, ?hy25⟩) ?hr25
    case hy25 => (intro w hSw; (try dsimp only at hSw); go_simp; try with_reducible rfl)
    simp only [Act.put, Z1, Z2, Z3, Z4, Z5, Z6]
    refine tkY 14 (v := ?v26) rfl (.inl ⟨by rfl, ?hy26⟩) ?hr26
    case hy26 => (intro w hSw; (try dsimp only at hSw); go_simp; try with_reducible rfl)
    simp only [Act.put, Z1, Z2, Z3, Z4, Z5, Z6]
    refine wpAnyH_ready (rs := [12, 15]) (by kernel_rfl) (by simp) ?_
    refine AllReadyH.cons rfl (fun K hK => ?_) ?_
    ·have y0 : v3.cell? ⟨r, l.length * 4, none⟩ = some (.int .i64 0) := row_at hM.own hM4 0 rfl
     have y1 := row_at hM.own hM4 1 rfl
     have y2 := row_at hM.own hM4 2 rfl
     have y3 := row_at hM.own hM4 3 rfl
     have yf := row_fr hM.own
     go_simp
     clear y0 y1 y2 y3 yf
     replace hv : (((((v3.setCell ⟨r, l.length * 4, none⟩ (.int .i64 1)).setCell ⟨r, l.length * 4 + 1, none⟩ (.int .i64 0)).setCell ⟨r, l.length * 4 + 2, none⟩ (.string s)).setCell ⟨r, l.length * 4 + 3, none⟩ (.slice none 0 0))).cell? ⟨pb, po, none⟩ = some (.string s) := (far4s (fun e => hpr e.symm) _ _ _ _ _ _ _ _).trans hv
     replace hM := (((hM.row hrlo (l.length * 4) (.int .i64 1)).row hrlo (l.length * 4 + 1) (.int .i64 0)).row hrlo (l.length * 4 + 2) (.string s)).row hrlo (l.length * 4 + 3) (.slice none 0 0)
     rw [set4 cs l.length hM4] at hM
     replace hpb : Bhd (((((v3.setCell ⟨r, l.length * 4, none⟩ (.int .i64 1)).setCell ⟨r, l.length * 4 + 1, none⟩ (.int .i64 0)).setCell ⟨r, l.length * 4 + 2, none⟩ (.string s)).setCell ⟨r, l.length * 4 + 3, none⟩ (.slice none 0 0))) (.slice (some ⟨r, 0, none⟩) (l.length + 1) c4) g pb := ⟨by simpa [World.setCell] using hpb.1, hpb.2⟩
     replace hplt := hpb.1
     generalize ((((v3.setCell ⟨r, l.length * 4, none⟩ (.int .i64 1)).setCell ⟨r, l.length * 4 + 1, none⟩ (.int .i64 0)).setCell ⟨r, l.length * 4 + 2, none⟩ (.string s)).setCell ⟨r, l.length * 4 + 3, none⟩ (.slice none 0 0)) = v4 at *
     refine hK.out _ _ ?_ (fun hHeld => ?_)
     ·(try dsimp only)
      exact hv
     clear hK K
     try simp only [Act.put, Z1, Z2, Z3, Z4, Z5, Z6]
     refine wpAnyH_ready (rs := [15]) (by kernel_rfl) (by simp) ?_
     refine AllReadyH.cons rfl (fun K hK => ?_) ?_
     ·have y0 := hM.cel.cell 0 _ rfl
      have yf := hM.cel.fr
      go_simp
      clear y0 yf
      replace hv : ((v4.setCell ⟨g, 0, none⟩ (.slice (some ⟨r, 0, none⟩) (l.length + 1) c4))).cell? ⟨pb, po, none⟩ = some (.string s) := (World.cell?_setCell_far v4 ⟨g, 0, none⟩ ⟨pb, po, none⟩ _ hpg).trans hv
      replace hM := hM.set 0 (.slice (some ⟨r, 0, none⟩) (l.length + 1) c4)
      replace hpb : Bhd ((v4.setCell ⟨g, 0, none⟩ (.slice (some ⟨r, 0, none⟩) (l.length + 1) c4))) (.slice (some ⟨r, 0, none⟩) (l.length + 1) c4) g pb := ⟨by simpa [World.setCell] using hpb.1, hpb.2⟩
      replace hplt := hpb.1
      generalize (v4.setCell ⟨g, 0, none⟩ (.slice (some ⟨r, 0, none⟩) (l.length + 1) c4)) = v5 at *
      refine hK.out _ _ ?_ (fun hHeld => ?_)
      ·(try dsimp only)
       exact hv
      clear hK K
      try simp only [Act.put, Z1, Z2, Z3, Z4, Z5, Z6]
      refine wpAnyH_done (by kernel_rfl) ?_ _
      repeat' ((fail_if_success at_builtin); first | go_skip | go_guarded | go_step)
      go_end0
      have hw := CW.mk hM
      exact ⟨rfl, hw, hv⟩
     exact AllReadyH.nil
    refine AllReadyH.cons rfl (fun K hK => ?_) ?_
    ·have y0 := hM.cel.cell 0 _ rfl
     have yf := hM.cel.fr
     go_simp
     clear y0 yf
     replace hv : ((v3.setCell ⟨g, 0, none⟩ (.slice (some ⟨r, 0, none⟩) (l.length + 1) c4))).cell? ⟨pb, po, none⟩ = some (.string s) := (World.cell?_setCell_far v3 ⟨g, 0, none⟩ ⟨pb, po, none⟩ _ hpg).trans hv
     replace hM := hM.set 0 (.slice (some ⟨r, 0, none⟩) (l.length + 1) c4)
     replace hpb : Bhd ((v3.setCell ⟨g, 0, none⟩ (.slice (some ⟨r, 0, none⟩) (l.length + 1) c4))) (.slice (some ⟨r, 0, none⟩) (l.length + 1) c4) g pb := ⟨by simpa [World.setCell] using hpb.1, hpb.2⟩
     replace hplt := hpb.1
     generalize (v3.setCell ⟨g, 0, none⟩ (.slice (some ⟨r, 0, none⟩) (l.length + 1) c4)) = v4 at *
     refine hK.out _ _ ?_ (fun hHeld => ?_)
     ·(try dsimp only)
      exact hv
     clear hK K
     try simp only [Act.put, Z1, Z2, Z3, Z4, Z5, Z6]
     refine wpAnyH_ready (rs := [12]) (by kernel_rfl) (by simp) ?_
     refine AllReadyH.cons rfl (fun K hK => ?_) ?_
     ·have y0 : v4.cell? ⟨r, l.length * 4, none⟩ = some (.int .i64 0) := row_at hM.own hM4 0 rfl
      have y1 := row_at hM.own hM4 1 rfl
      have y2 := row_at hM.own hM4 2 rfl
      have y3 := row_at hM.own hM4 3 rfl
      have yf := row_fr hM.own
      go_simp
      clear y0 y1 y2 y3 yf
      replace hv : (((((v4.setCell ⟨r, l.length * 4, none⟩ (.int .i64 1)).setCell ⟨r, l.length * 4 + 1, none⟩ (.int .i64 0)).setCell ⟨r, l.length * 4 + 2, none⟩ (.string s)).setCell ⟨r, l.length * 4 + 3, none⟩ (.slice none 0 0))).cell? ⟨pb, po, none⟩ = some (.string s) := (far4s (fun e => hpr e.symm) _ _ _ _ _ _ _ _).trans hv
      replace hM := (((hM.row hrlo (l.length * 4) (.int .i64 1)).row hrlo (l.length * 4 + 1) (.int .i64 0)).row hrlo (l.length * 4 + 2) (.string s)).row hrlo (l.length * 4 + 3) (.slice none 0 0)
      rw [set4 cs l.length hM4] at hM
      replace hpb : Bhd (((((v4.setCell ⟨r, l.length * 4, none⟩ (.int .i64 1)).setCell ⟨r, l.length * 4 + 1, none⟩ (.int .i64 0)).setCell ⟨r, l.length * 4 + 2, none⟩ (.string s)).setCell ⟨r, l.length * 4 + 3, none⟩ (.slice none 0 0))) (.slice (some ⟨r, 0, none⟩) (l.length + 1) c4) g pb := ⟨by simpa [World.setCell] using hpb.1, hpb.2⟩
      replace hplt := hpb.1
      generalize ((((v4.setCell ⟨r, l.length * 4, none⟩ (.int .i64 1)).setCell ⟨r, l.length * 4 + 1, none⟩ (.int .i64 0)).setCell ⟨r, l.length * 4 + 2, none⟩ (.string s)).setCell ⟨r, l.length * 4 + 3, none⟩ (.slice none 0 0)) = v5 at *
      refine hK.out _ _ ?_ (fun hHeld => ?_)
      ·(try dsimp only)
       exact hv
      clear hK K
      try simp only [Act.put, Z1, Z2, Z3, Z4, Z5, Z6]
      refine wpAnyH_done (by kernel_rfl) ?_ _
      repeat' ((fail_if_success at_builtin); first | go_skip | go_guarded | go_step)
      go_end0
      have hw := CW.mk hM
      exact ⟨rfl, hw, hv⟩
     exact AllReadyH.nil
    exact AllReadyH.nil
   exact AllReadyH.nil
  exact AllReadyH.nil
 refine AllReadyH.cons rfl (fun K hK => ?_) ?_
 ·go_simp
  have hba := (Below.refl vd.heap.size vd).alloc (Nat.le_refl _) (.cells #[.int .i64 0, .int .i64 0, .string ⟨#[]⟩, .slice none 0 0] 98)
  have hz := CellsAt.new vd #[.int .i64 0, .int .i64 0, .string ⟨#[]⟩, .slice none 0 0] 98
  replace hM := hM.below hba
  replace hpb := hpb.below hba
  replace hv := (hba.cell (p := ⟨pb, _, none⟩) hplt).trans hv
  replace hplt := Nat.lt_of_lt_of_le hplt hba.size
  obtain ⟨zb, hzb⟩ : ∃ zb, zb = vd.heap.size := ⟨_, rfl⟩
  rw [← hzb] at hz ⊢
  clear hzb hba
  generalize World.alloc vd _ = v1 at *
  refine hK.out _ _ ?_ (fun hHeld => ?_)
  ·(try dsimp only)
   exact hv
  clear hK K
  try simp only [Act.put, Z1, Z2, Z3, Z4, Z5, Z6]
  refine wpAnyH_ready (rs := [3]) (by kernel_rfl) (by simp) ?_
  refine AllReadyH.cons rfl (fun K hK => ?_) ?_
  ·have x3 := hM.cel.cell 0 _ rfl
   go_simp
   clear x3
   refine hK.out _ _ ?_ (fun hHeld => ?_)
   ·(try dsimp only)
    exact hv
   clear hK K
   try simp only [Act.put, Z1, Z2, Z3, Z4, Z5, Z6]
   refine tkY 8 (v := ?v27) rfl (.inl ⟨by rfl, ?hy27⟩) ?hr27
   case hy27 => (intro w hSw; (try dsimp only at hSw); go_simp; try with_reducible rfl)
   simp only [Act.put, Z1, Z2, Z3, Z4, Z5, Z6]
   refine wpAnyH_ready (rs := [10]) (by kernel_rfl) (by simp) ?_
   refine AllReadyH.cons rfl (fun K hK => ?_) ?_
   ·have hzs : Seq v1 v1.heap.size 4 (some ⟨zb, 0, none⟩) 1 [.int .i64 0, .int .i64 0, .string ⟨#[]⟩, .slice none 0 0] := seq_box hz rfl
    refine step_appS hM.own fld_und fld_info hzs zero_one (by omega) ?_
    intro u4 v3 hO4 hg4
    obtain ⟨A4, c4, rfl⟩ := hO4.slice_form
    obtain ⟨r, rfl, hrlo, hrlt⟩ := own_blk hO4
    replace hv := (hg4.cell (p := ⟨pb, _, none⟩) hplt hpb.2.1).trans hv
    replace hpb := hpb.grew hg4
    replace hplt := Nat.lt_of_lt_of_le hplt hg4.by_.size
    replace hM := hM.grew hO4 hg4
    have hpr : r ≠ pb := fun e => hpb.2.1 (by rw [← e]; rfl)
    have hpg : g ≠ pb := fun e => hpb.2.2 e.symm
    have fi : (l.length : Int) < (l.length : Int) + 1 := by omega
    clear hO4 hg4 hzs hz
    refine hK.out _ _ ?_ (fun hHeld => ?_)
    ·(try dsimp only)
     exact hv
    clear hK K
    try simp only [Act.put, Z1, Z2, Z3, Z4, Z5, Z6]
    refine tkY 11 (v := ?v28) rfl (.inl ⟨by rfl, ?hy28⟩) ?hr28
    case hy28 => (intro w hSw; (try dsimp only at hSw); go_simp; try with_reducible rfl)
    simp only [Act.put, Z1, Z2, Z3, Z4, Z5, Z6]
    refine tkY 13 (v := ?v29) rfl (.inl ⟨by rfl, ?hy29⟩) ?hr29
    case hy29 => (intro w hSw; (try dsimp only at hSw); go_simp; try with_reducible rfl)
    simp only [Act.put, Z1, Z2, Z3, Z4, Z5, Z6]
    refine tkY 14 (v := ?v30) rfl (.inl ⟨by rfl, ?hy30⟩) ?hr30
    case hy30 => (intro w hSw; (try dsimp only at hSw); go_simp; try with_reducible rfl)
    simp only [Act.put, Z1, Z2, Z3, Z4, Z5, Z6]
    refine wpAnyH_ready (rs := [12, 15]) (by kernel_rfl) (by simp) ?_
    refine AllReadyH.cons rfl (fun K hK => ?_) ?_
    ·have y0 : v3.cell? ⟨r, l.length * 4, none⟩ = some (.int .i64 0) := row_at hM.own hM4 0 rfl
     have y1 := row_at hM.own hM4 1 rfl
     have y2 := row_at hM.own hM4 2 rfl
     have y3 := row_at hM.own hM4 3 rfl
     have yf := row_fr hM.own
     go_simp
     clear y0 y1 y2 y3 yf
     replace hv : (((((v3.setCell ⟨r, l.length * 4, none⟩ (.int .i64 1)).setCell ⟨r, l.length * 4 + 1, none⟩ (.int .i64 0)).setCell ⟨r, l.length * 4 + 2, none⟩ (.string s)).setCell ⟨r, l.length * 4 + 3, none⟩ (.slice none 0 0))).cell? ⟨pb, po, none⟩ = some (.string s) := (far4s (fun e => hpr e.symm) _ _ _ _ _ _ _ _).trans hv
     replace hM := (((hM.row hrlo (l.length * 4) (.int .i64 1)).row hrlo (l.length * 4 + 1) (.int .i64 0)).row hrlo (l.length * 4 + 2) (.string s)).row hrlo (l.length * 4 + 3) (.slice none 0 0)
     rw [set4 cs l.length hM4] at hM
     replace hpb : Bhd (((((v3.setCell ⟨r, l.length * 4, none⟩ (.int .i64 1)).setCell ⟨r, l.length * 4 + 1, none⟩ (.int .i64 0)).setCell ⟨r, l.length * 4 + 2, none⟩ (.string s)).setCell ⟨r, l.length * 4 + 3, none⟩ (.slice none 0 0))) (.slice (some ⟨r, 0, none⟩) (l.length + 1) c4) g pb := ⟨by simpa [World.setCell] using hpb.1, hpb.2⟩
     replace hplt := hpb.1
     generalize ((((v3.setCell ⟨r, l.length * 4, none⟩ (.int .i64 1)).setCell ⟨r, l.length * 4 + 1, none⟩ (.int .i64 0)).setCell ⟨r, l.length * 4 + 2, none⟩ (.string s)).setCell ⟨r, l.length * 4 + 3, none⟩ (.slice none 0 0)) = v4 at *
     refine hK.out _ _ ?_ (fun hHeld => ?_)
     ·(try dsimp only)
      exact hv
     clear hK K
     try simp only [Act.put, Z1, Z2, Z3, Z4, Z5, Z6]
     refine wpAnyH_ready (rs := [15]) (by kernel_rfl) (by simp) ?_
     refine AllReadyH.cons rfl (fun K hK => ?_) ?_
     ·have y0 := hM.cel.cell 0 _ rfl
      have yf := hM.cel.fr
      go_simp
      clear y0 yf
      replace hv : ((v4.setCell ⟨g, 0, none⟩ (.slice (some ⟨r, 0, none⟩) (l.length + 1) c4))).cell? ⟨pb, po, none⟩ = some (.string s) := (World.cell?_setCell_far v4 ⟨g, 0, none⟩ ⟨pb, po, none⟩ _ hpg).trans hv
      replace hM := hM.set 0 (.slice (some ⟨r, 0, none⟩) (l.length + 1) c4)
      replace hpb : Bhd ((v4.setCell ⟨g, 0, none⟩ (.slice (some ⟨r, 0, none⟩) (l.length + 1) c4))) (.slice (some ⟨r, 0, none⟩) (l.length + 1) c4) g pb := ⟨by simpa [World.setCell] using hpb.1, hpb.2⟩
      replace hplt := hpb.1
      generalize (v4.setCell ⟨g, 0, none⟩ (.slice (some ⟨r, 0, none⟩) (l.length + 1) c4)) = v5 at *
      refine hK.out _ _ ?_ (fun hHeld => ?_)
      ·(try dsimp only)
       exact hv
      clear hK K
      try simp only [Act.put, Z1, Z2, Z3, Z4, Z5, Z6]
      refine wpAnyH_done (by kernel_rfl) ?_ _
      repeat' ((fail_if_success at_builtin); first | go_skip | go_guarded | go_step)
      go_end0
      have hw := CW.mk hM
      exact ⟨rfl, hw, hv⟩
     exact AllReadyH.nil
    refine AllReadyH.cons rfl (fun K hK => ?_) ?_
    ·have y0 := hM.cel.cell 0 _ rfl
     have yf := hM.cel.fr
     go_simp
     clear y0 yf
     replace hv : ((v3.setCell ⟨g, 0, none⟩ (.slice (some ⟨r, 0, none⟩) (l.length + 1) c4))).cell? ⟨pb, po, none⟩ = some (.string s) := (World.cell?_setCell_far v3 ⟨g, 0, none⟩ ⟨pb, po, none⟩ _ hpg).trans hv
     replace hM := hM.set 0 (.slice (some ⟨r, 0, none⟩) (l.length + 1) c4)
     replace hpb : Bhd ((v3.setCell ⟨g, 0, none⟩ (.slice (some ⟨r, 0, none⟩) (l.length + 1) c4))) (.slice (some ⟨r, 0, none⟩) (l.length + 1) c4) g pb := ⟨by simpa [World.setCell] using hpb.1, hpb.2⟩
     replace hplt := hpb.1
     generalize (v3.setCell ⟨g, 0, none⟩ (.slice (some ⟨r, 0, none⟩) (l.length + 1) c4)) = v4 at *
     refine hK.out _ _ ?_ (fun hHeld => ?_)
     ·(try dsimp only)
      exact hv
     clear hK K
     try simp only [Act.put, Z1, Z2, Z3, Z4, Z5, Z6]
     refine wpAnyH_ready (rs := [12]) (by kernel_rfl) (by simp) ?_
     refine AllReadyH.cons rfl (fun K hK => ?_) ?_
     ·have y0 : v4.cell? ⟨r, l.length * 4, none⟩ = some (.int .i64 0) := row_at hM.own hM4 0 rfl
      have y1 := row_at hM.own hM4 1 rfl
      have y2 := row_at hM.own hM4 2 rfl
      have y3 := row_at hM.own hM4 3 rfl
      have yf := row_fr hM.own
      go_simp
      clear y0 y1 y2 y3 yf
      replace hv : (((((v4.setCell ⟨r, l.length * 4, none⟩ (.int .i64 1)).setCell ⟨r, l.length * 4 + 1, none⟩ (.int .i64 0)).setCell ⟨r, l.length * 4 + 2, none⟩ (.string s)).setCell ⟨r, l.length * 4 + 3, none⟩ (.slice none 0 0))).cell? ⟨pb, po, none⟩ = some (.string s) := (far4s (fun e => hpr e.symm) _ _ _ _ _ _ _ _).trans hv
      replace hM := (((hM.row hrlo (l.length * 4) (.int .i64 1)).row hrlo (l.length * 4 + 1) (.int .i64 0)).row hrlo (l.length * 4 + 2) (.string s)).row hrlo (l.length * 4 + 3) (.slice none 0 0)
      rw [set4 cs l.length hM4] at hM
      replace hpb : Bhd (((((v4.setCell ⟨r, l.length * 4, none⟩ (.int .i64 1)).setCell ⟨r, l.length * 4 + 1, none⟩ (.int .i64 0)).setCell ⟨r, l.length * 4 + 2, none⟩ (.string s)).setCell ⟨r, l.length * 4 + 3, none⟩ (.slice none 0 0))) (.slice (some ⟨r, 0, none⟩) (l.length + 1) c4) g pb := ⟨by simpa [World.setCell] using hpb.1, hpb.2⟩
      replace hplt := hpb.1
      generalize ((((v4.setCell ⟨r, l.length * 4, none⟩ (.int .i64 1)).setCell ⟨r, l.length * 4 + 1, none⟩ (.int .i64 0)).setCell ⟨r, l.length * 4 + 2, none⟩ (.string s)).setCell ⟨r, l.length * 4 + 3, none⟩ (.slice none 0 0)) = v5 at *
      refine hK.out _ _ ?_ (fun hHeld => ?_)
      ·(try dsimp only)
       exact hv
      clear hK K
      try simp only [Act.put, Z1, Z2, Z3, Z4, Z5, Z6]
      refine wpAnyH_done (by kernel_rfl) ?_ _
      repeat' ((fail_if_success at_builtin); first | go_skip | go_guarded | go_step)
      go_end0
      have hw := CW.mk hM
      exact ⟨rfl, hw, hv⟩
     exact AllReadyH.nil
    exact AllReadyH.nil
   exact AllReadyH.nil
  exact AllReadyH.nil
 exact AllReadyH.nil
theorem rd_in {W0 w1 w : World} {g gi n : Nat} {gc gc' : List Value} {v : Value} {xs : List Value} {m : List FV} {ds csi : List Value} {Ai : Option Addr} {ci : Nat} {l : List FV} (hM : Mid W0 w1 g gc v n xs l ds) (hI : Mid w1 w gi gc' (.slice Ai m.length ci) m.length csi m csi) : rF w (Bhw W0 w v g) (fL m) [.int .i64 2, .int .i64 0, .string ⟨#[]⟩, .slice Ai m.length ci] := by
 have hb := hI.bel
 have hlo : ∀ b, w1.heap.size ≤ b → b < w.heap.size → Bhw W0 w v g b := fun b h1 h2 => ⟨Nat.le_trans hM.bel.size h1, hM.hi hb h1 h2⟩
 have hcap := hI.own.cap_le
 refine ⟨Ai, ci, csi, by show _ = [Value.int .i64 2, Value.int .i64 0, Value.string ⟨#[]⟩, Value.slice Ai (ofL m).length ci]; rw [ofL_length], ii2, ii0, ⟨⟨?_, ?_⟩, ?_⟩, ?_⟩
 ·show csi.length = (ofL m).length * 4
  rw [ofL_length]; exact hI.own.1.1
 ·show 0 < (ofL m).length → _
  rw [ofL_length]
  intro h0
  obtain ⟨r, h1, h2, h3, h4, _⟩ := hI.own.head h0
  exact ⟨r, 0, h1, hlo r h2 h3, fun j u hu => by rw [Nat.zero_add]; exact h4 j u hu⟩
 ·show (ofL m).length ≤ ci
  rw [ofL_length]; exact hcap
 ·exact rep_of (RList.map (fun x c hc => rF_ok _ _ _ _ x c (fun _ _ => rfl) (fun b hb => hlo b hb.1 hb.2.1) hc) hI.con)
theorem done_w (W0 w1 w : World) (g pb : Nat) (l m : List FV) (hc : CW W0 w1 g l) (hi : CW w1 w pb m) (hl : l.length ≤ 1000000000) :
  Calls Tryz.prog 121 #[.pointer (some ⟨g, 0, none⟩), .pointer (some ⟨pb, 0, none⟩)] w fun e w' => e = .returned (.tuple #[]) ∧ CW W0 w' g (l ++ [fL m]) := by
 have hb := hi.bel
 have hp := hi.ge
 obtain ⟨Ai, ci, csi, hI⟩ := hi
 have hv := hI.cel.cell 0 _ rfl
 obtain ⟨A, c, cs, hM⟩ := hc
 have hpb : Bhd w (.slice A l.length c) g pb := hM.hi hb hp (cell_lt hv)
 have hf := rd_in hM hI
 clear hI
 replace hM := hM.below hb
 have hM4 : cs.length = l.length * 4 := hM.own.1.1
 have hplt := hpb.1
 have c1 := hM.cel.cell 1 _ rfl
 go_enter Tryz.func121, Tryz.ntmps121
 repeat' ((fail_if_success at_builtin); first | go_skip | go_guarded | go_step)
 go_upto_region 2 with (fail)
 replace hv : w.drew.cell? ⟨pb, 0, none⟩ = some (.slice Ai m.length ci) := hv
 replace hM := (hM.add hf).drew
 clear hf
 replace hpb : Bhd w.drew (.slice A l.length c) g pb := hpb
 replace hplt : pb < w.drew.heap.size := hplt
 refine wp_region_held_drew (S := (fun w' => w'.cell? ⟨pb, 0, none⟩ = some (.slice Ai m.length ci))) (by kernel_rfl) ?_ (fun hHeld => ?_)
 ·(try dsimp only)
  exact hv
 generalize World.drew w = vd at *
 refine tkY 0 (v := ?v31) rfl (.inl ⟨by rfl, ?hy31⟩) ?hr31
 case hy31 => (intro w hSw; (try dsimp only at hSw); go_simp; try with_reducible rfl)
 simp only [Act.put, Z1, Z2, Z4, Z5, Z6]
 refine tkY 1 (v := ?v32) rfl (.inl ⟨by rfl, ?hy32⟩) ?hr32
 case hy32 => (intro w hSw; (try dsimp only at hSw); go_simp; try with_reducible rfl)
 simp only [Act.put, Z1, Z2, Z3, Z4, Z5, Z6]
 refine tkY 2 (v := ?v33) rfl (.inl ⟨by rfl, ?hy33⟩) ?hr33
 case hy33 => (intro w hSw; (try dsimp only at hSw); go_simp; try with_reducible rfl)
 simp only [Act.put, Z1, Z2, Z3, Z4, Z5, Z6]
 refine tkY 4 (v := ?v34) rfl (.inl ⟨by rfl, ?hy34⟩) ?hr34
 case hy34 => (intro w hSw; (try dsimp only at hSw); go_simp; try with_reducible rfl)
 simp only [Act.put, Z1, Z2, Z3, Z4, Z5, Z6]
 refine tkY 5 (v := ?v35) rfl (.inl ⟨by rfl, ?hy35⟩) ?hr35
 case hy35 => (intro w hSw; (try dsimp only at hSw); go_simp; try with_reducible rfl)
 simp only [Act.put, Z1, Z2, Z3, Z4, Z5, Z6]
 refine tkY 6 (v := ?v36) rfl (.inl ⟨by rfl, ?hy36⟩) ?hr36
 case hy36 => (intro w hSw; (try dsimp only at hSw); go_simp; try with_reducible rfl)
 simp only [Act.put, Z1, Z2, Z3, Z4, Z5, Z6]
 refine tkY 7 (v := ?v37) rfl (.inl ⟨by rfl, ?hy37⟩) ?hr37
 case hy37 => (intro w hSw; (try dsimp only at hSw); go_simp; try with_reducible rfl)
 simp only [Act.put, Z1, Z2, Z3, Z4, Z5, Z6]
 refine tkY 8 (v := ?v38) rfl (.inl ⟨by rfl, ?hy38⟩) ?hr38
 case hy38 => (intro w hSw; (try dsimp only at hSw); go_simp; try with_reducible rfl)
 simp only [Act.put, Z1, Z2, Z3, Z4, Z5, Z6]
 refine wpAnyH_ready (rs := [3, 10]) (by kernel_rfl) (by simp) ?_
 refine AllReadyH.cons rfl (fun K hK => ?_) ?_
 ·have x3 := hM.cel.cell 0 _ rfl
  go_simp
  clear x3
  refine hK.out _ _ ?_ (fun hHeld => ?_)
  ·(try dsimp only)
   exact hv
  clear hK K
  try simp only [Act.put, Z1, Z2, Z3, Z4, Z5, Z6]
  refine tkY 9 (v := ?v39) rfl (.inl ⟨by rfl, ?hy39⟩) ?hr39
  case hy39 => (intro w hSw; (try dsimp only at hSw); go_simp; try with_reducible rfl)
  simp only [Act.put, Z1, Z2, Z3, Z4, Z5, Z6]
  refine wpAnyH_ready (rs := [10]) (by kernel_rfl) (by simp) ?_
  refine AllReadyH.cons rfl (fun K hK => ?_) ?_
  ·go_simp
   have hba := (Below.refl vd.heap.size vd).alloc (Nat.le_refl _) (.cells #[.int .i64 0, .int .i64 0, .string ⟨#[]⟩, .slice none 0 0] 98)
   have hz := CellsAt.new vd #[.int .i64 0, .int .i64 0, .string ⟨#[]⟩, .slice none 0 0] 98
   replace hM := hM.below hba
   replace hpb := hpb.below hba
   replace hv := (hba.cell (p := ⟨pb, _, none⟩) hplt).trans hv
   replace hplt := Nat.lt_of_lt_of_le hplt hba.size
   obtain ⟨zb, hzb⟩ : ∃ zb, zb = vd.heap.size := ⟨_, rfl⟩
   rw [← hzb] at hz ⊢
   clear hzb hba
   generalize World.alloc vd _ = v2 at *
   refine hK.out _ _ ?_ (fun hHeld => ?_)
   ·(try dsimp only)
    exact hv
   clear hK K
   try simp only [Act.put, Z1, Z2, Z3, Z4, Z5, Z6]
   refine wpAnyH_ready (rs := [11]) (by kernel_rfl) (by simp) ?_
   refine AllReadyH.cons rfl (fun K hK => ?_) ?_
   ·have hzs : Seq v2 v2.heap.size 4 (some ⟨zb, 0, none⟩) 1 [.int .i64 0, .int .i64 0, .string ⟨#[]⟩, .slice none 0 0] := seq_box hz rfl
    refine step_appS hM.own fld_und fld_info hzs zero_one (by omega) ?_
    intro u4 v3 hO4 hg4
    obtain ⟨A4, c4, rfl⟩ := hO4.slice_form
    obtain ⟨r, rfl, hrlo, hrlt⟩ := own_blk hO4
    replace hv := (hg4.cell (p := ⟨pb, _, none⟩) hplt hpb.2.1).trans hv
    replace hpb := hpb.grew hg4
    replace hplt := Nat.lt_of_lt_of_le hplt hg4.by_.size
    replace hM := hM.grew hO4 hg4
    have hpr : r ≠ pb := fun e => hpb.2.1 (by rw [← e]; rfl)
    have hpg : g ≠ pb := fun e => hpb.2.2 e.symm
    have fi : (l.length : Int) < (l.length : Int) + 1 := by omega
    clear hO4 hg4 hzs hz
    refine hK.out _ _ ?_ (fun hHeld => ?_)
    ·(try dsimp only)
     exact hv
    clear hK K
    try simp only [Act.put, Z1, Z2, Z3, Z4, Z5, Z6]
    refine tkY 12 (v := ?v40) rfl (.inl ⟨by rfl, ?hy40⟩) ?hr40
    case hy40 => (intro w hSw; (try dsimp only at hSw); go_simp; try with_reducible rfl)
    simp only [Act.put, Z1, Z2, Z3, Z4, Z5, Z6]
    refine tkY 14 (v := ?v41) rfl (.inl ⟨by rfl, ?hy41⟩) ?hr41
    case hy41 => (intro w hSw; (try dsimp only at hSw); go_simp; try with_reducible rfl)
    simp only [Act.put, Z1, Z2, Z3, Z4, Z5, Z6]
    refine tkY 15 (v := ?v42) rfl (.inl ⟨by rfl, ?hy42⟩) ?hr42
    case hy42 => (intro w hSw; (try dsimp only at hSw); go_simp; try with_reducible rfl)
    simp only [Act.put, Z1, Z2, Z3, Z4, Z5, Z6]
    refine wpAnyH_ready (rs := [13, 16]) (by kernel_rfl) (by simp) ?_
    refine AllReadyH.cons rfl (fun K hK => ?_) ?_
    ·have y0 : v3.cell? ⟨r, l.length * 4, none⟩ = some (.int .i64 0) := row_at hM.own hM4 0 rfl
     have y1 := row_at hM.own hM4 1 rfl
     have y2 := row_at hM.own hM4 2 rfl
     have y3 := row_at hM.own hM4 3 rfl
     have yf := row_fr hM.own
     go_simp
     clear y0 y1 y2 y3 yf
     replace hv : (((((v3.setCell ⟨r, l.length * 4, none⟩ (.int .i64 2)).setCell ⟨r, l.length * 4 + 1, none⟩ (.int .i64 0)).setCell ⟨r, l.length * 4 + 2, none⟩ (.string ⟨#[]⟩)).setCell ⟨r, l.length * 4 + 3, none⟩ (.slice Ai m.length ci))).cell? ⟨pb, 0, none⟩ = some (.slice Ai m.length ci) := (far4s (fun e => hpr e.symm) _ _ _ _ _ _ _ _).trans hv
     replace hM := (((hM.row hrlo (l.length * 4) (.int .i64 2)).row hrlo (l.length * 4 + 1) (.int .i64 0)).row hrlo (l.length * 4 + 2) (.string ⟨#[]⟩)).row hrlo (l.length * 4 + 3) (.slice Ai m.length ci)
     rw [set4 cs l.length hM4] at hM
     replace hpb : Bhd (((((v3.setCell ⟨r, l.length * 4, none⟩ (.int .i64 2)).setCell ⟨r, l.length * 4 + 1, none⟩ (.int .i64 0)).setCell ⟨r, l.length * 4 + 2, none⟩ (.string ⟨#[]⟩)).setCell ⟨r, l.length * 4 + 3, none⟩ (.slice Ai m.length ci))) (.slice (some ⟨r, 0, none⟩) (l.length + 1) c4) g pb := ⟨by simpa [World.setCell] using hpb.1, hpb.2⟩
     replace hplt := hpb.1
     generalize ((((v3.setCell ⟨r, l.length * 4, none⟩ (.int .i64 2)).setCell ⟨r, l.length * 4 + 1, none⟩ (.int .i64 0)).setCell ⟨r, l.length * 4 + 2, none⟩ (.string ⟨#[]⟩)).setCell ⟨r, l.length * 4 + 3, none⟩ (.slice Ai m.length ci)) = v4 at *
     refine hK.out _ _ ?_ (fun hHeld => ?_)
     ·(try dsimp only)
      exact hv
     clear hK K
     try simp only [Act.put, Z1, Z2, Z3, Z4, Z5, Z6]
     refine wpAnyH_ready (rs := [16]) (by kernel_rfl) (by simp) ?_
     refine AllReadyH.cons rfl (fun K hK => ?_) ?_
     ·have y0 := hM.cel.cell 0 _ rfl
      have yf := hM.cel.fr
      go_simp
      clear y0 yf
      replace hv : ((v4.setCell ⟨g, 0, none⟩ (.slice (some ⟨r, 0, none⟩) (l.length + 1) c4))).cell? ⟨pb, 0, none⟩ = some (.slice Ai m.length ci) := (World.cell?_setCell_far v4 ⟨g, 0, none⟩ ⟨pb, 0, none⟩ _ hpg).trans hv
      replace hM := hM.set 0 (.slice (some ⟨r, 0, none⟩) (l.length + 1) c4)
      replace hpb : Bhd ((v4.setCell ⟨g, 0, none⟩ (.slice (some ⟨r, 0, none⟩) (l.length + 1) c4))) (.slice (some ⟨r, 0, none⟩) (l.length + 1) c4) g pb := ⟨by simpa [World.setCell] using hpb.1, hpb.2⟩
      replace hplt := hpb.1
      generalize (v4.setCell ⟨g, 0, none⟩ (.slice (some ⟨r, 0, none⟩) (l.length + 1) c4)) = v5 at *
      refine hK.out _ _ ?_ (fun hHeld => ?_)
      ·(try dsimp only)
       exact hv
      clear hK K
      try simp only [Act.put, Z1, Z2, Z3, Z4, Z5, Z6]
      refine wpAnyH_done (by kernel_rfl) ?_ _
      repeat' ((fail_if_success at_builtin); first | go_skip | go_guarded | go_step)
      go_end0
      have hw := CW.mk hM
      exact ⟨rfl, hw⟩
     exact AllReadyH.nil
    refine AllReadyH.cons rfl (fun K hK => ?_) ?_
    ·have y0 := hM.cel.cell 0 _ rfl
     have yf := hM.cel.fr
     go_simp
     clear y0 yf
     replace hv : ((v3.setCell ⟨g, 0, none⟩ (.slice (some ⟨r, 0, none⟩) (l.length + 1) c4))).cell? ⟨pb, 0, none⟩ = some (.slice Ai m.length ci) := (World.cell?_setCell_far v3 ⟨g, 0, none⟩ ⟨pb, 0, none⟩ _ hpg).trans hv
     replace hM := hM.set 0 (.slice (some ⟨r, 0, none⟩) (l.length + 1) c4)
     replace hpb : Bhd ((v3.setCell ⟨g, 0, none⟩ (.slice (some ⟨r, 0, none⟩) (l.length + 1) c4))) (.slice (some ⟨r, 0, none⟩) (l.length + 1) c4) g pb := ⟨by simpa [World.setCell] using hpb.1, hpb.2⟩
     replace hplt := hpb.1
     generalize (v3.setCell ⟨g, 0, none⟩ (.slice (some ⟨r, 0, none⟩) (l.length + 1) c4)) = v4 at *
     refine hK.out _ _ ?_ (fun hHeld => ?_)
     ·(try dsimp only)
      exact hv
     clear hK K
     try simp only [Act.put, Z1, Z2, Z3, Z4, Z5, Z6]
     refine wpAnyH_ready (rs := [13]) (by kernel_rfl) (by simp) ?_
     refine AllReadyH.cons rfl (fun K hK => ?_) ?_
     ·have y0 : v4.cell? ⟨r, l.length * 4, none⟩ = some (.int .i64 0) := row_at hM.own hM4 0 rfl
      have y1 := row_at hM.own hM4 1 rfl
      have y2 := row_at hM.own hM4 2 rfl
      have y3 := row_at hM.own hM4 3 rfl
      have yf := row_fr hM.own
      go_simp
      clear y0 y1 y2 y3 yf
      replace hv : (((((v4.setCell ⟨r, l.length * 4, none⟩ (.int .i64 2)).setCell ⟨r, l.length * 4 + 1, none⟩ (.int .i64 0)).setCell ⟨r, l.length * 4 + 2, none⟩ (.string ⟨#[]⟩)).setCell ⟨r, l.length * 4 + 3, none⟩ (.slice Ai m.length ci))).cell? ⟨pb, 0, none⟩ = some (.slice Ai m.length ci) := (far4s (fun e => hpr e.symm) _ _ _ _ _ _ _ _).trans hv
      replace hM := (((hM.row hrlo (l.length * 4) (.int .i64 2)).row hrlo (l.length * 4 + 1) (.int .i64 0)).row hrlo (l.length * 4 + 2) (.string ⟨#[]⟩)).row hrlo (l.length * 4 + 3) (.slice Ai m.length ci)
      rw [set4 cs l.length hM4] at hM
      replace hpb : Bhd (((((v4.setCell ⟨r, l.length * 4, none⟩ (.int .i64 2)).setCell ⟨r, l.length * 4 + 1, none⟩ (.int .i64 0)).setCell ⟨r, l.length * 4 + 2, none⟩ (.string ⟨#[]⟩)).setCell ⟨r, l.length * 4 + 3, none⟩ (.slice Ai m.length ci))) (.slice (some ⟨r, 0, none⟩) (l.length + 1) c4) g pb := ⟨by simpa [World.setCell] using hpb.1, hpb.2⟩
      replace hplt := hpb.1
      generalize ((((v4.setCell ⟨r, l.length * 4, none⟩ (.int .i64 2)).setCell ⟨r, l.length * 4 + 1, none⟩ (.int .i64 0)).setCell ⟨r, l.length * 4 + 2, none⟩ (.string ⟨#[]⟩)).setCell ⟨r, l.length * 4 + 3, none⟩ (.slice Ai m.length ci)) = v5 at *
      refine hK.out _ _ ?_ (fun hHeld => ?_)
      ·(try dsimp only)
       exact hv
      clear hK K
      try simp only [Act.put, Z1, Z2, Z3, Z4, Z5, Z6]
      refine wpAnyH_done (by kernel_rfl) ?_ _
      repeat' ((fail_if_success at_builtin); first | go_skip | go_guarded | go_step)
      go_end0
      have hw := CW.mk hM
      exact ⟨rfl, hw⟩
     exact AllReadyH.nil
    exact AllReadyH.nil
   exact AllReadyH.nil
  exact AllReadyH.nil
 refine AllReadyH.cons rfl (fun K hK => ?_) ?_
 ·go_simp
  have hba := (Below.refl vd.heap.size vd).alloc (Nat.le_refl _) (.cells #[.int .i64 0, .int .i64 0, .string ⟨#[]⟩, .slice none 0 0] 98)
  have hz := CellsAt.new vd #[.int .i64 0, .int .i64 0, .string ⟨#[]⟩, .slice none 0 0] 98
  replace hM := hM.below hba
  replace hpb := hpb.below hba
  replace hv := (hba.cell (p := ⟨pb, _, none⟩) hplt).trans hv
  replace hplt := Nat.lt_of_lt_of_le hplt hba.size
  obtain ⟨zb, hzb⟩ : ∃ zb, zb = vd.heap.size := ⟨_, rfl⟩
  rw [← hzb] at hz ⊢
  clear hzb hba
  generalize World.alloc vd _ = v1 at *
  refine hK.out _ _ ?_ (fun hHeld => ?_)
  ·(try dsimp only)
   exact hv
  clear hK K
  try simp only [Act.put, Z1, Z2, Z3, Z4, Z5, Z6]
  refine wpAnyH_ready (rs := [3]) (by kernel_rfl) (by simp) ?_
  refine AllReadyH.cons rfl (fun K hK => ?_) ?_
  ·have x3 := hM.cel.cell 0 _ rfl
   go_simp
   clear x3
   refine hK.out _ _ ?_ (fun hHeld => ?_)
   ·(try dsimp only)
    exact hv
   clear hK K
   try simp only [Act.put, Z1, Z2, Z3, Z4, Z5, Z6]
   refine tkY 9 (v := ?v43) rfl (.inl ⟨by rfl, ?hy43⟩) ?hr43
   case hy43 => (intro w hSw; (try dsimp only at hSw); go_simp; try with_reducible rfl)
   simp only [Act.put, Z1, Z2, Z3, Z4, Z5, Z6]
   refine wpAnyH_ready (rs := [11]) (by kernel_rfl) (by simp) ?_
   refine AllReadyH.cons rfl (fun K hK => ?_) ?_
   ·have hzs : Seq v1 v1.heap.size 4 (some ⟨zb, 0, none⟩) 1 [.int .i64 0, .int .i64 0, .string ⟨#[]⟩, .slice none 0 0] := seq_box hz rfl
    refine step_appS hM.own fld_und fld_info hzs zero_one (by omega) ?_
    intro u4 v3 hO4 hg4
    obtain ⟨A4, c4, rfl⟩ := hO4.slice_form
    obtain ⟨r, rfl, hrlo, hrlt⟩ := own_blk hO4
    replace hv := (hg4.cell (p := ⟨pb, _, none⟩) hplt hpb.2.1).trans hv
    replace hpb := hpb.grew hg4
    replace hplt := Nat.lt_of_lt_of_le hplt hg4.by_.size
    replace hM := hM.grew hO4 hg4
    have hpr : r ≠ pb := fun e => hpb.2.1 (by rw [← e]; rfl)
    have hpg : g ≠ pb := fun e => hpb.2.2 e.symm
    have fi : (l.length : Int) < (l.length : Int) + 1 := by omega
    clear hO4 hg4 hzs hz
    refine hK.out _ _ ?_ (fun hHeld => ?_)
    ·(try dsimp only)
     exact hv
    clear hK K
    try simp only [Act.put, Z1, Z2, Z3, Z4, Z5, Z6]
    refine tkY 12 (v := ?v44) rfl (.inl ⟨by rfl, ?hy44⟩) ?hr44
    case hy44 => (intro w hSw; (try dsimp only at hSw); go_simp; try with_reducible rfl)
    simp only [Act.put, Z1, Z2, Z3, Z4, Z5, Z6]
    refine tkY 14 (v := ?v45) rfl (.inl ⟨by rfl, ?hy45⟩) ?hr45
    case hy45 => (intro w hSw; (try dsimp only at hSw); go_simp; try with_reducible rfl)
    simp only [Act.put, Z1, Z2, Z3, Z4, Z5, Z6]
    refine tkY 15 (v := ?v46) rfl (.inl ⟨by rfl, ?hy46⟩) ?hr46
    case hy46 => (intro w hSw; (try dsimp only at hSw); go_simp; try with_reducible rfl)
    simp only [Act.put, Z1, Z2, Z3, Z4, Z5, Z6]
    refine wpAnyH_ready (rs := [13, 16]) (by kernel_rfl) (by simp) ?_
    refine AllReadyH.cons rfl (fun K hK => ?_) ?_
    ·have y0 : v3.cell? ⟨r, l.length * 4, none⟩ = some (.int .i64 0) := row_at hM.own hM4 0 rfl
     have y1 := row_at hM.own hM4 1 rfl
     have y2 := row_at hM.own hM4 2 rfl
     have y3 := row_at hM.own hM4 3 rfl
     have yf := row_fr hM.own
     go_simp
     clear y0 y1 y2 y3 yf
     replace hv : (((((v3.setCell ⟨r, l.length * 4, none⟩ (.int .i64 2)).setCell ⟨r, l.length * 4 + 1, none⟩ (.int .i64 0)).setCell ⟨r, l.length * 4 + 2, none⟩ (.string ⟨#[]⟩)).setCell ⟨r, l.length * 4 + 3, none⟩ (.slice Ai m.length ci))).cell? ⟨pb, 0, none⟩ = some (.slice Ai m.length ci) := (far4s (fun e => hpr e.symm) _ _ _ _ _ _ _ _).trans hv
     replace hM := (((hM.row hrlo (l.length * 4) (.int .i64 2)).row hrlo (l.length * 4 + 1) (.int .i64 0)).row hrlo (l.length * 4 + 2) (.string ⟨#[]⟩)).row hrlo (l.length * 4 + 3) (.slice Ai m.length ci)
     rw [set4 cs l.length hM4] at hM
     replace hpb : Bhd (((((v3.setCell ⟨r, l.length * 4, none⟩ (.int .i64 2)).setCell ⟨r, l.length * 4 + 1, none⟩ (.int .i64 0)).setCell ⟨r, l.length * 4 + 2, none⟩ (.string ⟨#[]⟩)).setCell ⟨r, l.length * 4 + 3, none⟩ (.slice Ai m.length ci))) (.slice (some ⟨r, 0, none⟩) (l.length + 1) c4) g pb := ⟨by simpa [World.setCell] using hpb.1, hpb.2⟩
     replace hplt := hpb.1
     generalize ((((v3.setCell ⟨r, l.length * 4, none⟩ (.int .i64 2)).setCell ⟨r, l.length * 4 + 1, none⟩ (.int .i64 0)).setCell ⟨r, l.length * 4 + 2, none⟩ (.string ⟨#[]⟩)).setCell ⟨r, l.length * 4 + 3, none⟩ (.slice Ai m.length ci)) = v4 at *
     refine hK.out _ _ ?_ (fun hHeld => ?_)
     ·(try dsimp only)
      exact hv
     clear hK K
     try simp only [Act.put, Z1, Z2, Z3, Z4, Z5, Z6]
     refine wpAnyH_ready (rs := [16]) (by kernel_rfl) (by simp) ?_
     refine AllReadyH.cons rfl (fun K hK => ?_) ?_
     ·have y0 := hM.cel.cell 0 _ rfl
      have yf := hM.cel.fr
      go_simp
      clear y0 yf
      replace hv : ((v4.setCell ⟨g, 0, none⟩ (.slice (some ⟨r, 0, none⟩) (l.length + 1) c4))).cell? ⟨pb, 0, none⟩ = some (.slice Ai m.length ci) := (World.cell?_setCell_far v4 ⟨g, 0, none⟩ ⟨pb, 0, none⟩ _ hpg).trans hv
      replace hM := hM.set 0 (.slice (some ⟨r, 0, none⟩) (l.length + 1) c4)
      replace hpb : Bhd ((v4.setCell ⟨g, 0, none⟩ (.slice (some ⟨r, 0, none⟩) (l.length + 1) c4))) (.slice (some ⟨r, 0, none⟩) (l.length + 1) c4) g pb := ⟨by simpa [World.setCell] using hpb.1, hpb.2⟩
      replace hplt := hpb.1
      generalize (v4.setCell ⟨g, 0, none⟩ (.slice (some ⟨r, 0, none⟩) (l.length + 1) c4)) = v5 at *
      refine hK.out _ _ ?_ (fun hHeld => ?_)
      ·(try dsimp only)
       exact hv
      clear hK K
      try simp only [Act.put, Z1, Z2, Z3, Z4, Z5, Z6]
      refine wpAnyH_done (by kernel_rfl) ?_ _
      repeat' ((fail_if_success at_builtin); first | go_skip | go_guarded | go_step)
      go_end0
      have hw := CW.mk hM
      exact ⟨rfl, hw⟩
     exact AllReadyH.nil
    refine AllReadyH.cons rfl (fun K hK => ?_) ?_
    ·have y0 := hM.cel.cell 0 _ rfl
     have yf := hM.cel.fr
     go_simp
     clear y0 yf
     replace hv : ((v3.setCell ⟨g, 0, none⟩ (.slice (some ⟨r, 0, none⟩) (l.length + 1) c4))).cell? ⟨pb, 0, none⟩ = some (.slice Ai m.length ci) := (World.cell?_setCell_far v3 ⟨g, 0, none⟩ ⟨pb, 0, none⟩ _ hpg).trans hv
     replace hM := hM.set 0 (.slice (some ⟨r, 0, none⟩) (l.length + 1) c4)
     replace hpb : Bhd ((v3.setCell ⟨g, 0, none⟩ (.slice (some ⟨r, 0, none⟩) (l.length + 1) c4))) (.slice (some ⟨r, 0, none⟩) (l.length + 1) c4) g pb := ⟨by simpa [World.setCell] using hpb.1, hpb.2⟩
     replace hplt := hpb.1
     generalize (v3.setCell ⟨g, 0, none⟩ (.slice (some ⟨r, 0, none⟩) (l.length + 1) c4)) = v4 at *
     refine hK.out _ _ ?_ (fun hHeld => ?_)
     ·(try dsimp only)
      exact hv
     clear hK K
     try simp only [Act.put, Z1, Z2, Z3, Z4, Z5, Z6]
     refine wpAnyH_ready (rs := [13]) (by kernel_rfl) (by simp) ?_
     refine AllReadyH.cons rfl (fun K hK => ?_) ?_
     ·have y0 : v4.cell? ⟨r, l.length * 4, none⟩ = some (.int .i64 0) := row_at hM.own hM4 0 rfl
      have y1 := row_at hM.own hM4 1 rfl
      have y2 := row_at hM.own hM4 2 rfl
      have y3 := row_at hM.own hM4 3 rfl
      have yf := row_fr hM.own
      go_simp
      clear y0 y1 y2 y3 yf
      replace hv : (((((v4.setCell ⟨r, l.length * 4, none⟩ (.int .i64 2)).setCell ⟨r, l.length * 4 + 1, none⟩ (.int .i64 0)).setCell ⟨r, l.length * 4 + 2, none⟩ (.string ⟨#[]⟩)).setCell ⟨r, l.length * 4 + 3, none⟩ (.slice Ai m.length ci))).cell? ⟨pb, 0, none⟩ = some (.slice Ai m.length ci) := (far4s (fun e => hpr e.symm) _ _ _ _ _ _ _ _).trans hv
      replace hM := (((hM.row hrlo (l.length * 4) (.int .i64 2)).row hrlo (l.length * 4 + 1) (.int .i64 0)).row hrlo (l.length * 4 + 2) (.string ⟨#[]⟩)).row hrlo (l.length * 4 + 3) (.slice Ai m.length ci)
      rw [set4 cs l.length hM4] at hM
      replace hpb : Bhd (((((v4.setCell ⟨r, l.length * 4, none⟩ (.int .i64 2)).setCell ⟨r, l.length * 4 + 1, none⟩ (.int .i64 0)).setCell ⟨r, l.length * 4 + 2, none⟩ (.string ⟨#[]⟩)).setCell ⟨r, l.length * 4 + 3, none⟩ (.slice Ai m.length ci))) (.slice (some ⟨r, 0, none⟩) (l.length + 1) c4) g pb := ⟨by simpa [World.setCell] using hpb.1, hpb.2⟩
      replace hplt := hpb.1
      generalize ((((v4.setCell ⟨r, l.length * 4, none⟩ (.int .i64 2)).setCell ⟨r, l.length * 4 + 1, none⟩ (.int .i64 0)).setCell ⟨r, l.length * 4 + 2, none⟩ (.string ⟨#[]⟩)).setCell ⟨r, l.length * 4 + 3, none⟩ (.slice Ai m.length ci)) = v5 at *
      refine hK.out _ _ ?_ (fun hHeld => ?_)
      ·(try dsimp only)
       exact hv
      clear hK K
      try simp only [Act.put, Z1, Z2, Z3, Z4, Z5, Z6]
      refine wpAnyH_done (by kernel_rfl) ?_ _
      repeat' ((fail_if_success at_builtin); first | go_skip | go_guarded | go_step)
      go_end0
      have hw := CW.mk hM
      exact ⟨rfl, hw⟩
     exact AllReadyH.nil
    exact AllReadyH.nil
   exact AllReadyH.nil
  exact AllReadyH.nil
 exact AllReadyH.nil
end Go.Proofs.YtgdapkglofchjaaGreatDoor
