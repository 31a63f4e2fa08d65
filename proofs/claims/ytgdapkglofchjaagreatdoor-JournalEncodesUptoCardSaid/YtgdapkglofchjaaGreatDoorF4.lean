/- Joined: JnW JnW2 JnW3. -/
import Derived.Deep.DeepCutAuto
import Derived.Test.YtgdapkglofchjaaGreatDoorF3
set_option maxRecDepth 100000
set_option maxHeartbeats 2000000
set_option linter.unusedVariables false
namespace Go.Proofs.YtgdapkglofchjaaGreatDoor
open Go.RowKit
theorem Z1 {α : Type} {xs : List α} {i : Nat} (h : i < xs.toArray.size) : xs.toArray[i] = xs[i]'(by simpa using h) := List.getElem_toArray h
theorem Z2 {α : Type} (a : α) (l : List α) (h : 0 < (a :: l).length) : getElem (a :: l) 0 h = a := List.getElem_cons_zero a l h
theorem Z3 {α : Type} (a : α) (l : List α) (i : Nat) (h : i + 1 < (a :: l).length) : getElem (a :: l) (i + 1) h = getElem l i (Nat.lt_of_succ_lt_succ h) := List.getElem_cons_succ a l i h
theorem Z4 {α : Type} (l : List α) (i : Nat) (a : α) : l.toArray.setIfInBounds i a = (l.set i a).toArray := List.setIfInBounds_toArray ..
theorem Z5 {α : Type} {x a : α} {l : List α} : (x :: l).set 0 a = a :: l := List.set_cons_zero
theorem Z6 {α : Type} {x a : α} {l : List α} {i : Nat} : (x :: l).set (i + 1) a = x :: l.set i a := List.set_cons_succ
section
variable {P : Program} {ops : Array Oper} {Q : Exit → Act → World → Prop} {md : Region.Mode} {S : World → Prop} {oi : Oper} {v : Value} {fuel : Nat} {listed : Array Bool} {a a' : Act} {w : World}
theorem tkV (i : Nat) (hi : ops[i]? = some oi) (hy : YieldsIf P ops S oi v a) (h : wpAnyH P md ops Q S fuel (listed.setIfInBounds i true) a' w) (ha : a.put oi.dst v = a' := by (simp only [Act.put, Z1, Z2, Z3, Z4, Z5, Z6] <;> rfl)) (hs : Region.noSelect ops = true := by kernel_rfl) (hf : Region.free md ops listed i = true := by kernel_rfl)
    (hr : (Region.ready md ops listed).contains i = true := by kernel_rfl) (hQ : ∀ c a w, Q (.panic c) (a.put oi.dst v) w → Q (.panic c) a w := by exact fun _ _ _ h => h) (hS : S w := by assumption) : wpAnyH P md ops Q S (fuel + 1) listed a w :=
  wpAnyH_take hi hs hf hr hQ hy hS (ha ▸ h)
theorem tkQ (i : Nat) (h : wpAnyH P md ops Q S fuel (listed.setIfInBounds i true) a' w) (hi : ops[i]? = some oi := by rfl) (hw : Region.wanted oi (yielded ops a.tmps) = true := by rfl)
    (hy : ∀ w, S w → (execOp a.eval oi).run P w = .ok (.value v) w := by intro w hSw; (try dsimp only at hSw); go_simp; try with_reducible rfl)
    (ha : a.put oi.dst v = a' := by (simp only [Act.put, Z1, Z2, Z3, Z4, Z5, Z6] <;> rfl)) (hs : Region.noSelect ops = true := by kernel_rfl) (hf : Region.free md ops listed i = true := by kernel_rfl)
    (hr : (Region.ready md ops listed).contains i = true := by kernel_rfl) (hQ : ∀ c a w, Q (.panic c) (a.put oi.dst v) w → Q (.panic c) a w := by exact fun _ _ _ h => h) (hS : S w := by assumption) : wpAnyH P md ops Q S (fuel + 1) listed a w :=
  wpAnyH_take hi hs hf hr hQ (.inl ⟨hw, hy⟩) hS (ha ▸ h)
theorem tkM (i : Nat) (h : wpAnyH P md ops Q S fuel (listed.setIfInBounds i true) a' w) (hi : ops[i]? = some oi := by rfl) (hy : YieldsIf P ops S oi undef a := by exact Or.inr ⟨by rfl, rfl⟩)
    (ha : a.put oi.dst undef = a' := by (simp only [Act.put, Z1, Z2, Z3, Z4, Z5, Z6] <;> rfl)) (hs : Region.noSelect ops = true := by kernel_rfl) (hf : Region.free md ops listed i = true := by kernel_rfl)
    (hr : (Region.ready md ops listed).contains i = true := by kernel_rfl) (hQ : ∀ c a w, Q (.panic c) (a.put oi.dst undef) w → Q (.panic c) a w := by exact fun _ _ _ h => h) (hS : S w := by assumption) : wpAnyH P md ops Q S (fuel + 1) listed a w :=
  wpAnyH_take hi hs hf hr hQ hy hS (ha ▸ h)
theorem rdN (rs : List Nat) (h : AllReadyH P md ops Q S fuel listed a w rs) (hr : Region.ready md ops listed = rs := by kernel_rfl) (hn : rs ≠ [] := by simp) : wpAnyH P md ops Q S (fuel + 1) listed a w := wpAnyH_ready hr hn h
theorem rdO (i : Nat) (h : ∀ K' : Act → World → Prop, Shut (∀ a w, S w → (S w → wpAnyH P md ops Q S fuel (listed.setIfInBounds i true) a w) → K' a w) → if Region.wanted oi (yielded ops a.tmps) = true then Oper.wp P oi a w K' Q else K' (a.put oi.dst undef) w)
    (ho : ops[i]? = some oi := by rfl) (hr : Region.ready md ops listed = [i] := by kernel_rfl) : wpAnyH P md ops Q S (fuel + 1) listed a w := wpAnyH_ready hr (by simp) (AllReadyH.cons ho h AllReadyH.nil)
theorem rdC {i : Nat} {rs : List Nat} (h : ∀ K' : Act → World → Prop, Shut (∀ a w, S w → (S w → wpAnyH P md ops Q S fuel (listed.setIfInBounds i true) a w) → K' a w) → if Region.wanted oi (yielded ops a.tmps) = true then Oper.wp P oi a w K' Q else K' (a.put oi.dst undef) w)
    (hs : AllReadyH P md ops Q S fuel listed a w rs) (ho : ops[i]? = some oi := by rfl) : AllReadyH P md ops Q S fuel listed a w (i :: rs) := AllReadyH.cons ho h hs
theorem hkO {G K' : Act → World → Prop} (hK : Shut (∀ a w, S w → (S w → G a w) → K' a w)) (hS : S w) (h : S w → G a' w) (ha : a = a' := by first | (simp only [Act.put, Z1, Z2, Z3, Z4, Z5, Z6] <;> rfl) | rfl) : K' a w := by subst ha; exact hK a w hS h
end
theorem CT {B : Nat} {a w : World} {g j : Nat} {u : Value} (h : Below B a w) (hl : g < B) (e : a.cell? ⟨g, j, none⟩ = some u) : w.cell? ⟨g, j, none⟩ = some u := (h.cell (p := ⟨g, j, none⟩) hl).trans e
end Go.Proofs.YtgdapkglofchjaaGreatDoor
namespace Go.Proofs.YtgdapkglofchjaaGreatDoor
open Go.RowKit
theorem Bhd.below {w w' : World} {v : Value} {g b : Nat} (h : Bhd w v g b) (hb : Below w.heap.size w w') : Bhd w' v g b := ⟨Nat.lt_of_lt_of_le h.1 hb.size, h.2⟩
theorem Bhd.grew {w w' : World} {v v' : Value} {g b : Nat} (h : Bhd w v g b) (hg : Grew w w' v v') : Bhd w' v' g b := ⟨Nat.lt_of_lt_of_le h.1 hg.by_.size, hg.ne h.1 h.2.1, h.2.2⟩
theorem seq_box {w : World} {b : Nat} {cs : List Value} (h : CellsAt w b cs) (hl : cs.length = 4) : Seq w w.heap.size 4 (some ⟨b, 0, none⟩) 1 cs := ⟨hl, fun _ => ⟨b, 0, rfl, h.lt, fun j u hu => by rw [Nat.zero_add]; exact h.cell j u hu⟩⟩
theorem own_blk {W0 w : World} {e : TypeId} {n c : Nat} {A : Option Addr} {xs : List Value} (h : Own W0 w e 4 (.slice A (n + 1) c) (n + 1) xs) : ∃ r, A = some ⟨r, 0, none⟩ ∧ W0.heap.size ≤ r ∧ r < w.heap.size := by
 obtain ⟨r, h1, h2, h3, _⟩ := h.head (by omega)
 exact ⟨r, h1, h2, h3⟩
theorem row_at {W0 w : World} {e : TypeId} {n c r : Nat} {cs : List Value} {z0 z1 z2 z3 : Value} (h : Own W0 w e 4 (.slice (some ⟨r, 0, none⟩) (n + 1) c) (n + 1) (cs ++ [z0, z1, z2, z3])) (hl : cs.length = n * 4) (j : Nat) {u : Value} (hu : [z0, z1, z2, z3][j]? = some u) : w.cell? ⟨r, n * 4 + j, none⟩ = some u := by
 obtain ⟨g, h1, _, _, h4, _⟩ := h.head (by omega)
 injection h1 with h1
 injection h1 with h1
 subst h1
 exact h4 _ u (by rw [← hl, List.getElem?_append_right (by omega), Nat.add_sub_cancel_left]; exact hu)
theorem row_fr {W0 w : World} {e : TypeId} {n c r : Nat} {xs : List Value} (h : Own W0 w e 4 (.slice (some ⟨r, 0, none⟩) (n + 1) c) (n + 1) xs) : ∀ j, w.frozen? ⟨r, j, none⟩ = false := by
 obtain ⟨g, h1, _, _, _, h5⟩ := h.head (by omega)
 injection h1 with h1
 injection h1 with h1
 subst h1
 exact h5
theorem zero_one : ∀ u ∈ [Value.int .i64 0, .int .i64 0, .string ⟨#[]⟩, .slice none 0 0], u.oneCell' = true := fun u hu => by
 simp only [List.mem_cons, List.not_mem_nil, or_false] at hu
 rcases hu with rfl | rfl | rfl | rfl <;> rfl
theorem far4s {w : World} {r b o : Nat} (hne : b ≠ r) (o1 o2 o3 o4 : Nat) (u1 u2 u3 u4 : Value) : ((((w.setCell ⟨r, o1, none⟩ u1).setCell ⟨r, o2, none⟩ u2).setCell ⟨r, o3, none⟩ u3).setCell ⟨r, o4, none⟩ u4).cell? ⟨b, o, none⟩ = w.cell? ⟨b, o, none⟩ := by
 rw [World.cell?_setCell_far _ _ _ _ (fun e => hne e.symm), World.cell?_setCell_far _ _ _ _ (fun e => hne e.symm), World.cell?_setCell_far _ _ _ _ (fun e => hne e.symm), World.cell?_setCell_far _ _ _ _ (fun e => hne e.symm)]
theorem ii0 : IsInt 0 := ⟨by decide, by decide⟩
theorem ii1 : IsInt 1 := ⟨by decide, by decide⟩
theorem ii2 : IsInt 2 := ⟨by decide, by decide⟩
theorem rd_int {x : Int} (hx : IsInt x) {w : World} {S : Nat → Prop} : rF w S (fI x) [.int .i64 0, .int .i64 x, .string ⟨#[]⟩, .slice none 0 0] := ⟨none, 0, [], rfl, ii0, hx, ⟨SeqP.nil_, Nat.le_refl _⟩, rfl⟩
theorem rd_str (s : ByteArray) {w : World} {S : Nat → Prop} : rF w S (fS s) [.int .i64 1, .int .i64 0, .string s, .slice none 0 0] := ⟨none, 0, [], rfl, ii1, ii0, ⟨SeqP.nil_, Nat.le_refl _⟩, rfl⟩
theorem CW.mk {W0 w : World} {g r c : Nat} {l : List FV} {f : FV} {cs fs : List Value} (h : Mid W0 w g ([.slice (some ⟨r, 0, none⟩) (l.length + 1) c, .bool false, .bool false]) (.slice (some ⟨r, 0, none⟩) (l.length + 1) c) (l.length + 1) (cs ++ fs) (l ++ [f]) (cs ++ fs)) : CW W0 w g (l ++ [f]) := ⟨some ⟨r, 0, none⟩, c, cs ++ fs, by rw [List.length_append]; exact h⟩
theorem cell_lt {w : World} {p : Addr} {v : Value} (h : w.cell? p = some v) : p.block < w.heap.size := by
 by_cases hl : p.block < w.heap.size
 ·exact hl
 ·exfalso
  have : w.heap[p.block]? = none := by simp; omega
  unfold World.cell? at h
  rw [this] at h
  cases h
theorem int_w (x : Int) (hx : IsInt x) (W0 w1 w : World) (g pb po : Nat) (l : List FV) (hc : CW W0 w1 g l) (hb : Below w1.heap.size w1 w) (hp : pb < W0.heap.size ∨ w1.heap.size ≤ pb) (hv : w.cell? ⟨pb, po, none⟩ = some (.int .i64 x)) (hl : l.length ≤ 1000000000) :
  Calls Tryz.prog 76 #[.pointer (some ⟨g, 0, none⟩), .pointer (some ⟨pb, po, none⟩)] w fun e w' => e = .returned (.tuple #[]) ∧ CW W0 w' g (l ++ [fI x]) ∧ w'.cell? ⟨pb, po, none⟩ = some (.int .i64 x) := by
 obtain ⟨A, c, cs, hM⟩ := hc
 have hpb : Bhd w (.slice A l.length c) g pb := hp.elim (fun h => (hM.lo h).below hb) (fun h => hM.hi hb h (cell_lt hv))
 replace hM := hM.below hb
 have hM4 : cs.length = l.length * 4 := hM.own.1.1
 have hplt := hpb.1
 have c1 := hM.cel.cell 1 _ rfl
 go_enter Tryz.func76, Tryz.ntmps76
 repeat' ((fail_if_success at_builtin); first | go_skip | go_guarded | go_step)
 go_upto_region 2 with (fail)
 replace hv : w.drew.cell? ⟨pb, po, none⟩ = some (.int .i64 x) := hv
 replace hM := hM.drew.add (rd_int hx)
 replace hpb : Bhd w.drew (.slice A l.length c) g pb := hpb
 replace hplt : pb < w.drew.heap.size := hplt
 refine wp_region_held_drew (S := (fun w' => w'.cell? ⟨pb, po, none⟩ = some (.int .i64 x))) (by kernel_rfl) ?_ (fun hHeld => ?_)
 ·(try dsimp only)
  exact hv
 generalize World.drew w = vd at *
 refine tkQ 0 ?_
 refine tkQ 1 ?_
 refine tkQ 2 ?_
 refine tkQ 4 ?_
 refine tkQ 5 ?_
 refine tkQ 6 ?_
 refine tkQ 7 ?_
 refine rdN [3, 9] ?_
 refine rdC (fun K hK => ?_) ?_
 ·have x3 := hM.cel.cell 0 _ rfl
  go_simp
  clear x3
  refine hkO hK hv fun hHeld => ?_
  clear hK K
  refine tkQ 8 ?_
  refine rdN [9] ?_
  refine rdC (fun K hK => ?_) ?_
  ·go_simp
   have hba := (Below.refl vd.heap.size vd).alloc (Nat.le_refl _) (.cells #[.int .i64 0, .int .i64 0, .string ⟨#[]⟩, .slice none 0 0] 98)
   have hz := CellsAt.new vd #[.int .i64 0, .int .i64 0, .string ⟨#[]⟩, .slice none 0 0] 98
   replace hM := hM.below hba
   replace hpb := hpb.below hba
   replace hv := (hba.cell (p := ⟨pb, _, none⟩) hplt).trans hv
   replace hplt := Nat.lt_of_lt_of_le hplt hba.size
   obtain ⟨zb, hzb⟩ : ∃ zb, zb = vd.heap.size := ⟨_, rfl⟩
   rw [← hzb] at hz ⊢
   clear hzb hba
   generalize World.alloc vd _ = v2 at *
   refine hkO hK hv fun hHeld => ?_
   clear hK K
   refine rdN [10] ?_
   refine rdC (fun K hK => ?_) ?_
   ·have hzs : Seq v2 v2.heap.size 4 (some ⟨zb, 0, none⟩) 1 [.int .i64 0, .int .i64 0, .string ⟨#[]⟩, .slice none 0 0] := seq_box hz rfl
    refine step_appS hM.own fld_und fld_info hzs zero_one (by omega) ?_
    intro u4 v3 hO4 hg4
    obtain ⟨A4, c4, rfl⟩ := hO4.slice_form
    obtain ⟨r, rfl, hrlo, hrlt⟩ := own_blk hO4
    replace hv := (hg4.cell (p := ⟨pb, _, none⟩) hplt hpb.2.1).trans hv
    replace hpb := hpb.grew hg4
    replace hplt := Nat.lt_of_lt_of_le hplt hg4.by_.size
    replace hM := hM.grew hO4 hg4
    have hpr : r ≠ pb := fun e => hpb.2.1 (by rw [← e]; rfl)
    have hpg : g ≠ pb := fun e => hpb.2.2 e.symm
    have fi : (l.length : Int) < (l.length : Int) + 1 := by omega
    clear hO4 hg4 hzs hz
    refine hkO hK hv fun hHeld => ?_
    clear hK K
    refine tkQ 11 ?_
    refine tkQ 13 ?_
    refine tkQ 14 ?_
    refine rdN [12, 15] ?_
    refine rdC (fun K hK => ?_) ?_
    ·have y0 : v3.cell? ⟨r, l.length * 4, none⟩ = some (.int .i64 0) := row_at hM.own hM4 0 rfl
     have y1 := row_at hM.own hM4 1 rfl
     have y2 := row_at hM.own hM4 2 rfl
     have y3 := row_at hM.own hM4 3 rfl
     have yf := row_fr hM.own
     go_simp
     clear y0 y1 y2 y3 yf
     replace hv : (((((v3.setCell ⟨r, l.length * 4, none⟩ (.int .i64 0)).setCell ⟨r, l.length * 4 + 1, none⟩ (.int .i64 x)).setCell ⟨r, l.length * 4 + 2, none⟩ (.string ⟨#[]⟩)).setCell ⟨r, l.length * 4 + 3, none⟩ (.slice none 0 0))).cell? ⟨pb, po, none⟩ = some (.int .i64 x) := (far4s (fun e => hpr e.symm) _ _ _ _ _ _ _ _).trans hv
     replace hM := (((hM.row hrlo (l.length * 4) (.int .i64 0)).row hrlo (l.length * 4 + 1) (.int .i64 x)).row hrlo (l.length * 4 + 2) (.string ⟨#[]⟩)).row hrlo (l.length * 4 + 3) (.slice none 0 0)
     rw [set4 cs l.length hM4] at hM
     replace hpb : Bhd (((((v3.setCell ⟨r, l.length * 4, none⟩ (.int .i64 0)).setCell ⟨r, l.length * 4 + 1, none⟩ (.int .i64 x)).setCell ⟨r, l.length * 4 + 2, none⟩ (.string ⟨#[]⟩)).setCell ⟨r, l.length * 4 + 3, none⟩ (.slice none 0 0))) (.slice (some ⟨r, 0, none⟩) (l.length + 1) c4) g pb := ⟨by simpa [World.setCell] using hpb.1, hpb.2⟩
     replace hplt := hpb.1
     generalize ((((v3.setCell ⟨r, l.length * 4, none⟩ (.int .i64 0)).setCell ⟨r, l.length * 4 + 1, none⟩ (.int .i64 x)).setCell ⟨r, l.length * 4 + 2, none⟩ (.string ⟨#[]⟩)).setCell ⟨r, l.length * 4 + 3, none⟩ (.slice none 0 0)) = v4 at *
     refine hkO hK hv fun hHeld => ?_
     clear hK K
     refine rdN [15] ?_
     refine rdC (fun K hK => ?_) ?_
     ·have y0 := hM.cel.cell 0 _ rfl
      have yf := hM.cel.fr
      go_simp
      clear y0 yf
      replace hv : ((v4.setCell ⟨g, 0, none⟩ (.slice (some ⟨r, 0, none⟩) (l.length + 1) c4))).cell? ⟨pb, po, none⟩ = some (.int .i64 x) := (World.cell?_setCell_far v4 ⟨g, 0, none⟩ ⟨pb, po, none⟩ _ hpg).trans hv
      replace hM := hM.set 0 (.slice (some ⟨r, 0, none⟩) (l.length + 1) c4)
      replace hpb : Bhd ((v4.setCell ⟨g, 0, none⟩ (.slice (some ⟨r, 0, none⟩) (l.length + 1) c4))) (.slice (some ⟨r, 0, none⟩) (l.length + 1) c4) g pb := ⟨by simpa [World.setCell] using hpb.1, hpb.2⟩
      replace hplt := hpb.1
      generalize (v4.setCell ⟨g, 0, none⟩ (.slice (some ⟨r, 0, none⟩) (l.length + 1) c4)) = v5 at *
      refine hkO hK hv fun hHeld => ?_
      clear hK K
      refine wpAnyH_done (by kernel_rfl) ?_ _
      repeat' ((fail_if_success at_builtin); first | go_skip | go_guarded | go_step)
      go_end0
      have hw := CW.mk hM
      exact ⟨rfl, hw, hv⟩
     exact AllReadyH.nil
    refine rdC (fun K hK => ?_) ?_
    ·have y0 := hM.cel.cell 0 _ rfl
     have yf := hM.cel.fr
     go_simp
     clear y0 yf
     replace hv : ((v3.setCell ⟨g, 0, none⟩ (.slice (some ⟨r, 0, none⟩) (l.length + 1) c4))).cell? ⟨pb, po, none⟩ = some (.int .i64 x) := (World.cell?_setCell_far v3 ⟨g, 0, none⟩ ⟨pb, po, none⟩ _ hpg).trans hv
     replace hM := hM.set 0 (.slice (some ⟨r, 0, none⟩) (l.length + 1) c4)
     replace hpb : Bhd ((v3.setCell ⟨g, 0, none⟩ (.slice (some ⟨r, 0, none⟩) (l.length + 1) c4))) (.slice (some ⟨r, 0, none⟩) (l.length + 1) c4) g pb := ⟨by simpa [World.setCell] using hpb.1, hpb.2⟩
     replace hplt := hpb.1
     generalize (v3.setCell ⟨g, 0, none⟩ (.slice (some ⟨r, 0, none⟩) (l.length + 1) c4)) = v4 at *
     refine hkO hK hv fun hHeld => ?_
     clear hK K
     refine rdN [12] ?_
     refine rdC (fun K hK => ?_) ?_
     ·have y0 : v4.cell? ⟨r, l.length * 4, none⟩ = some (.int .i64 0) := row_at hM.own hM4 0 rfl
      have y1 := row_at hM.own hM4 1 rfl
      have y2 := row_at hM.own hM4 2 rfl
      have y3 := row_at hM.own hM4 3 rfl
      have yf := row_fr hM.own
      go_simp
      clear y0 y1 y2 y3 yf
      replace hv : (((((v4.setCell ⟨r, l.length * 4, none⟩ (.int .i64 0)).setCell ⟨r, l.length * 4 + 1, none⟩ (.int .i64 x)).setCell ⟨r, l.length * 4 + 2, none⟩ (.string ⟨#[]⟩)).setCell ⟨r, l.length * 4 + 3, none⟩ (.slice none 0 0))).cell? ⟨pb, po, none⟩ = some (.int .i64 x) := (far4s (fun e => hpr e.symm) _ _ _ _ _ _ _ _).trans hv
      replace hM := (((hM.row hrlo (l.length * 4) (.int .i64 0)).row hrlo (l.length * 4 + 1) (.int .i64 x)).row hrlo (l.length * 4 + 2) (.string ⟨#[]⟩)).row hrlo (l.length * 4 + 3) (.slice none 0 0)
      rw [set4 cs l.length hM4] at hM
      replace hpb : Bhd (((((v4.setCell ⟨r, l.length * 4, none⟩ (.int .i64 0)).setCell ⟨r, l.length * 4 + 1, none⟩ (.int .i64 x)).setCell ⟨r, l.length * 4 + 2, none⟩ (.string ⟨#[]⟩)).setCell ⟨r, l.length * 4 + 3, none⟩ (.slice none 0 0))) (.slice (some ⟨r, 0, none⟩) (l.length + 1) c4) g pb := ⟨by simpa [World.setCell] using hpb.1, hpb.2⟩
      replace hplt := hpb.1
      generalize ((((v4.setCell ⟨r, l.length * 4, none⟩ (.int .i64 0)).setCell ⟨r, l.length * 4 + 1, none⟩ (.int .i64 x)).setCell ⟨r, l.length * 4 + 2, none⟩ (.string ⟨#[]⟩)).setCell ⟨r, l.length * 4 + 3, none⟩ (.slice none 0 0)) = v5 at *
      refine hkO hK hv fun hHeld => ?_
      clear hK K
      refine wpAnyH_done (by kernel_rfl) ?_ _
      repeat' ((fail_if_success at_builtin); first | go_skip | go_guarded | go_step)
      go_end0
      have hw := CW.mk hM
      exact ⟨rfl, hw, hv⟩
     exact AllReadyH.nil
    exact AllReadyH.nil
   exact AllReadyH.nil
  exact AllReadyH.nil
 refine rdC (fun K hK => ?_) ?_
 ·go_simp
  have hba := (Below.refl vd.heap.size vd).alloc (Nat.le_refl _) (.cells #[.int .i64 0, .int .i64 0, .string ⟨#[]⟩, .slice none 0 0] 98)
  have hz := CellsAt.new vd #[.int .i64 0, .int .i64 0, .string ⟨#[]⟩, .slice none 0 0] 98
  replace hM := hM.below hba
  replace hpb := hpb.below hba
  replace hv := (hba.cell (p := ⟨pb, _, none⟩) hplt).trans hv
  replace hplt := Nat.lt_of_lt_of_le hplt hba.size
  obtain ⟨zb, hzb⟩ : ∃ zb, zb = vd.heap.size := ⟨_, rfl⟩
  rw [← hzb] at hz ⊢
  clear hzb hba
  generalize World.alloc vd _ = v1 at *
  refine hkO hK hv fun hHeld => ?_
  clear hK K
  refine rdN [3] ?_
  refine rdC (fun K hK => ?_) ?_
  ·have x3 := hM.cel.cell 0 _ rfl
   go_simp
   clear x3
   refine hkO hK hv fun hHeld => ?_
   clear hK K
   refine tkQ 8 ?_
   refine rdN [10] ?_
   refine rdC (fun K hK => ?_) ?_
   ·have hzs : Seq v1 v1.heap.size 4 (some ⟨zb, 0, none⟩) 1 [.int .i64 0, .int .i64 0, .string ⟨#[]⟩, .slice none 0 0] := seq_box hz rfl
    refine step_appS hM.own fld_und fld_info hzs zero_one (by omega) ?_
    intro u4 v3 hO4 hg4
    obtain ⟨A4, c4, rfl⟩ := hO4.slice_form
    obtain ⟨r, rfl, hrlo, hrlt⟩ := own_blk hO4
    replace hv := (hg4.cell (p := ⟨pb, _, none⟩) hplt hpb.2.1).trans hv
    replace hpb := hpb.grew hg4
    replace hplt := Nat.lt_of_lt_of_le hplt hg4.by_.size
    replace hM := hM.grew hO4 hg4
    have hpr : r ≠ pb := fun e => hpb.2.1 (by rw [← e]; rfl)
    have hpg : g ≠ pb := fun e => hpb.2.2 e.symm
    have fi : (l.length : Int) < (l.length : Int) + 1 := by omega
    clear hO4 hg4 hzs hz
    refine hkO hK hv fun hHeld => ?_
    clear hK K
    refine tkQ 11 ?_
    refine tkQ 13 ?_
    refine tkQ 14 ?_
    refine rdN [12, 15] ?_
    refine rdC (fun K hK => ?_) ?_
    ·have y0 : v3.cell? ⟨r, l.length * 4, none⟩ = some (.int .i64 0) := row_at hM.own hM4 0 rfl
     have y1 := row_at hM.own hM4 1 rfl
     have y2 := row_at hM.own hM4 2 rfl
     have y3 := row_at hM.own hM4 3 rfl
     have yf := row_fr hM.own
     go_simp
     clear y0 y1 y2 y3 yf
     replace hv : (((((v3.setCell ⟨r, l.length * 4, none⟩ (.int .i64 0)).setCell ⟨r, l.length * 4 + 1, none⟩ (.int .i64 x)).setCell ⟨r, l.length * 4 + 2, none⟩ (.string ⟨#[]⟩)).setCell ⟨r, l.length * 4 + 3, none⟩ (.slice none 0 0))).cell? ⟨pb, po, none⟩ = some (.int .i64 x) := (far4s (fun e => hpr e.symm) _ _ _ _ _ _ _ _).trans hv
     replace hM := (((hM.row hrlo (l.length * 4) (.int .i64 0)).row hrlo (l.length * 4 + 1) (.int .i64 x)).row hrlo (l.length * 4 + 2) (.string ⟨#[]⟩)).row hrlo (l.length * 4 + 3) (.slice none 0 0)
     rw [set4 cs l.length hM4] at hM
     replace hpb : Bhd (((((v3.setCell ⟨r, l.length * 4, none⟩ (.int .i64 0)).setCell ⟨r, l.length * 4 + 1, none⟩ (.int .i64 x)).setCell ⟨r, l.length * 4 + 2, none⟩ (.string ⟨#[]⟩)).setCell ⟨r, l.length * 4 + 3, none⟩ (.slice none 0 0))) (.slice (some ⟨r, 0, none⟩) (l.length + 1) c4) g pb := ⟨by simpa [World.setCell] using hpb.1, hpb.2⟩
     replace hplt := hpb.1
     generalize ((((v3.setCell ⟨r, l.length * 4, none⟩ (.int .i64 0)).setCell ⟨r, l.length * 4 + 1, none⟩ (.int .i64 x)).setCell ⟨r, l.length * 4 + 2, none⟩ (.string ⟨#[]⟩)).setCell ⟨r, l.length * 4 + 3, none⟩ (.slice none 0 0)) = v4 at *
     refine hkO hK hv fun hHeld => ?_
     clear hK K
     refine rdN [15] ?_
     refine rdC (fun K hK => ?_) ?_
     ·have y0 := hM.cel.cell 0 _ rfl
      have yf := hM.cel.fr
      go_simp
      clear y0 yf
      replace hv : ((v4.setCell ⟨g, 0, none⟩ (.slice (some ⟨r, 0, none⟩) (l.length + 1) c4))).cell? ⟨pb, po, none⟩ = some (.int .i64 x) := (World.cell?_setCell_far v4 ⟨g, 0, none⟩ ⟨pb, po, none⟩ _ hpg).trans hv
      replace hM := hM.set 0 (.slice (some ⟨r, 0, none⟩) (l.length + 1) c4)
      replace hpb : Bhd ((v4.setCell ⟨g, 0, none⟩ (.slice (some ⟨r, 0, none⟩) (l.length + 1) c4))) (.slice (some ⟨r, 0, none⟩) (l.length + 1) c4) g pb := ⟨by simpa [World.setCell] using hpb.1, hpb.2⟩
      replace hplt := hpb.1
      generalize (v4.setCell ⟨g, 0, none⟩ (.slice (some ⟨r, 0, none⟩) (l.length + 1) c4)) = v5 at *
      refine hkO hK hv fun hHeld => ?_
      clear hK K
      refine wpAnyH_done (by kernel_rfl) ?_ _
      repeat' ((fail_if_success at_builtin); first | go_skip | go_guarded | go_step)
      go_end0
      have hw := CW.mk hM
      exact ⟨rfl, hw, hv⟩
     exact AllReadyH.nil
    refine rdC (fun K hK => ?_) ?_
    ·have y0 := hM.cel.cell 0 _ rfl
     have yf := hM.cel.fr
     go_simp
     clear y0 yf
     replace hv : ((v3.setCell ⟨g, 0, none⟩ (.slice (some ⟨r, 0, none⟩) (l.length + 1) c4))).cell? ⟨pb, po, none⟩ = some (.int .i64 x) := (World.cell?_setCell_far v3 ⟨g, 0, none⟩ ⟨pb, po, none⟩ _ hpg).trans hv
     replace hM := hM.set 0 (.slice (some ⟨r, 0, none⟩) (l.length + 1) c4)
     replace hpb : Bhd ((v3.setCell ⟨g, 0, none⟩ (.slice (some ⟨r, 0, none⟩) (l.length + 1) c4))) (.slice (some ⟨r, 0, none⟩) (l.length + 1) c4) g pb := ⟨by simpa [World.setCell] using hpb.1, hpb.2⟩
     replace hplt := hpb.1
     generalize (v3.setCell ⟨g, 0, none⟩ (.slice (some ⟨r, 0, none⟩) (l.length + 1) c4)) = v4 at *
     refine hkO hK hv fun hHeld => ?_
     clear hK K
     refine rdN [12] ?_
     refine rdC (fun K hK => ?_) ?_
     ·have y0 : v4.cell? ⟨r, l.length * 4, none⟩ = some (.int .i64 0) := row_at hM.own hM4 0 rfl
      have y1 := row_at hM.own hM4 1 rfl
      have y2 := row_at hM.own hM4 2 rfl
      have y3 := row_at hM.own hM4 3 rfl
      have yf := row_fr hM.own
      go_simp
      clear y0 y1 y2 y3 yf
      replace hv : (((((v4.setCell ⟨r, l.length * 4, none⟩ (.int .i64 0)).setCell ⟨r, l.length * 4 + 1, none⟩ (.int .i64 x)).setCell ⟨r, l.length * 4 + 2, none⟩ (.string ⟨#[]⟩)).setCell ⟨r, l.length * 4 + 3, none⟩ (.slice none 0 0))).cell? ⟨pb, po, none⟩ = some (.int .i64 x) := (far4s (fun e => hpr e.symm) _ _ _ _ _ _ _ _).trans hv
      replace hM := (((hM.row hrlo (l.length * 4) (.int .i64 0)).row hrlo (l.length * 4 + 1) (.int .i64 x)).row hrlo (l.length * 4 + 2) (.string ⟨#[]⟩)).row hrlo (l.length * 4 + 3) (.slice none 0 0)
      rw [set4 cs l.length hM4] at hM
      replace hpb : Bhd (((((v4.setCell ⟨r, l.length * 4, none⟩ (.int .i64 0)).setCell ⟨r, l.length * 4 + 1, none⟩ (.int .i64 x)).setCell ⟨r, l.length * 4 + 2, none⟩ (.string ⟨#[]⟩)).setCell ⟨r, l.length * 4 + 3, none⟩ (.slice none 0 0))) (.slice (some ⟨r, 0, none⟩) (l.length + 1) c4) g pb := ⟨by simpa [World.setCell] using hpb.1, hpb.2⟩
      replace hplt := hpb.1
      generalize ((((v4.setCell ⟨r, l.length * 4, none⟩ (.int .i64 0)).setCell ⟨r, l.length * 4 + 1, none⟩ (.int .i64 x)).setCell ⟨r, l.length * 4 + 2, none⟩ (.string ⟨#[]⟩)).setCell ⟨r, l.length * 4 + 3, none⟩ (.slice none 0 0)) = v5 at *
      refine hkO hK hv fun hHeld => ?_
      clear hK K
      refine wpAnyH_done (by kernel_rfl) ?_ _
      repeat' ((fail_if_success at_builtin); first | go_skip | go_guarded | go_step)
      go_end0
      have hw := CW.mk hM
      exact ⟨rfl, hw, hv⟩
     exact AllReadyH.nil
    exact AllReadyH.nil
   exact AllReadyH.nil
  exact AllReadyH.nil
 exact AllReadyH.nil
theorem str_w (s : ByteArray) (W0 w1 w : World) (g pb po : Nat) (l : List FV) (hc : CW W0 w1 g l) (hb : Below w1.heap.size w1 w) (hp : pb < W0.heap.size ∨ w1.heap.size ≤ pb) (hv : w.cell? ⟨pb, po, none⟩ = some (.string s)) (hl : l.length ≤ 1000000000) :
  Calls Tryz.prog 77 #[.pointer (some ⟨g, 0, none⟩), .pointer (some ⟨pb, po, none⟩)] w fun e w' => e = .returned (.tuple #[]) ∧ CW W0 w' g (l ++ [fS s]) ∧ w'.cell? ⟨pb, po, none⟩ = some (.string s) := by
 obtain ⟨A, c, cs, hM⟩ := hc
 have hpb : Bhd w (.slice A l.length c) g pb := hp.elim (fun h => (hM.lo h).below hb) (fun h => hM.hi hb h (cell_lt hv))
 replace hM := hM.below hb
 have hM4 : cs.length = l.length * 4 := hM.own.1.1
 have hplt := hpb.1
 have c1 := hM.cel.cell 1 _ rfl
 go_enter Tryz.func77, Tryz.ntmps77
 repeat' ((fail_if_success at_builtin); first | go_skip | go_guarded | go_step)
 go_upto_region 2 with (fail)
 replace hv : w.drew.cell? ⟨pb, po, none⟩ = some (.string s) := hv
 replace hM := hM.drew.add (rd_str s)
 replace hpb : Bhd w.drew (.slice A l.length c) g pb := hpb
 replace hplt : pb < w.drew.heap.size := hplt
 refine wp_region_held_drew (S := (fun w' => w'.cell? ⟨pb, po, none⟩ = some (.string s))) (by kernel_rfl) ?_ (fun hHeld => ?_)
 ·(try dsimp only)
  exact hv
 generalize World.drew w = vd at *
 refine tkQ 0 ?_
 refine tkQ 1 ?_
 refine tkQ 2 ?_
 refine tkQ 4 ?_
 refine tkQ 5 ?_
 refine tkQ 6 ?_
 refine tkQ 7 ?_
 refine rdN [3, 9] ?_
 refine rdC (fun K hK => ?_) ?_
 ·have x3 := hM.cel.cell 0 _ rfl
  go_simp
  clear x3
  refine hkO hK hv fun hHeld => ?_
  clear hK K
  refine tkQ 8 ?_
  refine rdN [9] ?_
  refine rdC (fun K hK => ?_) ?_
  ·go_simp
   have hba := (Below.refl vd.heap.size vd).alloc (Nat.le_refl _) (.cells #[.int .i64 0, .int .i64 0, .string ⟨#[]⟩, .slice none 0 0] 98)
   have hz := CellsAt.new vd #[.int .i64 0, .int .i64 0, .string ⟨#[]⟩, .slice none 0 0] 98
   replace hM := hM.below hba
   replace hpb := hpb.below hba
   replace hv := (hba.cell (p := ⟨pb, _, none⟩) hplt).trans hv
   replace hplt := Nat.lt_of_lt_of_le hplt hba.size
   obtain ⟨zb, hzb⟩ : ∃ zb, zb = vd.heap.size := ⟨_, rfl⟩
   rw [← hzb] at hz ⊢
   clear hzb hba
   generalize World.alloc vd _ = v2 at *
   refine hkO hK hv fun hHeld => ?_
   clear hK K
   refine rdN [10] ?_
   refine rdC (fun K hK => ?_) ?_
   ·have hzs : Seq v2 v2.heap.size 4 (some ⟨zb, 0, none⟩) 1 [.int .i64 0, .int .i64 0, .string ⟨#[]⟩, .slice none 0 0] := seq_box hz rfl
    refine step_appS hM.own fld_und fld_info hzs zero_one (by omega) ?_
    intro u4 v3 hO4 hg4
    obtain ⟨A4, c4, rfl⟩ := hO4.slice_form
    obtain ⟨r, rfl, hrlo, hrlt⟩ := own_blk hO4
    replace hv := (hg4.cell (p := ⟨pb, _, none⟩) hplt hpb.2.1).trans hv
    replace hpb := hpb.grew hg4
    replace hplt := Nat.lt_of_lt_of_le hplt hg4.by_.size
    replace hM := hM.grew hO4 hg4
    have hpr : r ≠ pb := fun e => hpb.2.1 (by rw [← e]; rfl)
    have hpg : g ≠ pb := fun e => hpb.2.2 e.symm
    have fi : (l.length : Int) < (l.length : Int) + 1 := by omega
    clear hO4 hg4 hzs hz
    refine hkO hK hv fun hHeld => ?_
    clear hK K
    refine tkQ 11 ?_
    refine tkQ 13 ?_
    refine tkQ 14 ?_
    refine rdN [12, 15] ?_
    refine rdC (fun K hK => ?_) ?_
    ·have y0 : v3.cell? ⟨r, l.length * 4, none⟩ = some (.int .i64 0) := row_at hM.own hM4 0 rfl
     have y1 := row_at hM.own hM4 1 rfl
     have y2 := row_at hM.own hM4 2 rfl
     have y3 := row_at hM.own hM4 3 rfl
     have yf := row_fr hM.own
     go_simp
     clear y0 y1 y2 y3 yf
     replace hv : (((((v3.setCell ⟨r, l.length * 4, none⟩ (.int .i64 1)).setCell ⟨r, l.length * 4 + 1, none⟩ (.int .i64 0)).setCell ⟨r, l.length * 4 + 2, none⟩ (.string s)).setCell ⟨r, l.length * 4 + 3, none⟩ (.slice none 0 0))).cell? ⟨pb, po, none⟩ = some (.string s) := (far4s (fun e => hpr e.symm) _ _ _ _ _ _ _ _).trans hv
     replace hM := (((hM.row hrlo (l.length * 4) (.int .i64 1)).row hrlo (l.length * 4 + 1) (.int .i64 0)).row hrlo (l.length * 4 + 2) (.string s)).row hrlo (l.length * 4 + 3) (.slice none 0 0)
     rw [set4 cs l.length hM4] at hM
     replace hpb : Bhd (((((v3.setCell ⟨r, l.length * 4, none⟩ (.int .i64 1)).setCell ⟨r, l.length * 4 + 1, none⟩ (.int .i64 0)).setCell ⟨r, l.length * 4 + 2, none⟩ (.string s)).setCell ⟨r, l.length * 4 + 3, none⟩ (.slice none 0 0))) (.slice (some ⟨r, 0, none⟩) (l.length + 1) c4) g pb := ⟨by simpa [World.setCell] using hpb.1, hpb.2⟩
     replace hplt := hpb.1
     generalize ((((v3.setCell ⟨r, l.length * 4, none⟩ (.int .i64 1)).setCell ⟨r, l.length * 4 + 1, none⟩ (.int .i64 0)).setCell ⟨r, l.length * 4 + 2, none⟩ (.string s)).setCell ⟨r, l.length * 4 + 3, none⟩ (.slice none 0 0)) = v4 at *
     refine hkO hK hv fun hHeld => ?_
     clear hK K
     refine rdN [15] ?_
     refine rdC (fun K hK => ?_) ?_
     ·have y0 := hM.cel.cell 0 _ rfl
      have yf := hM.cel.fr
      go_simp
      clear y0 yf
      replace hv : ((v4.setCell ⟨g, 0, none⟩ (.slice (some ⟨r, 0, none⟩) (l.length + 1) c4))).cell? ⟨pb, po, none⟩ = some (.string s) := (World.cell?_setCell_far v4 ⟨g, 0, none⟩ ⟨pb, po, none⟩ _ hpg).trans hv
      replace hM := hM.set 0 (.slice (some ⟨r, 0, none⟩) (l.length + 1) c4)
      replace hpb : Bhd ((v4.setCell ⟨g, 0, none⟩ (.slice (some ⟨r, 0, none⟩) (l.length + 1) c4))) (.slice (some ⟨r, 0, none⟩) (l.length + 1) c4) g pb := ⟨by simpa [World.setCell] using hpb.1, hpb.2⟩
      replace hplt := hpb.1
      generalize (v4.setCell ⟨g, 0, none⟩ (.slice (some ⟨r, 0, none⟩) (l.length + 1) c4)) = v5 at *
      refine hkO hK hv fun hHeld => ?_
      clear hK K
      refine wpAnyH_done (by kernel_rfl) ?_ _
      repeat' ((fail_if_success at_builtin); first | go_skip | go_guarded | go_step)
      go_end0
      have hw := CW.mk hM
      exact ⟨rfl, hw, hv⟩
     exact AllReadyH.nil
    refine rdC (fun K hK => ?_) ?_
    ·have y0 := hM.cel.cell 0 _ rfl
     have yf := hM.cel.fr
     go_simp
     clear y0 yf
     replace hv : ((v3.setCell ⟨g, 0, none⟩ (.slice (some ⟨r, 0, none⟩) (l.length + 1) c4))).cell? ⟨pb, po, none⟩ = some (.string s) := (World.cell?_setCell_far v3 ⟨g, 0, none⟩ ⟨pb, po, none⟩ _ hpg).trans hv
     replace hM := hM.set 0 (.slice (some ⟨r, 0, none⟩) (l.length + 1) c4)
     replace hpb : Bhd ((v3.setCell ⟨g, 0, none⟩ (.slice (some ⟨r, 0, none⟩) (l.length + 1) c4))) (.slice (some ⟨r, 0, none⟩) (l.length + 1) c4) g pb := ⟨by simpa [World.setCell] using hpb.1, hpb.2⟩
     replace hplt := hpb.1
     generalize (v3.setCell ⟨g, 0, none⟩ (.slice (some ⟨r, 0, none⟩) (l.length + 1) c4)) = v4 at *
     refine hkO hK hv fun hHeld => ?_
     clear hK K
     refine rdN [12] ?_
     refine rdC (fun K hK => ?_) ?_
     ·have y0 : v4.cell? ⟨r, l.length * 4, none⟩ = some (.int .i64 0) := row_at hM.own hM4 0 rfl
      have y1 := row_at hM.own hM4 1 rfl
      have y2 := row_at hM.own hM4 2 rfl
      have y3 := row_at hM.own hM4 3 rfl
      have yf := row_fr hM.own
      go_simp
      clear y0 y1 y2 y3 yf
      replace hv : (((((v4.setCell ⟨r, l.length * 4, none⟩ (.int .i64 1)).setCell ⟨r, l.length * 4 + 1, none⟩ (.int .i64 0)).setCell ⟨r, l.length * 4 + 2, none⟩ (.string s)).setCell ⟨r, l.length * 4 + 3, none⟩ (.slice none 0 0))).cell? ⟨pb, po, none⟩ = some (.string s) := (far4s (fun e => hpr e.symm) _ _ _ _ _ _ _ _).trans hv
      replace hM := (((hM.row hrlo (l.length * 4) (.int .i64 1)).row hrlo (l.length * 4 + 1) (.int .i64 0)).row hrlo (l.length * 4 + 2) (.string s)).row hrlo (l.length * 4 + 3) (.slice none 0 0)
      rw [set4 cs l.length hM4] at hM
      replace hpb : Bhd (((((v4.setCell ⟨r, l.length * 4, none⟩ (.int .i64 1)).setCell ⟨r, l.length * 4 + 1, none⟩ (.int .i64 0)).setCell ⟨r, l.length * 4 + 2, none⟩ (.string s)).setCell ⟨r, l.length * 4 + 3, none⟩ (.slice none 0 0))) (.slice (some ⟨r, 0, none⟩) (l.length + 1) c4) g pb := ⟨by simpa [World.setCell] using hpb.1, hpb.2⟩
      replace hplt := hpb.1
      generalize ((((v4.setCell ⟨r, l.length * 4, none⟩ (.int .i64 1)).setCell ⟨r, l.length * 4 + 1, none⟩ (.int .i64 0)).setCell ⟨r, l.length * 4 + 2, none⟩ (.string s)).setCell ⟨r, l.length * 4 + 3, none⟩ (.slice none 0 0)) = v5 at *
      refine hkO hK hv fun hHeld => ?_
      clear hK K
      refine wpAnyH_done (by kernel_rfl) ?_ _
      repeat' ((fail_if_success at_builtin); first | go_skip | go_guarded | go_step)
      go_end0
      have hw := CW.mk hM
      exact ⟨rfl, hw, hv⟩
     exact AllReadyH.nil
    exact AllReadyH.nil
   exact AllReadyH.nil
  exact AllReadyH.nil
 refine rdC (fun K hK => ?_) ?_
 ·go_simp
  have hba := (Below.refl vd.heap.size vd).alloc (Nat.le_refl _) (.cells #[.int .i64 0, .int .i64 0, .string ⟨#[]⟩, .slice none 0 0] 98)
  have hz := CellsAt.new vd #[.int .i64 0, .int .i64 0, .string ⟨#[]⟩, .slice none 0 0] 98
  replace hM := hM.below hba
  replace hpb := hpb.below hba
  replace hv := (hba.cell (p := ⟨pb, _, none⟩) hplt).trans hv
  replace hplt := Nat.lt_of_lt_of_le hplt hba.size
  obtain ⟨zb, hzb⟩ : ∃ zb, zb = vd.heap.size := ⟨_, rfl⟩
  rw [← hzb] at hz ⊢
  clear hzb hba
  generalize World.alloc vd _ = v1 at *
  refine hkO hK hv fun hHeld => ?_
  clear hK K
  refine rdN [3] ?_
  refine rdC (fun K hK => ?_) ?_
  ·have x3 := hM.cel.cell 0 _ rfl
   go_simp
   clear x3
   refine hkO hK hv fun hHeld => ?_
   clear hK K
   refine tkQ 8 ?_
   refine rdN [10] ?_
   refine rdC (fun K hK => ?_) ?_
   ·have hzs : Seq v1 v1.heap.size 4 (some ⟨zb, 0, none⟩) 1 [.int .i64 0, .int .i64 0, .string ⟨#[]⟩, .slice none 0 0] := seq_box hz rfl
    refine step_appS hM.own fld_und fld_info hzs zero_one (by omega) ?_
    intro u4 v3 hO4 hg4
    obtain ⟨A4, c4, rfl⟩ := hO4.slice_form
    obtain ⟨r, rfl, hrlo, hrlt⟩ := own_blk hO4
    replace hv := (hg4.cell (p := ⟨pb, _, none⟩) hplt hpb.2.1).trans hv
    replace hpb := hpb.grew hg4
    replace hplt := Nat.lt_of_lt_of_le hplt hg4.by_.size
    replace hM := hM.grew hO4 hg4
    have hpr : r ≠ pb := fun e => hpb.2.1 (by rw [← e]; rfl)
    have hpg : g ≠ pb := fun e => hpb.2.2 e.symm
    have fi : (l.length : Int) < (l.length : Int) + 1 := by omega
    clear hO4 hg4 hzs hz
    refine hkO hK hv fun hHeld => ?_
    clear hK K
    refine tkQ 11 ?_
    refine tkQ 13 ?_
    refine tkQ 14 ?_
    refine rdN [12, 15] ?_
    refine rdC (fun K hK => ?_) ?_
    ·have y0 : v3.cell? ⟨r, l.length * 4, none⟩ = some (.int .i64 0) := row_at hM.own hM4 0 rfl
     have y1 := row_at hM.own hM4 1 rfl
     have y2 := row_at hM.own hM4 2 rfl
     have y3 := row_at hM.own hM4 3 rfl
     have yf := row_fr hM.own
     go_simp
     clear y0 y1 y2 y3 yf
     replace hv : (((((v3.setCell ⟨r, l.length * 4, none⟩ (.int .i64 1)).setCell ⟨r, l.length * 4 + 1, none⟩ (.int .i64 0)).setCell ⟨r, l.length * 4 + 2, none⟩ (.string s)).setCell ⟨r, l.length * 4 + 3, none⟩ (.slice none 0 0))).cell? ⟨pb, po, none⟩ = some (.string s) := (far4s (fun e => hpr e.symm) _ _ _ _ _ _ _ _).trans hv
     replace hM := (((hM.row hrlo (l.length * 4) (.int .i64 1)).row hrlo (l.length * 4 + 1) (.int .i64 0)).row hrlo (l.length * 4 + 2) (.string s)).row hrlo (l.length * 4 + 3) (.slice none 0 0)
     rw [set4 cs l.length hM4] at hM
     replace hpb : Bhd (((((v3.setCell ⟨r, l.length * 4, none⟩ (.int .i64 1)).setCell ⟨r, l.length * 4 + 1, none⟩ (.int .i64 0)).setCell ⟨r, l.length * 4 + 2, none⟩ (.string s)).setCell ⟨r, l.length * 4 + 3, none⟩ (.slice none 0 0))) (.slice (some ⟨r, 0, none⟩) (l.length + 1) c4) g pb := ⟨by simpa [World.setCell] using hpb.1, hpb.2⟩
     replace hplt := hpb.1
     generalize ((((v3.setCell ⟨r, l.length * 4, none⟩ (.int .i64 1)).setCell ⟨r, l.length * 4 + 1, none⟩ (.int .i64 0)).setCell ⟨r, l.length * 4 + 2, none⟩ (.string s)).setCell ⟨r, l.length * 4 + 3, none⟩ (.slice none 0 0)) = v4 at *
     refine hkO hK hv fun hHeld => ?_
     clear hK K
     refine rdN [15] ?_
     refine rdC (fun K hK => ?_) ?_
     ·have y0 := hM.cel.cell 0 _ rfl
      have yf := hM.cel.fr
      go_simp
      clear y0 yf
      replace hv : ((v4.setCell ⟨g, 0, none⟩ (.slice (some ⟨r, 0, none⟩) (l.length + 1) c4))).cell? ⟨pb, po, none⟩ = some (.string s) := (World.cell?_setCell_far v4 ⟨g, 0, none⟩ ⟨pb, po, none⟩ _ hpg).trans hv
      replace hM := hM.set 0 (.slice (some ⟨r, 0, none⟩) (l.length + 1) c4)
      replace hpb : Bhd ((v4.setCell ⟨g, 0, none⟩ (.slice (some ⟨r, 0, none⟩) (l.length + 1) c4))) (.slice (some ⟨r, 0, none⟩) (l.length + 1) c4) g pb := ⟨by simpa [World.setCell] using hpb.1, hpb.2⟩
      replace hplt := hpb.1
      generalize (v4.setCell ⟨g, 0, none⟩ (.slice (some ⟨r, 0, none⟩) (l.length + 1) c4)) = v5 at *
      refine hkO hK hv fun hHeld => ?_
      clear hK K
      refine wpAnyH_done (by kernel_rfl) ?_ _
      repeat' ((fail_if_success at_builtin); first | go_skip | go_guarded | go_step)
      go_end0
      have hw := CW.mk hM
      exact ⟨rfl, hw, hv⟩
     exact AllReadyH.nil
    refine rdC (fun K hK => ?_) ?_
    ·have y0 := hM.cel.cell 0 _ rfl
     have yf := hM.cel.fr
     go_simp
     clear y0 yf
     replace hv : ((v3.setCell ⟨g, 0, none⟩ (.slice (some ⟨r, 0, none⟩) (l.length + 1) c4))).cell? ⟨pb, po, none⟩ = some (.string s) := (World.cell?_setCell_far v3 ⟨g, 0, none⟩ ⟨pb, po, none⟩ _ hpg).trans hv
     replace hM := hM.set 0 (.slice (some ⟨r, 0, none⟩) (l.length + 1) c4)
     replace hpb : Bhd ((v3.setCell ⟨g, 0, none⟩ (.slice (some ⟨r, 0, none⟩) (l.length + 1) c4))) (.slice (some ⟨r, 0, none⟩) (l.length + 1) c4) g pb := ⟨by simpa [World.setCell] using hpb.1, hpb.2⟩
     replace hplt := hpb.1
     generalize (v3.setCell ⟨g, 0, none⟩ (.slice (some ⟨r, 0, none⟩) (l.length + 1) c4)) = v4 at *
     refine hkO hK hv fun hHeld => ?_
     clear hK K
     refine rdN [12] ?_
     refine rdC (fun K hK => ?_) ?_
     ·have y0 : v4.cell? ⟨r, l.length * 4, none⟩ = some (.int .i64 0) := row_at hM.own hM4 0 rfl
      have y1 := row_at hM.own hM4 1 rfl
      have y2 := row_at hM.own hM4 2 rfl
      have y3 := row_at hM.own hM4 3 rfl
      have yf := row_fr hM.own
      go_simp
      clear y0 y1 y2 y3 yf
      replace hv : (((((v4.setCell ⟨r, l.length * 4, none⟩ (.int .i64 1)).setCell ⟨r, l.length * 4 + 1, none⟩ (.int .i64 0)).setCell ⟨r, l.length * 4 + 2, none⟩ (.string s)).setCell ⟨r, l.length * 4 + 3, none⟩ (.slice none 0 0))).cell? ⟨pb, po, none⟩ = some (.string s) := (far4s (fun e => hpr e.symm) _ _ _ _ _ _ _ _).trans hv
      replace hM := (((hM.row hrlo (l.length * 4) (.int .i64 1)).row hrlo (l.length * 4 + 1) (.int .i64 0)).row hrlo (l.length * 4 + 2) (.string s)).row hrlo (l.length * 4 + 3) (.slice none 0 0)
      rw [set4 cs l.length hM4] at hM
      replace hpb : Bhd (((((v4.setCell ⟨r, l.length * 4, none⟩ (.int .i64 1)).setCell ⟨r, l.length * 4 + 1, none⟩ (.int .i64 0)).setCell ⟨r, l.length * 4 + 2, none⟩ (.string s)).setCell ⟨r, l.length * 4 + 3, none⟩ (.slice none 0 0))) (.slice (some ⟨r, 0, none⟩) (l.length + 1) c4) g pb := ⟨by simpa [World.setCell] using hpb.1, hpb.2⟩
      replace hplt := hpb.1
      generalize ((((v4.setCell ⟨r, l.length * 4, none⟩ (.int .i64 1)).setCell ⟨r, l.length * 4 + 1, none⟩ (.int .i64 0)).setCell ⟨r, l.length * 4 + 2, none⟩ (.string s)).setCell ⟨r, l.length * 4 + 3, none⟩ (.slice none 0 0)) = v5 at *
      refine hkO hK hv fun hHeld => ?_
      clear hK K
      refine wpAnyH_done (by kernel_rfl) ?_ _
      repeat' ((fail_if_success at_builtin); first | go_skip | go_guarded | go_step)
      go_end0
      have hw := CW.mk hM
      exact ⟨rfl, hw, hv⟩
     exact AllReadyH.nil
    exact AllReadyH.nil
   exact AllReadyH.nil
  exact AllReadyH.nil
 exact AllReadyH.nil
theorem rd_in {W0 w1 w : World} {g gi n : Nat} {gc gc' : List Value} {v : Value} {xs : List Value} {m : List FV} {ds csi : List Value} {Ai : Option Addr} {ci : Nat} {l : List FV} (hM : Mid W0 w1 g gc v n xs l ds) (hI : Mid w1 w gi gc' (.slice Ai m.length ci) m.length csi m csi) : rF w (Bhw W0 w v g) (fL m) [.int .i64 2, .int .i64 0, .string ⟨#[]⟩, .slice Ai m.length ci] := by
 have hb := hI.bel
 have hlo : ∀ b, w1.heap.size ≤ b → b < w.heap.size → Bhw W0 w v g b := fun b h1 h2 => ⟨Nat.le_trans hM.bel.size h1, hM.hi hb h1 h2⟩
 have hcap := hI.own.cap_le
 refine ⟨Ai, ci, csi, by show _ = [Value.int .i64 2, Value.int .i64 0, Value.string ⟨#[]⟩, Value.slice Ai (ofL m).length ci]; rw [ofL_length], ii2, ii0, ⟨⟨?_, ?_⟩, ?_⟩, ?_⟩
 ·show csi.length = (ofL m).length * 4
  rw [ofL_length]; exact hI.own.1.1
 ·show 0 < (ofL m).length → _
  rw [ofL_length]
  intro h0
  obtain ⟨r, h1, h2, h3, h4, _⟩ := hI.own.head h0
  exact ⟨r, 0, h1, hlo r h2 h3, fun j u hu => by rw [Nat.zero_add]; exact h4 j u hu⟩
 ·show (ofL m).length ≤ ci
  rw [ofL_length]; exact hcap
 ·exact rep_of (RList.map (fun x c hc => rF_ok _ _ _ _ x c (fun _ _ => rfl) (fun b hb => hlo b hb.1 hb.2.1) hc) hI.con)
theorem done_w (W0 w1 w : World) (g pb : Nat) (l m : List FV) (hc : CW W0 w1 g l) (hi : CW w1 w pb m) (hl : l.length ≤ 1000000000) :
  Calls Tryz.prog 121 #[.pointer (some ⟨g, 0, none⟩), .pointer (some ⟨pb, 0, none⟩)] w fun e w' => e = .returned (.tuple #[]) ∧ CW W0 w' g (l ++ [fL m]) := by
 have hb := hi.bel
 have hp := hi.ge
 obtain ⟨Ai, ci, csi, hI⟩ := hi
 have hv := hI.cel.cell 0 _ rfl
 obtain ⟨A, c, cs, hM⟩ := hc
 have hpb : Bhd w (.slice A l.length c) g pb := hM.hi hb hp (cell_lt hv)
 have hf := rd_in hM hI
 clear hI
 replace hM := hM.below hb
 have hM4 : cs.length = l.length * 4 := hM.own.1.1
 have hplt := hpb.1
 have c1 := hM.cel.cell 1 _ rfl
 go_enter Tryz.func121, Tryz.ntmps121
 repeat' ((fail_if_success at_builtin); first | go_skip | go_guarded | go_step)
 go_upto_region 2 with (fail)
 replace hv : w.drew.cell? ⟨pb, 0, none⟩ = some (.slice Ai m.length ci) := hv
 replace hM := (hM.add hf).drew
 clear hf
 replace hpb : Bhd w.drew (.slice A l.length c) g pb := hpb
 replace hplt : pb < w.drew.heap.size := hplt
 refine wp_region_held_drew (S := (fun w' => w'.cell? ⟨pb, 0, none⟩ = some (.slice Ai m.length ci))) (by kernel_rfl) ?_ (fun hHeld => ?_)
 ·(try dsimp only)
  exact hv
 generalize World.drew w = vd at *
 refine tkQ 0 ?_
 refine tkQ 1 ?_
 refine tkQ 2 ?_
 refine tkQ 4 ?_
 refine tkQ 5 ?_
 refine tkQ 6 ?_
 refine tkQ 7 ?_
 refine tkQ 8 ?_
 refine rdN [3, 10] ?_
 refine rdC (fun K hK => ?_) ?_
 ·have x3 := hM.cel.cell 0 _ rfl
  go_simp
  clear x3
  refine hkO hK hv fun hHeld => ?_
  clear hK K
  refine tkQ 9 ?_
  refine rdN [10] ?_
  refine rdC (fun K hK => ?_) ?_
  ·go_simp
   have hba := (Below.refl vd.heap.size vd).alloc (Nat.le_refl _) (.cells #[.int .i64 0, .int .i64 0, .string ⟨#[]⟩, .slice none 0 0] 98)
   have hz := CellsAt.new vd #[.int .i64 0, .int .i64 0, .string ⟨#[]⟩, .slice none 0 0] 98
   replace hM := hM.below hba
   replace hpb := hpb.below hba
   replace hv := (hba.cell (p := ⟨pb, _, none⟩) hplt).trans hv
   replace hplt := Nat.lt_of_lt_of_le hplt hba.size
   obtain ⟨zb, hzb⟩ : ∃ zb, zb = vd.heap.size := ⟨_, rfl⟩
   rw [← hzb] at hz ⊢
   clear hzb hba
   generalize World.alloc vd _ = v2 at *
   refine hkO hK hv fun hHeld => ?_
   clear hK K
   refine rdN [11] ?_
   refine rdC (fun K hK => ?_) ?_
   ·have hzs : Seq v2 v2.heap.size 4 (some ⟨zb, 0, none⟩) 1 [.int .i64 0, .int .i64 0, .string ⟨#[]⟩, .slice none 0 0] := seq_box hz rfl
    refine step_appS hM.own fld_und fld_info hzs zero_one (by omega) ?_
    intro u4 v3 hO4 hg4
    obtain ⟨A4, c4, rfl⟩ := hO4.slice_form
    obtain ⟨r, rfl, hrlo, hrlt⟩ := own_blk hO4
    replace hv := (hg4.cell (p := ⟨pb, _, none⟩) hplt hpb.2.1).trans hv
    replace hpb := hpb.grew hg4
    replace hplt := Nat.lt_of_lt_of_le hplt hg4.by_.size
    replace hM := hM.grew hO4 hg4
    have hpr : r ≠ pb := fun e => hpb.2.1 (by rw [← e]; rfl)
    have hpg : g ≠ pb := fun e => hpb.2.2 e.symm
    have fi : (l.length : Int) < (l.length : Int) + 1 := by omega
    clear hO4 hg4 hzs hz
    refine hkO hK hv fun hHeld => ?_
    clear hK K
    refine tkQ 12 ?_
    refine tkQ 14 ?_
    refine tkQ 15 ?_
    refine rdN [13, 16] ?_
    refine rdC (fun K hK => ?_) ?_
    ·have y0 : v3.cell? ⟨r, l.length * 4, none⟩ = some (.int .i64 0) := row_at hM.own hM4 0 rfl
     have y1 := row_at hM.own hM4 1 rfl
     have y2 := row_at hM.own hM4 2 rfl
     have y3 := row_at hM.own hM4 3 rfl
     have yf := row_fr hM.own
     go_simp
     clear y0 y1 y2 y3 yf
     replace hv : (((((v3.setCell ⟨r, l.length * 4, none⟩ (.int .i64 2)).setCell ⟨r, l.length * 4 + 1, none⟩ (.int .i64 0)).setCell ⟨r, l.length * 4 + 2, none⟩ (.string ⟨#[]⟩)).setCell ⟨r, l.length * 4 + 3, none⟩ (.slice Ai m.length ci))).cell? ⟨pb, 0, none⟩ = some (.slice Ai m.length ci) := (far4s (fun e => hpr e.symm) _ _ _ _ _ _ _ _).trans hv
     replace hM := (((hM.row hrlo (l.length * 4) (.int .i64 2)).row hrlo (l.length * 4 + 1) (.int .i64 0)).row hrlo (l.length * 4 + 2) (.string ⟨#[]⟩)).row hrlo (l.length * 4 + 3) (.slice Ai m.length ci)
     rw [set4 cs l.length hM4] at hM
     replace hpb : Bhd (((((v3.setCell ⟨r, l.length * 4, none⟩ (.int .i64 2)).setCell ⟨r, l.length * 4 + 1, none⟩ (.int .i64 0)).setCell ⟨r, l.length * 4 + 2, none⟩ (.string ⟨#[]⟩)).setCell ⟨r, l.length * 4 + 3, none⟩ (.slice Ai m.length ci))) (.slice (some ⟨r, 0, none⟩) (l.length + 1) c4) g pb := ⟨by simpa [World.setCell] using hpb.1, hpb.2⟩
     replace hplt := hpb.1
     generalize ((((v3.setCell ⟨r, l.length * 4, none⟩ (.int .i64 2)).setCell ⟨r, l.length * 4 + 1, none⟩ (.int .i64 0)).setCell ⟨r, l.length * 4 + 2, none⟩ (.string ⟨#[]⟩)).setCell ⟨r, l.length * 4 + 3, none⟩ (.slice Ai m.length ci)) = v4 at *
     refine hkO hK hv fun hHeld => ?_
     clear hK K
     refine rdN [16] ?_
     refine rdC (fun K hK => ?_) ?_
     ·have y0 := hM.cel.cell 0 _ rfl
      have yf := hM.cel.fr
      go_simp
      clear y0 yf
      replace hv : ((v4.setCell ⟨g, 0, none⟩ (.slice (some ⟨r, 0, none⟩) (l.length + 1) c4))).cell? ⟨pb, 0, none⟩ = some (.slice Ai m.length ci) := (World.cell?_setCell_far v4 ⟨g, 0, none⟩ ⟨pb, 0, none⟩ _ hpg).trans hv
      replace hM := hM.set 0 (.slice (some ⟨r, 0, none⟩) (l.length + 1) c4)
      replace hpb : Bhd ((v4.setCell ⟨g, 0, none⟩ (.slice (some ⟨r, 0, none⟩) (l.length + 1) c4))) (.slice (some ⟨r, 0, none⟩) (l.length + 1) c4) g pb := ⟨by simpa [World.setCell] using hpb.1, hpb.2⟩
      replace hplt := hpb.1
      generalize (v4.setCell ⟨g, 0, none⟩ (.slice (some ⟨r, 0, none⟩) (l.length + 1) c4)) = v5 at *
      refine hkO hK hv fun hHeld => ?_
      clear hK K
      refine wpAnyH_done (by kernel_rfl) ?_ _
      repeat' ((fail_if_success at_builtin); first | go_skip | go_guarded | go_step)
      go_end0
      have hw := CW.mk hM
      exact ⟨rfl, hw⟩
     exact AllReadyH.nil
    refine rdC (fun K hK => ?_) ?_
    ·have y0 := hM.cel.cell 0 _ rfl
     have yf := hM.cel.fr
     go_simp
     clear y0 yf
     replace hv : ((v3.setCell ⟨g, 0, none⟩ (.slice (some ⟨r, 0, none⟩) (l.length + 1) c4))).cell? ⟨pb, 0, none⟩ = some (.slice Ai m.length ci) := (World.cell?_setCell_far v3 ⟨g, 0, none⟩ ⟨pb, 0, none⟩ _ hpg).trans hv
     replace hM := hM.set 0 (.slice (some ⟨r, 0, none⟩) (l.length + 1) c4)
     replace hpb : Bhd ((v3.setCell ⟨g, 0, none⟩ (.slice (some ⟨r, 0, none⟩) (l.length + 1) c4))) (.slice (some ⟨r, 0, none⟩) (l.length + 1) c4) g pb := ⟨by simpa [World.setCell] using hpb.1, hpb.2⟩
     replace hplt := hpb.1
     generalize (v3.setCell ⟨g, 0, none⟩ (.slice (some ⟨r, 0, none⟩) (l.length + 1) c4)) = v4 at *
     refine hkO hK hv fun hHeld => ?_
     clear hK K
     refine rdN [13] ?_
     refine rdC (fun K hK => ?_) ?_
     ·have y0 : v4.cell? ⟨r, l.length * 4, none⟩ = some (.int .i64 0) := row_at hM.own hM4 0 rfl
      have y1 := row_at hM.own hM4 1 rfl
      have y2 := row_at hM.own hM4 2 rfl
      have y3 := row_at hM.own hM4 3 rfl
      have yf := row_fr hM.own
      go_simp
      clear y0 y1 y2 y3 yf
      replace hv : (((((v4.setCell ⟨r, l.length * 4, none⟩ (.int .i64 2)).setCell ⟨r, l.length * 4 + 1, none⟩ (.int .i64 0)).setCell ⟨r, l.length * 4 + 2, none⟩ (.string ⟨#[]⟩)).setCell ⟨r, l.length * 4 + 3, none⟩ (.slice Ai m.length ci))).cell? ⟨pb, 0, none⟩ = some (.slice Ai m.length ci) := (far4s (fun e => hpr e.symm) _ _ _ _ _ _ _ _).trans hv
      replace hM := (((hM.row hrlo (l.length * 4) (.int .i64 2)).row hrlo (l.length * 4 + 1) (.int .i64 0)).row hrlo (l.length * 4 + 2) (.string ⟨#[]⟩)).row hrlo (l.length * 4 + 3) (.slice Ai m.length ci)
      rw [set4 cs l.length hM4] at hM
      replace hpb : Bhd (((((v4.setCell ⟨r, l.length * 4, none⟩ (.int .i64 2)).setCell ⟨r, l.length * 4 + 1, none⟩ (.int .i64 0)).setCell ⟨r, l.length * 4 + 2, none⟩ (.string ⟨#[]⟩)).setCell ⟨r, l.length * 4 + 3, none⟩ (.slice Ai m.length ci))) (.slice (some ⟨r, 0, none⟩) (l.length + 1) c4) g pb := ⟨by simpa [World.setCell] using hpb.1, hpb.2⟩
      replace hplt := hpb.1
      generalize ((((v4.setCell ⟨r, l.length * 4, none⟩ (.int .i64 2)).setCell ⟨r, l.length * 4 + 1, none⟩ (.int .i64 0)).setCell ⟨r, l.length * 4 + 2, none⟩ (.string ⟨#[]⟩)).setCell ⟨r, l.length * 4 + 3, none⟩ (.slice Ai m.length ci)) = v5 at *
      refine hkO hK hv fun hHeld => ?_
      clear hK K
      refine wpAnyH_done (by kernel_rfl) ?_ _
      repeat' ((fail_if_success at_builtin); first | go_skip | go_guarded | go_step)
      go_end0
      have hw := CW.mk hM
      exact ⟨rfl, hw⟩
     exact AllReadyH.nil
    exact AllReadyH.nil
   exact AllReadyH.nil
  exact AllReadyH.nil
 refine rdC (fun K hK => ?_) ?_
 ·go_simp
  have hba := (Below.refl vd.heap.size vd).alloc (Nat.le_refl _) (.cells #[.int .i64 0, .int .i64 0, .string ⟨#[]⟩, .slice none 0 0] 98)
  have hz := CellsAt.new vd #[.int .i64 0, .int .i64 0, .string ⟨#[]⟩, .slice none 0 0] 98
  replace hM := hM.below hba
  replace hpb := hpb.below hba
  replace hv := (hba.cell (p := ⟨pb, _, none⟩) hplt).trans hv
  replace hplt := Nat.lt_of_lt_of_le hplt hba.size
  obtain ⟨zb, hzb⟩ : ∃ zb, zb = vd.heap.size := ⟨_, rfl⟩
  rw [← hzb] at hz ⊢
  clear hzb hba
  generalize World.alloc vd _ = v1 at *
  refine hkO hK hv fun hHeld => ?_
  clear hK K
  refine rdN [3] ?_
  refine rdC (fun K hK => ?_) ?_
  ·have x3 := hM.cel.cell 0 _ rfl
   go_simp
   clear x3
   refine hkO hK hv fun hHeld => ?_
   clear hK K
   refine tkQ 9 ?_
   refine rdN [11] ?_
   refine rdC (fun K hK => ?_) ?_
   ·have hzs : Seq v1 v1.heap.size 4 (some ⟨zb, 0, none⟩) 1 [.int .i64 0, .int .i64 0, .string ⟨#[]⟩, .slice none 0 0] := seq_box hz rfl
    refine step_appS hM.own fld_und fld_info hzs zero_one (by omega) ?_
    intro u4 v3 hO4 hg4
    obtain ⟨A4, c4, rfl⟩ := hO4.slice_form
    obtain ⟨r, rfl, hrlo, hrlt⟩ := own_blk hO4
    replace hv := (hg4.cell (p := ⟨pb, _, none⟩) hplt hpb.2.1).trans hv
    replace hpb := hpb.grew hg4
    replace hplt := Nat.lt_of_lt_of_le hplt hg4.by_.size
    replace hM := hM.grew hO4 hg4
    have hpr : r ≠ pb := fun e => hpb.2.1 (by rw [← e]; rfl)
    have hpg : g ≠ pb := fun e => hpb.2.2 e.symm
    have fi : (l.length : Int) < (l.length : Int) + 1 := by omega
    clear hO4 hg4 hzs hz
    refine hkO hK hv fun hHeld => ?_
    clear hK K
    refine tkQ 12 ?_
    refine tkQ 14 ?_
    refine tkQ 15 ?_
    refine rdN [13, 16] ?_
    refine rdC (fun K hK => ?_) ?_
    ·have y0 : v3.cell? ⟨r, l.length * 4, none⟩ = some (.int .i64 0) := row_at hM.own hM4 0 rfl
     have y1 := row_at hM.own hM4 1 rfl
     have y2 := row_at hM.own hM4 2 rfl
     have y3 := row_at hM.own hM4 3 rfl
     have yf := row_fr hM.own
     go_simp
     clear y0 y1 y2 y3 yf
     replace hv : (((((v3.setCell ⟨r, l.length * 4, none⟩ (.int .i64 2)).setCell ⟨r, l.length * 4 + 1, none⟩ (.int .i64 0)).setCell ⟨r, l.length * 4 + 2, none⟩ (.string ⟨#[]⟩)).setCell ⟨r, l.length * 4 + 3, none⟩ (.slice Ai m.length ci))).cell? ⟨pb, 0, none⟩ = some (.slice Ai m.length ci) := (far4s (fun e => hpr e.symm) _ _ _ _ _ _ _ _).trans hv
     replace hM := (((hM.row hrlo (l.length * 4) (.int .i64 2)).row hrlo (l.length * 4 + 1) (.int .i64 0)).row hrlo (l.length * 4 + 2) (.string ⟨#[]⟩)).row hrlo (l.length * 4 + 3) (.slice Ai m.length ci)
     rw [set4 cs l.length hM4] at hM
     replace hpb : Bhd (((((v3.setCell ⟨r, l.length * 4, none⟩ (.int .i64 2)).setCell ⟨r, l.length * 4 + 1, none⟩ (.int .i64 0)).setCell ⟨r, l.length * 4 + 2, none⟩ (.string ⟨#[]⟩)).setCell ⟨r, l.length * 4 + 3, none⟩ (.slice Ai m.length ci))) (.slice (some ⟨r, 0, none⟩) (l.length + 1) c4) g pb := ⟨by simpa [World.setCell] using hpb.1, hpb.2⟩
     replace hplt := hpb.1
     generalize ((((v3.setCell ⟨r, l.length * 4, none⟩ (.int .i64 2)).setCell ⟨r, l.length * 4 + 1, none⟩ (.int .i64 0)).setCell ⟨r, l.length * 4 + 2, none⟩ (.string ⟨#[]⟩)).setCell ⟨r, l.length * 4 + 3, none⟩ (.slice Ai m.length ci)) = v4 at *
     refine hkO hK hv fun hHeld => ?_
     clear hK K
     refine rdN [16] ?_
     refine rdC (fun K hK => ?_) ?_
     ·have y0 := hM.cel.cell 0 _ rfl
      have yf := hM.cel.fr
      go_simp
      clear y0 yf
      replace hv : ((v4.setCell ⟨g, 0, none⟩ (.slice (some ⟨r, 0, none⟩) (l.length + 1) c4))).cell? ⟨pb, 0, none⟩ = some (.slice Ai m.length ci) := (World.cell?_setCell_far v4 ⟨g, 0, none⟩ ⟨pb, 0, none⟩ _ hpg).trans hv
      replace hM := hM.set 0 (.slice (some ⟨r, 0, none⟩) (l.length + 1) c4)
      replace hpb : Bhd ((v4.setCell ⟨g, 0, none⟩ (.slice (some ⟨r, 0, none⟩) (l.length + 1) c4))) (.slice (some ⟨r, 0, none⟩) (l.length + 1) c4) g pb := ⟨by simpa [World.setCell] using hpb.1, hpb.2⟩
      replace hplt := hpb.1
      generalize (v4.setCell ⟨g, 0, none⟩ (.slice (some ⟨r, 0, none⟩) (l.length + 1) c4)) = v5 at *
      refine hkO hK hv fun hHeld => ?_
      clear hK K
      refine wpAnyH_done (by kernel_rfl) ?_ _
      repeat' ((fail_if_success at_builtin); first | go_skip | go_guarded | go_step)
      go_end0
      have hw := CW.mk hM
      exact ⟨rfl, hw⟩
     exact AllReadyH.nil
    refine rdC (fun K hK => ?_) ?_
    ·have y0 := hM.cel.cell 0 _ rfl
     have yf := hM.cel.fr
     go_simp
     clear y0 yf
     replace hv : ((v3.setCell ⟨g, 0, none⟩ (.slice (some ⟨r, 0, none⟩) (l.length + 1) c4))).cell? ⟨pb, 0, none⟩ = some (.slice Ai m.length ci) := (World.cell?_setCell_far v3 ⟨g, 0, none⟩ ⟨pb, 0, none⟩ _ hpg).trans hv
     replace hM := hM.set 0 (.slice (some ⟨r, 0, none⟩) (l.length + 1) c4)
     replace hpb : Bhd ((v3.setCell ⟨g, 0, none⟩ (.slice (some ⟨r, 0, none⟩) (l.length + 1) c4))) (.slice (some ⟨r, 0, none⟩) (l.length + 1) c4) g pb := ⟨by simpa [World.setCell] using hpb.1, hpb.2⟩
     replace hplt := hpb.1
     generalize (v3.setCell ⟨g, 0, none⟩ (.slice (some ⟨r, 0, none⟩) (l.length + 1) c4)) = v4 at *
     refine hkO hK hv fun hHeld => ?_
     clear hK K
     refine rdN [13] ?_
     refine rdC (fun K hK => ?_) ?_
     ·have y0 : v4.cell? ⟨r, l.length * 4, none⟩ = some (.int .i64 0) := row_at hM.own hM4 0 rfl
      have y1 := row_at hM.own hM4 1 rfl
      have y2 := row_at hM.own hM4 2 rfl
      have y3 := row_at hM.own hM4 3 rfl
      have yf := row_fr hM.own
      go_simp
      clear y0 y1 y2 y3 yf
      replace hv : (((((v4.setCell ⟨r, l.length * 4, none⟩ (.int .i64 2)).setCell ⟨r, l.length * 4 + 1, none⟩ (.int .i64 0)).setCell ⟨r, l.length * 4 + 2, none⟩ (.string ⟨#[]⟩)).setCell ⟨r, l.length * 4 + 3, none⟩ (.slice Ai m.length ci))).cell? ⟨pb, 0, none⟩ = some (.slice Ai m.length ci) := (far4s (fun e => hpr e.symm) _ _ _ _ _ _ _ _).trans hv
      replace hM := (((hM.row hrlo (l.length * 4) (.int .i64 2)).row hrlo (l.length * 4 + 1) (.int .i64 0)).row hrlo (l.length * 4 + 2) (.string ⟨#[]⟩)).row hrlo (l.length * 4 + 3) (.slice Ai m.length ci)
      rw [set4 cs l.length hM4] at hM
      replace hpb : Bhd (((((v4.setCell ⟨r, l.length * 4, none⟩ (.int .i64 2)).setCell ⟨r, l.length * 4 + 1, none⟩ (.int .i64 0)).setCell ⟨r, l.length * 4 + 2, none⟩ (.string ⟨#[]⟩)).setCell ⟨r, l.length * 4 + 3, none⟩ (.slice Ai m.length ci))) (.slice (some ⟨r, 0, none⟩) (l.length + 1) c4) g pb := ⟨by simpa [World.setCell] using hpb.1, hpb.2⟩
      replace hplt := hpb.1
      generalize ((((v4.setCell ⟨r, l.length * 4, none⟩ (.int .i64 2)).setCell ⟨r, l.length * 4 + 1, none⟩ (.int .i64 0)).setCell ⟨r, l.length * 4 + 2, none⟩ (.string ⟨#[]⟩)).setCell ⟨r, l.length * 4 + 3, none⟩ (.slice Ai m.length ci)) = v5 at *
      refine hkO hK hv fun hHeld => ?_
      clear hK K
      refine wpAnyH_done (by kernel_rfl) ?_ _
      repeat' ((fail_if_success at_builtin); first | go_skip | go_guarded | go_step)
      go_end0
      have hw := CW.mk hM
      exact ⟨rfl, hw⟩
     exact AllReadyH.nil
    exact AllReadyH.nil
   exact AllReadyH.nil
  exact AllReadyH.nil
 exact AllReadyH.nil
theorem CW.new (w : World) : CW w (w.alloc (.cells #[.slice none 0 0, .bool false, .bool false] 88)) w.heap.size [] :=
 ⟨none, 0, [], (Own.nil_ w fldT 4).alloc _, CellsAt.new w _ _, Nat.le_refl _, by simp [Value.ownBlock], rfl⟩
theorem inner_w (W0 w : World) (g : Nat) (l : List FV) (hc : CW W0 w g l) : Calls Tryz.prog 119 #[.pointer (some ⟨g, 0, none⟩)] w fun e w' => ∃ gi, e = .returned (.pointer (some ⟨gi, 0, none⟩)) ∧ CW w w' gi [] := by
 have c1 := hc.c1
 have hlt := hc.lt
 clear hc
 go_enter Tryz.func119, Tryz.ntmps119
 go_upto_region 2 with (fail)
 generalize hx_ : World.alloc w _ = w1
 have hM : CW w w1 w.heap.size [] := by rw [← hx_]; exact CW.new w
 replace c1 : w1.cell? ⟨g, 1, none⟩ = some (.bool false) := (hM.bel.cell (p := ⟨g, 1, none⟩) hlt).trans c1
 clear hx_
 repeat' (first | go_skip | go_guarded | go_step)
 go_ret
 exact ⟨_, rfl, hM⟩
def At (w : World) (b o : Nat) (cs : List Value) : Prop := ∀ (j : Nat) (u : Value), cs[j]? = some u → w.cell? ⟨b, o + j, none⟩ = some u
theorem At.left {w : World} {b o : Nat} {c1 c2 : List Value} (h : At w b o (c1 ++ c2)) : At w b o c1 := fun j u hu => h j u (by rw [List.getElem?_append_left (List.getElem?_eq_some_iff.1 hu).1]; exact hu)
theorem At.right {w : World} {b o : Nat} {c1 c2 : List Value} (h : At w b o (c1 ++ c2)) {k : Nat} (hk : o + c1.length = k) : At w b k c2 := fun j u hu => by
 subst hk
 have := h (c1.length + j) u (by rw [List.getElem?_append_right (by omega), Nat.add_sub_cancel_left]; exact hu)
 rwa [← Nat.add_assoc] at this
theorem At.below {w w' : World} {b o B : Nat} {cs : List Value} (h : At w b o cs) (hb : Below B w w') (hlt : b < B) : At w' b o cs := fun j u hu => (hb.cell (p := ⟨b, o + j, none⟩) hlt).trans (h j u hu)
def WriteC (F : FuncId) (C : Cod) : Prop := ∀ (W0 w : World) (g pb po : Nat) (l : List FV) (f : FV) (cs : List Value), CW W0 w g l → pb < W0.heap.size → At w pb po cs → C.rp w (fun b => b < W0.heap.size) f cs → fsz f ≤ 1000000000 → l.length ≤ 1000000000 →
 Calls Tryz.prog F #[.pointer (some ⟨g, 0, none⟩), .pointer (some ⟨pb, po, none⟩)] w fun e w' => e = .returned (.tuple #[]) ∧ CW W0 w' g (l ++ [f])
theorem WriteC.at_ {F : FuncId} {C : Cod} (h : WriteC F C) (hC : C.Ok) {W0 w0 w w' : World} {g pb po : Nat} {l : List FV} {f : FV} {cs : List Value} (hc : CW w w' g l) (h0 : Below W0.heap.size W0 w0) (hw : Below w0.heap.size w0 w) (hp : pb < W0.heap.size) (ha : At w0 pb po cs) (hr : C.rp w0 (fun b => b < W0.heap.size) f cs) (hs : fsz f ≤ 1000000000) (hl : l.length ≤ 1000000000) :
  Calls Tryz.prog F #[.pointer (some ⟨g, 0, none⟩), .pointer (some ⟨pb, po, none⟩)] w' fun e w2 => e = .returned (.tuple #[]) ∧ CW w w2 g (l ++ [f]) := by
 have hb : Below w0.heap.size w0 w' := hw.trans (hc.bel.mono hw.size)
 have hp0 := Nat.lt_of_lt_of_le hp h0.size
 exact h w w' g pb po l f cs hc (Nat.lt_of_lt_of_le hp0 hw.size) (ha.below hb hp0) (hC.map _ _ _ _ _ _ (fun p hp => hb.cell (Nat.lt_of_lt_of_le hp h0.size)) (fun b hb => Nat.lt_of_lt_of_le hb (Nat.le_trans h0.size hw.size)) hr) hs hl
theorem int_wc : WriteC 76 Cod.int := by
 intro W0 w g pb po l f cs hc hp ha hr hs hl
 obtain ⟨x, hx, rfl, rfl⟩ := hr
 exact (int_w x hx W0 w w g pb po l hc (Below.refl _ _) (.inl hp) (ha 0 _ rfl) hl).mono fun e w' h => ⟨h.1, h.2.1⟩
theorem str_wc : WriteC 77 Cod.str := by
 intro W0 w g pb po l f cs hc hp ha hr hs hl
 obtain ⟨s, rfl, rfl⟩ := hr
 exact (str_w s W0 w w g pb po l hc (Below.refl _ _) (.inl hp) (ha 0 _ rfl) hl).mono fun e w' h => ⟨h.1, h.2.1⟩
theorem wrap_int (x : Int) : IsInt (wrap64 x) := by
 unfold wrap64 IsInt
 omega
theorem dig_wc : WriteC 129 Cod.dig := by
 intro W0 w g pb po l f cs hc hp ha hr hs hl
 obtain ⟨n, hn, rfl, rfl⟩ := hr
 have c0 := ha 0 _ rfl
 rw [Nat.add_zero] at c0
 clear ha
 go_enter Tryz.func129, Tryz.ntmps129
 repeat' ((fail_if_success at_builtin); first | go_skip | go_guarded | go_step)
 generalize hx_ : World.alloc w _ = w1
 have hbn : Below w.heap.size w w1 := by rw [← hx_]; exact (Below.refl _ _).alloc (Nat.le_refl _) _
 have hv : w1.cell? ⟨w.heap.size, 0, none⟩ = some (.int .i64 (wrap64 (n : Int))) := by rw [← hx_]; exact (CellsAt.new w #[.int .i64 (wrap64 (n : Int))] _).cell 0 _ rfl
 clear hx_
 refine (int_w _ (wrap_int _) W0 w w1 g w.heap.size 0 l hc hbn (.inr (Nat.le_refl _)) hv hl).mono ?_
 rintro e w2 ⟨rfl, hc2, hv2⟩
 dsimp only
 have c1 := hc2.c1
 repeat' ((fail_if_success at_builtin); first | go_skip | go_guarded | go_step)
 go_end0
 exact ⟨rfl, hc2⟩
theorem flag_wc : WriteC 120 Cod.flag := by
 intro W0 w g pb po l f cs hc hp ha hr hs hl
 obtain ⟨b, rfl, rfl⟩ := hr
 have c0 := ha 0 _ rfl
 rw [Nat.add_zero] at c0
 clear ha
 have hpw := Nat.lt_of_lt_of_le hp hc.bel.size
 cases b with
 | true =>
  go_enter Tryz.func120, Tryz.ntmps120
  go_upto_region 1 with (fail)
  generalize hx_ : World.alloc w _ = w1
  have hO := own_new hx_
  clear hx_
  replace c0 := (hO.below.cell (p := ⟨pb, po, none⟩) hpw).trans c0
  have c1_ := hO.c 0 0
  have cf_ := hO.fr 0
  go_upto_region 3 with (fail)
  generalize hx_ : World.setCell w1 _ _ = w2
  replace hO : OwnB w w2 [(w.heap.size, [.int .i64 1])] := by rw [← hx_]; exact hO.store 0 rfl 0 _
  clear hx_ c1_ cf_ c0
  have hbn := hO.below
  have hv := hO.c 0 0
  clear hO
  repeat' (first | go_skip | go_guarded | go_step)
  refine (int_w 1 ii1 W0 w w2 g w.heap.size 0 l hc hbn (.inr (Nat.le_refl _)) hv hl).mono ?_
  rintro e w3 ⟨rfl, hc2, hv2⟩
  dsimp only
  have c1 := hc2.c1
  clear hv hbn
  repeat' ((fail_if_success at_builtin); first | go_skip | go_guarded | go_step)
  go_end0
  exact ⟨rfl, hc2⟩
 | false =>
  go_enter Tryz.func120, Tryz.ntmps120
  go_upto_region 1 with (fail)
  generalize hx_ : World.alloc w _ = w1
  have hO := own_new hx_
  clear hx_
  replace c0 := (hO.below.cell (p := ⟨pb, po, none⟩) hpw).trans c0
  go_upto_region 3 with (fail)
  generalize hx_ : w1 = w2 at *
  clear hx_ c0
  have hbn := hO.below
  have hv := hO.c 0 0
  clear hO
  repeat' (first | go_skip | go_guarded | go_step)
  refine (int_w 0 ii0 W0 w w2 g w.heap.size 0 l hc hbn (.inr (Nat.le_refl _)) hv hl).mono ?_
  rintro e w3 ⟨rfl, hc2, hv2⟩
  dsimp only
  have c1 := hc2.c1
  clear hv hbn
  repeat' ((fail_if_success at_builtin); first | go_skip | go_guarded | go_step)
  go_end0
  exact ⟨rfl, hc2⟩
end Go.Proofs.YtgdapkglofchjaaGreatDoor
