/- Secret: copies. -/
import Derived.Test.YtgloblokkejgmaaDoorSeM
import Derived.Test.YtgloblokkejgmaaDoorRow2
import Derived.Test.YtgloblokkejgmaaDoorIdL
import Derived.Lib.SliceRun
import Derived.Deep.DeepCutAuto
namespace Go.Proofs.YtgloblokkejgmaaDoor
open Go.RowKit
theorem cells_oneS (l : List ByteArray) : ∀ u ∈ cellsS l, u.oneCell' = true := by
  intro u hu
  obtain ⟨s, _, rfl⟩ := List.mem_map.1 hu
  rfl
theorem Own.nilcap {W0 w : World} {e : TypeId} {size n c : Nat} {A : Option Addr} {xs : List Value} (H : Own W0 w e size (.slice A n c) n xs) (h : A = none) : c = 0 := by
  rcases H.1.2 with ⟨hv, _⟩ | ⟨g, cap, cur, hv, _⟩
  · injection hv
  · injection hv with hA
    rw [h] at hA; cases hA
theorem seq_lohi {w : World} {B n sz c : Nat} {e : TypeId} {A : Option Addr} {xs : List Value} (h : w.ownsRow B e sz (.slice A n c) n xs) : SeqP w (fun b => B ≤ b ∧ b < w.heap.size) sz A n xs := by
  refine ⟨h.1, fun hn => ?_⟩
  rcases h.2 with ⟨hv, h0⟩ | ⟨g, cap, cur, hv, hb, hg, hnc, _, hcs, ht⟩
  · omega
  · injection hv with hA
    subst hA
    refine ⟨g, 0, rfl, ⟨hb, (Array.getElem?_eq_some_iff.1 hg).1⟩, fun j u hu => ?_⟩
    have := h.cells (g := g) rfl j u hu
    rw [Addr.add_lit] at this
    exact this
theorem StrsR.own {w w' : World} {A : Option Addr} {c : Nat} {l : List ByteArray} (H : Own w w' 9 1 (.slice A l.length c) l.length (cellsS l)) : StrsR w' (fun b => w.heap.size ≤ b ∧ b < w'.heap.size) A c l := ⟨seq_lohi H.1, H.cap_le, H.nilcap⟩
theorem StrsR.nil_ {w : World} {S : Nat → Prop} : StrsR w S none 0 [] := ⟨SeqP.nil_, Nat.le_refl _, fun _ => rfl⟩
theorem str_infoS : Info Tryd.prog 9 (.string ⟨#[]⟩) 1 16 := by unfold Info; kernel_rfl
theorem sec_info : Info Tryd.prog 24 (.agg #[.string ⟨#[]⟩, .string ⟨#[]⟩, .int .i64 0, .slice none 0 0, .slice none 0 0]) 5 88 := by unfold Info; kernel_rfl
set_option maxRecDepth 100000 in
set_option maxHeartbeats 2000000 in
theorem cloneS_any (l : List ByteArray) (A : Option Addr) (c : Nat) (w : World) (hs : StrsR w (fun b => b < w.heap.size) A c l) (hl : l.length ≤ 1000000000) :
    Calls Tryd.prog 58 #[.slice A l.length c] w fun e w' => ∃ A' c', e = .returned (.slice A' l.length c') ∧ Own w w' 9 1 (.slice A' l.length c') l.length (cellsS l) := by
  have hby : (0 + l.length) * 16 ≤ 140737488355328 := by omega
  have q22 : ∀ (w : World) (a : Option Addr) (n c n' c' : Nat), (binOp .eql 22 (.slice a n c) (.slice none n' c')).run Tryd.prog w = .ok (.bool a.isNone) w := fun w a n c n' c' => Lib.run_eql_slice_nil w _ _ a n c n' c' Tryd.underlying22
  have hs := hs.seq
  cases A with
  | none =>
    have h0 : l = [] := by
      cases l with
      | nil => rfl
      | cons a l => obtain ⟨b, o, h, _⟩ := hs.2 (by simp); cases h
    subst h0
    clear hs
    go_enter Tryd.func58, Tryd.ntmps58
    repeat' ((fail_if_success at_builtin); (first | go_skip | go_guarded | go_step))
    go_ret
    exact ⟨none, 0, rfl, Own.nil_ _ _ _⟩
  | some a =>
    have hb0 := (Below.refl w.heap.size w).alloc (Nat.le_refl _) (.cells #[] 9)
    have hs2 := Lib.hid (Seq.below hs hb0)
    have h0 := Own.empty_lit w 9 1
    clear hs
    go_enter Tryd.func58, Tryd.ntmps58
    repeat' ((fail_if_success at_builtin); (first | go_skip | go_guarded | go_step))
    refine wp_appS h0 Tryd.underlying22 str_infoS hs2.out (cells_oneS l) hby ?_
    intro v w2 ho hg
    rw [Nat.zero_add, List.nil_append] at ho
    obtain ⟨A', c', rfl⟩ := ho.slice_form
    replace ho := Lib.hid ho
    repeat' ((fail_if_success at_builtin); (first | go_skip | go_guarded | go_step))
    go_ret
    exact ⟨A', c', rfl, ho.out⟩
theorem StrsR.up {w w' : World} {lo : Nat} {A : Option Addr} {c : Nat} {l : List ByteArray} (h : StrsR w (Lo lo w) A c l) (hb : Below w.heap.size w w') : StrsR w' (Lo lo w') A c l := h.map (fun _ hp => hb.cell hp.2) fun _ h => ⟨h.1, Nat.lt_of_lt_of_le h.2 hb.size⟩
theorem StrsR.st {w : World} {lo : Nat} {A : Option Addr} {c : Nat} {l : List ByteArray} (h : StrsR w (Lo lo w) A c l) {p : Addr} (hp : p.block < lo) (v : Value) : StrsR (w.setCell p v) (Lo lo (w.setCell p v)) A c l :=
  h.map (fun q hq => World.cell?_setCell_far w p q v (fun e => by have := hq.1; rw [← e] at this; omega)) fun _ h => ⟨h.1, by simpa [World.setCell] using h.2⟩
theorem StrsR.lo {w : World} {lo lo' : Nat} {A : Option Addr} {c : Nat} {l : List ByteArray} (h : StrsR w (Lo lo w) A c l) (hl : lo' ≤ lo) : StrsR w (Lo lo' w) A c l := h.imp fun _ h => ⟨Nat.le_trans hl h.1, h.2⟩
set_option maxRecDepth 100000 in
set_option maxHeartbeats 2000000 in
theorem copied_any (x : Sec) (A1 : Option Addr) (c1 : Nat) (A2 : Option Addr) (c2 : Nat) (w : World) (h1 : StrsR w (fun b => b < w.heap.size) A1 c1 x.refs) (h2 : StrsR w (fun b => b < w.heap.size) A2 c2 x.envs) (hl1 : x.refs.length ≤ 1000000000) (hl2 : x.envs.length ≤ 1000000000) :
    Calls Tryd.prog 35 #[.agg #[.string x.name, .string x.text, .int .i64 x.level, .slice A1 x.refs.length c1, .slice A2 x.envs.length c2]] w fun e w' => ∃ B1 d1 B2 d2, e = .returned (.agg #[.string x.name, .string x.text, .int .i64 x.level, .slice B1 x.refs.length d1, .slice B2 x.envs.length d2]) ∧ StrsR w' (Lo w.heap.size w') B1 d1 x.refs ∧ StrsR w' (Lo w.heap.size w') B2 d2 x.envs ∧ Below w.heap.size w w' := by
  go_enter Tryd.func35, Tryd.ntmps35
  go_upto_region 1 with (fail)
  generalize hx_ : World.alloc (World.alloc w _) _ = wo1
  have hO1 : OwnB w wo1 [(w.heap.size + 1, [.string ⟨#[]⟩, .string ⟨#[]⟩, .int .i64 0, .slice none 0 0, .slice none 0 0]), (w.heap.size, [.string x.name, .string x.text, .int .i64 x.level, .slice A1 x.refs.length c1, .slice A2 x.envs.length c2])] := by rw [← hx_]; exact ((OwnB.refl w).new #[.string x.name, .string x.text, .int .i64 x.level, .slice A1 x.refs.length c1, .slice A2 x.envs.length c2] _ (g := w.heap.size)).new #[.string ⟨#[]⟩, .string ⟨#[]⟩, .int .i64 0, .slice none 0 0, .slice none 0 0] _ (g := w.heap.size + 1)
  have hbn : Below w.heap.size w wo1 := by rw [← hx_]; exact ((Below.refl _ _).alloc (Nat.le_refl _) _).alloc (by simp) _
  have zwo1 : wo1.heap.size = w.heap.size + 2 := by rw [← hx_]; simp
  clear hx_
  have c0_0 : wo1.cell? ⟨w.heap.size + 1, 0, none⟩ = some (.string ⟨#[]⟩) := hO1.c 0 0
  have c0_1 : wo1.cell? ⟨w.heap.size + 1, 1, none⟩ = some (.string ⟨#[]⟩) := hO1.c 0 1
  have c0_2 : wo1.cell? ⟨w.heap.size + 1, 2, none⟩ = some (.int .i64 0) := hO1.c 0 2
  have c0_3 : wo1.cell? ⟨w.heap.size + 1, 3, none⟩ = some (.slice none 0 0) := hO1.c 0 3
  have c0_4 : wo1.cell? ⟨w.heap.size + 1, 4, none⟩ = some (.slice none 0 0) := hO1.c 0 4
  have cf0 := hO1.fr 0
  have c1_0 : wo1.cell? ⟨w.heap.size, 0, none⟩ = some (.string x.name) := hO1.c 1 0
  have c1_1 : wo1.cell? ⟨w.heap.size, 1, none⟩ = some (.string x.text) := hO1.c 1 1
  have c1_2 : wo1.cell? ⟨w.heap.size, 2, none⟩ = some (.int .i64 x.level) := hO1.c 1 2
  have c1_3 : wo1.cell? ⟨w.heap.size, 3, none⟩ = some (.slice A1 x.refs.length c1) := hO1.c 1 3
  have c1_4 : wo1.cell? ⟨w.heap.size, 4, none⟩ = some (.slice A2 x.envs.length c2) := hO1.c 1 4
  have cf1 := hO1.fr 1
  clear hbn
  have hz := hO1.below
  have C := cloneS_any x.refs A1 c1 wo1 (h1.map (fun _ hp => hz.cell hp) (fun b hb => Nat.lt_of_lt_of_le hb hz.size)) hl1
  repeat' ((fail_if_success at_builtin); (first | go_skip | go_guarded | go_step))
  refine C.mono ?_
  clear C
  rintro e w2 ⟨B1, d1, rfl, hB1⟩
  dsimp only
  have zw2 := hB1.2.size
  have hO2 : OwnB w w2 [(w.heap.size + 1, [.string ⟨#[]⟩, .string ⟨#[]⟩, .int .i64 0, .slice none 0 0, .slice none 0 0]), (w.heap.size, [.string x.name, .string x.text, .int .i64 x.level, .slice A1 x.refs.length c1, .slice A2 x.envs.length c2])] := hO1.kept hB1.2
  clear c0_0 c0_1 c0_2 c0_3 c0_4 cf0 c1_0 c1_1 c1_2 c1_3 c1_4 cf1 hO1
  have c0_0 : w2.cell? ⟨w.heap.size + 1, 0, none⟩ = some (.string ⟨#[]⟩) := hO2.c 0 0
  have c0_1 : w2.cell? ⟨w.heap.size + 1, 1, none⟩ = some (.string ⟨#[]⟩) := hO2.c 0 1
  have c0_2 : w2.cell? ⟨w.heap.size + 1, 2, none⟩ = some (.int .i64 0) := hO2.c 0 2
  have c0_3 : w2.cell? ⟨w.heap.size + 1, 3, none⟩ = some (.slice none 0 0) := hO2.c 0 3
  have c0_4 : w2.cell? ⟨w.heap.size + 1, 4, none⟩ = some (.slice none 0 0) := hO2.c 0 4
  have cf0 := hO2.fr 0
  have c1_0 : w2.cell? ⟨w.heap.size, 0, none⟩ = some (.string x.name) := hO2.c 1 0
  have c1_1 : w2.cell? ⟨w.heap.size, 1, none⟩ = some (.string x.text) := hO2.c 1 1
  have c1_2 : w2.cell? ⟨w.heap.size, 2, none⟩ = some (.int .i64 x.level) := hO2.c 1 2
  have c1_3 : w2.cell? ⟨w.heap.size, 3, none⟩ = some (.slice A1 x.refs.length c1) := hO2.c 1 3
  have c1_4 : w2.cell? ⟨w.heap.size, 4, none⟩ = some (.slice A2 x.envs.length c2) := hO2.c 1 4
  have cf1 := hO2.fr 1
  have hs1 : StrsR w2 (Lo wo1.heap.size w2) B1 d1 x.refs := StrsR.own hB1
  clear hB1
  go_upto_region 2 with (fail)
  generalize hx_ : World.setCell _ _ _ = wo3
  have hO3 : OwnB w wo3 [(w.heap.size + 1, [.string ⟨#[]⟩, .string ⟨#[]⟩, .int .i64 0, .slice none 0 0, .slice none 0 0]), (w.heap.size, [.string x.name, .string x.text, .int .i64 x.level, .slice B1 x.refs.length d1, .slice A2 x.envs.length c2])] := by rw [← hx_]; exact hO2.store 1 rfl 3 _
  have zwo3 : wo3.heap.size = w2.heap.size := by rw [← hx_]; simp [World.setCell]
  replace hs1 : StrsR wo3 (Lo wo1.heap.size wo3) B1 d1 x.refs := by rw [← hx_]; exact hs1.st (by simp only; omega) _
  clear hx_ c0_0 c0_1 c0_2 c0_3 c0_4 cf0 c1_0 c1_1 c1_2 c1_3 c1_4 cf1 hO2
  have c0_0 : wo3.cell? ⟨w.heap.size + 1, 0, none⟩ = some (.string ⟨#[]⟩) := hO3.c 0 0
  have c0_1 : wo3.cell? ⟨w.heap.size + 1, 1, none⟩ = some (.string ⟨#[]⟩) := hO3.c 0 1
  have c0_2 : wo3.cell? ⟨w.heap.size + 1, 2, none⟩ = some (.int .i64 0) := hO3.c 0 2
  have c0_3 : wo3.cell? ⟨w.heap.size + 1, 3, none⟩ = some (.slice none 0 0) := hO3.c 0 3
  have c0_4 : wo3.cell? ⟨w.heap.size + 1, 4, none⟩ = some (.slice none 0 0) := hO3.c 0 4
  have cf0 := hO3.fr 0
  have c1_0 : wo3.cell? ⟨w.heap.size, 0, none⟩ = some (.string x.name) := hO3.c 1 0
  have c1_1 : wo3.cell? ⟨w.heap.size, 1, none⟩ = some (.string x.text) := hO3.c 1 1
  have c1_2 : wo3.cell? ⟨w.heap.size, 2, none⟩ = some (.int .i64 x.level) := hO3.c 1 2
  have c1_3 : wo3.cell? ⟨w.heap.size, 3, none⟩ = some (.slice B1 x.refs.length d1) := hO3.c 1 3
  have c1_4 : wo3.cell? ⟨w.heap.size, 4, none⟩ = some (.slice A2 x.envs.length c2) := hO3.c 1 4
  have cf1 := hO3.fr 1
  have hzz := hO3.below
  have C := cloneS_any x.envs A2 c2 wo3 (h2.map (fun _ hp => hzz.cell hp) (fun b hb => Nat.lt_of_lt_of_le hb hzz.size)) hl2
  repeat' ((fail_if_success at_builtin); (first | go_skip | go_guarded | go_step))
  refine C.mono ?_
  clear C
  rintro e w4 ⟨B2, d2, rfl, hB2⟩
  dsimp only
  have zw4 := hB2.2.size
  have hO4 : OwnB w w4 [(w.heap.size + 1, [.string ⟨#[]⟩, .string ⟨#[]⟩, .int .i64 0, .slice none 0 0, .slice none 0 0]), (w.heap.size, [.string x.name, .string x.text, .int .i64 x.level, .slice B1 x.refs.length d1, .slice A2 x.envs.length c2])] := hO3.kept hB2.2
  clear c0_0 c0_1 c0_2 c0_3 c0_4 cf0 c1_0 c1_1 c1_2 c1_3 c1_4 cf1 hO3
  have c0_0 : w4.cell? ⟨w.heap.size + 1, 0, none⟩ = some (.string ⟨#[]⟩) := hO4.c 0 0
  have c0_1 : w4.cell? ⟨w.heap.size + 1, 1, none⟩ = some (.string ⟨#[]⟩) := hO4.c 0 1
  have c0_2 : w4.cell? ⟨w.heap.size + 1, 2, none⟩ = some (.int .i64 0) := hO4.c 0 2
  have c0_3 : w4.cell? ⟨w.heap.size + 1, 3, none⟩ = some (.slice none 0 0) := hO4.c 0 3
  have c0_4 : w4.cell? ⟨w.heap.size + 1, 4, none⟩ = some (.slice none 0 0) := hO4.c 0 4
  have cf0 := hO4.fr 0
  have c1_0 : w4.cell? ⟨w.heap.size, 0, none⟩ = some (.string x.name) := hO4.c 1 0
  have c1_1 : w4.cell? ⟨w.heap.size, 1, none⟩ = some (.string x.text) := hO4.c 1 1
  have c1_2 : w4.cell? ⟨w.heap.size, 2, none⟩ = some (.int .i64 x.level) := hO4.c 1 2
  have c1_3 : w4.cell? ⟨w.heap.size, 3, none⟩ = some (.slice B1 x.refs.length d1) := hO4.c 1 3
  have c1_4 : w4.cell? ⟨w.heap.size, 4, none⟩ = some (.slice A2 x.envs.length c2) := hO4.c 1 4
  have cf1 := hO4.fr 1
  replace hs1 : StrsR w4 (Lo wo1.heap.size w4) B1 d1 x.refs := hs1.up hB2.2
  have hs2 : StrsR w4 (Lo wo3.heap.size w4) B2 d2 x.envs := StrsR.own hB2
  clear hB2 h1 h2
  go_upto_region 3 with (fail)
  generalize hx_ : World.setCell _ _ _ = wo5
  have hO5 : OwnB w wo5 [(w.heap.size + 1, [.string ⟨#[]⟩, .string ⟨#[]⟩, .int .i64 0, .slice none 0 0, .slice none 0 0]), (w.heap.size, [.string x.name, .string x.text, .int .i64 x.level, .slice B1 x.refs.length d1, .slice B2 x.envs.length d2])] := by rw [← hx_]; exact hO4.store 1 rfl 4 _
  have zwo5 : wo5.heap.size = w4.heap.size := by rw [← hx_]; simp [World.setCell]
  replace hs1 : StrsR wo5 (Lo wo1.heap.size wo5) B1 d1 x.refs := by rw [← hx_]; exact hs1.st (by simp only; omega) _
  replace hs2 : StrsR wo5 (Lo wo3.heap.size wo5) B2 d2 x.envs := by rw [← hx_]; exact hs2.st (by simp only; omega) _
  clear hx_ c0_0 c0_1 c0_2 c0_3 c0_4 cf0 c1_0 c1_1 c1_2 c1_3 c1_4 cf1 hO4
  have c0_0 : wo5.cell? ⟨w.heap.size + 1, 0, none⟩ = some (.string ⟨#[]⟩) := hO5.c 0 0
  have c0_1 : wo5.cell? ⟨w.heap.size + 1, 1, none⟩ = some (.string ⟨#[]⟩) := hO5.c 0 1
  have c0_2 : wo5.cell? ⟨w.heap.size + 1, 2, none⟩ = some (.int .i64 0) := hO5.c 0 2
  have c0_3 : wo5.cell? ⟨w.heap.size + 1, 3, none⟩ = some (.slice none 0 0) := hO5.c 0 3
  have c0_4 : wo5.cell? ⟨w.heap.size + 1, 4, none⟩ = some (.slice none 0 0) := hO5.c 0 4
  have cf0 := hO5.fr 0
  have c1_0 : wo5.cell? ⟨w.heap.size, 0, none⟩ = some (.string x.name) := hO5.c 1 0
  have c1_1 : wo5.cell? ⟨w.heap.size, 1, none⟩ = some (.string x.text) := hO5.c 1 1
  have c1_2 : wo5.cell? ⟨w.heap.size, 2, none⟩ = some (.int .i64 x.level) := hO5.c 1 2
  have c1_3 : wo5.cell? ⟨w.heap.size, 3, none⟩ = some (.slice B1 x.refs.length d1) := hO5.c 1 3
  have c1_4 : wo5.cell? ⟨w.heap.size, 4, none⟩ = some (.slice B2 x.envs.length d2) := hO5.c 1 4
  have cf1 := hO5.fr 1
  repeat' ((fail_if_success at_builtin); (first | go_skip | go_guarded | go_step))
  generalize hx_ : World.setCell (World.setCell (World.setCell (World.setCell (World.setCell _ _ _) _ _) _ _) _ _) _ _ = wo6
  have hO6 : OwnB w wo6 [(w.heap.size + 1, [.string x.name, .string x.text, .int .i64 x.level, .slice B1 x.refs.length d1, .slice B2 x.envs.length d2]), (w.heap.size, [.string x.name, .string x.text, .int .i64 x.level, .slice B1 x.refs.length d1, .slice B2 x.envs.length d2])] := by rw [← hx_]; exact ((((hO5.store 0 rfl 0 _).store 0 rfl 1 _).store 0 rfl 2 _).store 0 rfl 3 _).store 0 rfl 4 _
  have zwo6 : wo6.heap.size = wo5.heap.size := by rw [← hx_]; simp [World.setCell]
  replace hs1 : StrsR wo6 (Lo wo1.heap.size wo6) B1 d1 x.refs := by rw [← hx_]; exact (((((hs1.st (by simp only; omega) _).st (by simp only; omega) _).st (by simp only; omega) _).st (by simp only; omega) _).st (by simp only; omega) _)
  replace hs2 : StrsR wo6 (Lo wo3.heap.size wo6) B2 d2 x.envs := by rw [← hx_]; exact (((((hs2.st (by simp only; omega) _).st (by simp only; omega) _).st (by simp only; omega) _).st (by simp only; omega) _).st (by simp only; omega) _)
  clear hx_ c0_0 c0_1 c0_2 c0_3 c0_4 cf0 c1_0 c1_1 c1_2 c1_3 c1_4 cf1 hO5
  have c0_0 : wo6.cell? ⟨w.heap.size + 1, 0, none⟩ = some (.string x.name) := hO6.c 0 0
  have c0_1 : wo6.cell? ⟨w.heap.size + 1, 1, none⟩ = some (.string x.text) := hO6.c 0 1
  have c0_2 : wo6.cell? ⟨w.heap.size + 1, 2, none⟩ = some (.int .i64 x.level) := hO6.c 0 2
  have c0_3 : wo6.cell? ⟨w.heap.size + 1, 3, none⟩ = some (.slice B1 x.refs.length d1) := hO6.c 0 3
  have c0_4 : wo6.cell? ⟨w.heap.size + 1, 4, none⟩ = some (.slice B2 x.envs.length d2) := hO6.c 0 4
  have cf0 := hO6.fr 0
  have c1_0 : wo6.cell? ⟨w.heap.size, 0, none⟩ = some (.string x.name) := hO6.c 1 0
  have c1_1 : wo6.cell? ⟨w.heap.size, 1, none⟩ = some (.string x.text) := hO6.c 1 1
  have c1_2 : wo6.cell? ⟨w.heap.size, 2, none⟩ = some (.int .i64 x.level) := hO6.c 1 2
  have c1_3 : wo6.cell? ⟨w.heap.size, 3, none⟩ = some (.slice B1 x.refs.length d1) := hO6.c 1 3
  have c1_4 : wo6.cell? ⟨w.heap.size, 4, none⟩ = some (.slice B2 x.envs.length d2) := hO6.c 1 4
  have cf1 := hO6.fr 1
  refine bodyPost_ret (v := .agg #[.string x.name, .string x.text, .int .i64 x.level, .slice B1 x.refs.length d1, .slice B2 x.envs.length d2]) (by simp only [results, Tryd.results35]; go_simp; first | done | exact ⟨rfl, rfl, rfl⟩ | rfl) rfl ?_
  exact ⟨B1, d1, B2, d2, rfl, hs1.lo (by omega), hs2.lo (by omega), hO6.below⟩
end Go.Proofs.YtgloblokkejgmaaDoor
