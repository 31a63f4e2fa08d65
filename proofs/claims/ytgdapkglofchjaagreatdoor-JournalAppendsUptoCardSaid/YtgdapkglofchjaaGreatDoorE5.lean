/- Joined: JnW2 JnW3 JnW4 JnW5 JnW6. -/
import Derived.Test.YtgdapkglofchjaaGreatDoorE4
set_option maxRecDepth 100000
set_option maxHeartbeats 2000000
set_option linter.unusedVariables false
namespace Go.Proofs.YtgdapkglofchjaaGreatDoor
open Go.RowKit
theorem CW.new (w : World) : CW w (w.alloc (.cells #[.slice none 0 0, .bool false, .bool false] 88)) w.heap.size [] :=
 ⟨none, 0, [], (Own.nil_ w fldT 4).alloc _, CellsAt.new w _ _, Nat.le_refl _, by simp [Value.ownBlock], rfl⟩
theorem inner_w (W0 w : World) (g : Nat) (l : List FV) (hc : CW W0 w g l) : Calls Tryz.prog 119 #[.pointer (some ⟨g, 0, none⟩)] w fun e w' => ∃ gi, e = .returned (.pointer (some ⟨gi, 0, none⟩)) ∧ CW w w' gi [] := by
 have c1 := hc.c1
 have hlt := hc.lt
 clear hc
 go_enter Tryz.func119, Tryz.ntmps119
 go_upto_region 2 with (fail)
 generalize hx_ : World.alloc w _ = w1
 have hM : CW w w1 w.heap.size [] := by rw [← hx_]; exact CW.new w
 replace c1 : w1.cell? ⟨g, 1, none⟩ = some (.bool false) := (hM.bel.cell (p := ⟨g, 1, none⟩) hlt).trans c1
 clear hx_
 repeat' (first | go_skip | go_guarded | go_step)
 go_ret
 exact ⟨_, rfl, hM⟩
def At (w : World) (b o : Nat) (cs : List Value) : Prop := ∀ (j : Nat) (u : Value), cs[j]? = some u → w.cell? ⟨b, o + j, none⟩ = some u
theorem At.left {w : World} {b o : Nat} {c1 c2 : List Value} (h : At w b o (c1 ++ c2)) : At w b o c1 := fun j u hu => h j u (by rw [List.getElem?_append_left (List.getElem?_eq_some_iff.1 hu).1]; exact hu)
theorem At.right {w : World} {b o : Nat} {c1 c2 : List Value} (h : At w b o (c1 ++ c2)) {k : Nat} (hk : o + c1.length = k) : At w b k c2 := fun j u hu => by
 subst hk
 have := h (c1.length + j) u (by rw [List.getElem?_append_right (by omega), Nat.add_sub_cancel_left]; exact hu)
 rwa [← Nat.add_assoc] at this
theorem At.below {w w' : World} {b o B : Nat} {cs : List Value} (h : At w b o cs) (hb : Below B w w') (hlt : b < B) : At w' b o cs := fun j u hu => (hb.cell (p := ⟨b, o + j, none⟩) hlt).trans (h j u hu)
def WriteC (F : FuncId) (C : Cod) : Prop := ∀ (W0 w : World) (g pb po : Nat) (l : List FV) (f : FV) (cs : List Value), CW W0 w g l → pb < W0.heap.size → At w pb po cs → C.rp w (fun b => b < W0.heap.size) f cs → fsz f ≤ 1000000000 → l.length ≤ 1000000000 →
 Calls Tryz.prog F #[.pointer (some ⟨g, 0, none⟩), .pointer (some ⟨pb, po, none⟩)] w fun e w' => e = .returned (.tuple #[]) ∧ CW W0 w' g (l ++ [f])
theorem WriteC.at_ {F : FuncId} {C : Cod} (h : WriteC F C) (hC : C.Ok) {W0 w0 w w' : World} {g pb po : Nat} {l : List FV} {f : FV} {cs : List Value} (hc : CW w w' g l) (h0 : Below W0.heap.size W0 w0) (hw : Below w0.heap.size w0 w) (hp : pb < W0.heap.size) (ha : At w0 pb po cs) (hr : C.rp w0 (fun b => b < W0.heap.size) f cs) (hs : fsz f ≤ 1000000000) (hl : l.length ≤ 1000000000) :
  Calls Tryz.prog F #[.pointer (some ⟨g, 0, none⟩), .pointer (some ⟨pb, po, none⟩)] w' fun e w2 => e = .returned (.tuple #[]) ∧ CW w w2 g (l ++ [f]) := by
 have hb : Below w0.heap.size w0 w' := hw.trans (hc.bel.mono hw.size)
 have hp0 := Nat.lt_of_lt_of_le hp h0.size
 exact h w w' g pb po l f cs hc (Nat.lt_of_lt_of_le hp0 hw.size) (ha.below hb hp0) (hC.map _ _ _ _ _ _ (fun p hp => hb.cell (Nat.lt_of_lt_of_le hp h0.size)) (fun b hb => Nat.lt_of_lt_of_le hb (Nat.le_trans h0.size hw.size)) hr) hs hl
theorem int_wc : WriteC 76 Cod.int := by
 intro W0 w g pb po l f cs hc hp ha hr hs hl
 obtain ⟨x, hx, rfl, rfl⟩ := hr
 exact (int_w x hx W0 w w g pb po l hc (Below.refl _ _) (.inl hp) (ha 0 _ rfl) hl).mono fun e w' h => ⟨h.1, h.2.1⟩
theorem str_wc : WriteC 77 Cod.str := by
 intro W0 w g pb po l f cs hc hp ha hr hs hl
 obtain ⟨s, rfl, rfl⟩ := hr
 exact (str_w s W0 w w g pb po l hc (Below.refl _ _) (.inl hp) (ha 0 _ rfl) hl).mono fun e w' h => ⟨h.1, h.2.1⟩
theorem wrap_int (x : Int) : IsInt (wrap64 x) := by
 unfold wrap64 IsInt
 omega
theorem dig_wc : WriteC 129 Cod.dig := by
 intro W0 w g pb po l f cs hc hp ha hr hs hl
 obtain ⟨n, hn, rfl, rfl⟩ := hr
 have c0 := ha 0 _ rfl
 rw [Nat.add_zero] at c0
 clear ha
 go_enter Tryz.func129, Tryz.ntmps129
 repeat' ((fail_if_success at_builtin); first | go_skip | go_guarded | go_step)
 generalize hx_ : World.alloc w _ = w1
 have hbn : Below w.heap.size w w1 := by rw [← hx_]; exact (Below.refl _ _).alloc (Nat.le_refl _) _
 have hv : w1.cell? ⟨w.heap.size, 0, none⟩ = some (.int .i64 (wrap64 (n : Int))) := by rw [← hx_]; exact (CellsAt.new w #[.int .i64 (wrap64 (n : Int))] _).cell 0 _ rfl
 clear hx_
 refine (int_w _ (wrap_int _) W0 w w1 g w.heap.size 0 l hc hbn (.inr (Nat.le_refl _)) hv hl).mono ?_
 rintro e w2 ⟨rfl, hc2, hv2⟩
 dsimp only
 have c1 := hc2.c1
 repeat' ((fail_if_success at_builtin); first | go_skip | go_guarded | go_step)
 go_end0
 exact ⟨rfl, hc2⟩
theorem flag_wc : WriteC 120 Cod.flag := by
 intro W0 w g pb po l f cs hc hp ha hr hs hl
 obtain ⟨b, rfl, rfl⟩ := hr
 have c0 := ha 0 _ rfl
 rw [Nat.add_zero] at c0
 clear ha
 have hpw := Nat.lt_of_lt_of_le hp hc.bel.size
 cases b with
 | true =>
  go_enter Tryz.func120, Tryz.ntmps120
  go_upto_region 1 with (fail)
  generalize hx_ : World.alloc w _ = w1
  have hO : OwnB w w1 [(w.heap.size, [.int .i64 0])] := by rw [← hx_]; exact (OwnB.refl w).new #[.int .i64 0] _ (g := w.heap.size)
  clear hx_
  replace c0 := (hO.below.cell (p := ⟨pb, po, none⟩) hpw).trans c0
  have c1_ := hO.c 0 0
  have cf_ := hO.fr 0
  go_upto_region 3 with (fail)
  generalize hx_ : World.setCell w1 _ _ = w2
  replace hO : OwnB w w2 [(w.heap.size, [.int .i64 1])] := by rw [← hx_]; exact hO.store 0 rfl 0 _
  clear hx_ c1_ cf_ c0
  have hbn := hO.below
  have hv := hO.c 0 0
  clear hO
  repeat' (first | go_skip | go_guarded | go_step)
  refine (int_w 1 ii1 W0 w w2 g w.heap.size 0 l hc hbn (.inr (Nat.le_refl _)) hv hl).mono ?_
  rintro e w3 ⟨rfl, hc2, hv2⟩
  dsimp only
  have c1 := hc2.c1
  clear hv hbn
  repeat' ((fail_if_success at_builtin); first | go_skip | go_guarded | go_step)
  go_end0
  exact ⟨rfl, hc2⟩
 | false =>
  go_enter Tryz.func120, Tryz.ntmps120
  go_upto_region 1 with (fail)
  generalize hx_ : World.alloc w _ = w1
  have hO : OwnB w w1 [(w.heap.size, [.int .i64 0])] := by rw [← hx_]; exact (OwnB.refl w).new #[.int .i64 0] _ (g := w.heap.size)
  clear hx_
  replace c0 := (hO.below.cell (p := ⟨pb, po, none⟩) hpw).trans c0
  go_upto_region 3 with (fail)
  generalize hx_ : w1 = w2 at *
  clear hx_ c0
  have hbn := hO.below
  have hv := hO.c 0 0
  clear hO
  repeat' (first | go_skip | go_guarded | go_step)
  refine (int_w 0 ii0 W0 w w2 g w.heap.size 0 l hc hbn (.inr (Nat.le_refl _)) hv hl).mono ?_
  rintro e w3 ⟨rfl, hc2, hv2⟩
  dsimp only
  have c1 := hc2.c1
  clear hv hbn
  repeat' ((fail_if_success at_builtin); first | go_skip | go_guarded | go_step)
  go_end0
  exact ⟨rfl, hc2⟩
def WriteL (F : FuncId) (V : Value) (C : Cod) : Prop := ∀ (W0 w : World) (g pb po : Nat) (l : List FV) (f : FV) (cs : List Value), CW W0 w g l → pb < W0.heap.size → At w pb po cs → C.rp w (fun b => b < W0.heap.size) f cs → fsz f ≤ 1000000000 → l.length ≤ 1000000000 →
 Calls Tryz.prog F #[.pointer (some ⟨g, 0, none⟩), .pointer (some ⟨pb, po, none⟩), V] w fun e w' => e = .returned (.tuple #[]) ∧ CW W0 w' g (l ++ [f])
theorem WriteL.at_ {F : FuncId} {V : Value} {C : Cod} (h : WriteL F V C) (hC : C.Ok) {W0 w0 w w' : World} {g pb po : Nat} {l : List FV} {f : FV} {cs : List Value} (hc : CW w w' g l) (h0 : Below W0.heap.size W0 w0) (hw : Below w0.heap.size w0 w) (hp : pb < W0.heap.size) (ha : At w0 pb po cs) (hr : C.rp w0 (fun b => b < W0.heap.size) f cs) (hs : fsz f ≤ 1000000000) (hl : l.length ≤ 1000000000) :
  Calls Tryz.prog F #[.pointer (some ⟨g, 0, none⟩), .pointer (some ⟨pb, po, none⟩), V] w' fun e w2 => e = .returned (.tuple #[]) ∧ CW w w2 g (l ++ [f]) := by
 have hb : Below w0.heap.size w0 w' := hw.trans (hc.bel.mono hw.size)
 have hp0 := Nat.lt_of_lt_of_le hp h0.size
 exact h w w' g pb po l f cs hc (Nat.lt_of_lt_of_le hp0 hw.size) (ha.below hb hp0) (hC.map _ _ _ _ _ _ (fun p hp => hb.cell (Nat.lt_of_lt_of_le hp h0.size)) (fun b hb => Nat.lt_of_lt_of_le hb (Nat.le_trans h0.size hw.size)) hr) hs hl
theorem same_at {W0 w w' : World} (h : Below W0.heap.size W0 w) (h' : Below W0.heap.size W0 w') {p : Addr} (hp : p.block < W0.heap.size) : w'.cell? p = w.cell? p := (h'.cell hp).trans (h.cell hp).symm
theorem WriteC.at2 {F : FuncId} {C : Cod} (h : WriteC F C) (hC : C.Ok) {W0 w0 w' : World} {g pb po : Nat} {l : List FV} {f : FV} {cs : List Value} (hc : CW W0 w' g l) (h0 : Below W0.heap.size W0 w0) (hp : pb < W0.heap.size) (ha : At w0 pb po cs) (hr : C.rp w0 (fun b => b < W0.heap.size) f cs) (hs : fsz f ≤ 1000000000) (hl : l.length ≤ 1000000000) :
  Calls Tryz.prog F #[.pointer (some ⟨g, 0, none⟩), .pointer (some ⟨pb, po, none⟩)] w' fun e w2 => e = .returned (.tuple #[]) ∧ CW W0 w2 g (l ++ [f]) :=
 h W0 w' g pb po l f cs hc hp (fun j u hu => (same_at h0 hc.bel (p := ⟨pb, po + j, none⟩) hp).trans (ha j u hu)) (hC.map _ _ _ _ _ _ (fun p hp => same_at h0 hc.bel hp) (fun b hb => hb) hr) hs hl
theorem WriteL.at2 {F : FuncId} {V : Value} {C : Cod} (h : WriteL F V C) (hC : C.Ok) {W0 w0 w' : World} {g pb po : Nat} {l : List FV} {f : FV} {cs : List Value} (hc : CW W0 w' g l) (h0 : Below W0.heap.size W0 w0) (hp : pb < W0.heap.size) (ha : At w0 pb po cs) (hr : C.rp w0 (fun b => b < W0.heap.size) f cs) (hs : fsz f ≤ 1000000000) (hl : l.length ≤ 1000000000) :
  Calls Tryz.prog F #[.pointer (some ⟨g, 0, none⟩), .pointer (some ⟨pb, po, none⟩), V] w' fun e w2 => e = .returned (.tuple #[]) ∧ CW W0 w2 g (l ++ [f]) :=
 h W0 w' g pb po l f cs hc hp (fun j u hu => (same_at h0 hc.bel (p := ⟨pb, po + j, none⟩) hp).trans (ha j u hu)) (hC.map _ _ _ _ _ _ (fun p hp => same_at h0 hc.bel hp) (fun b hb => hb) hr) hs hl
theorem strs1_wc : WriteC 143 Cod.str := by
 intro W0 w g pb po l f cs hc hp ha hr hs hl
 go_enter Tryz.func143, Tryz.ntmps143
 repeat' (first | go_skip | go_guarded | go_step)
 refine (str_wc W0 w g pb po l f cs hc hp ha hr hs hl).mono ?_
 rintro e w1 ⟨rfl, hF⟩
 dsimp only
 repeat' ((fail_if_success at_builtin); first | go_skip | go_guarded | go_step)
 go_end0
 exact ⟨rfl, hF⟩
theorem lstr_w (C : Cod) (hC : C.Ok) (hk : C.sz = 1) (hcode : WriteC 143 C) : WriteL 142 (.func (.func 143) #[] #[]) (Cod.list C) := by
 intro W0 w g pb po l f cs hc hp ha hr hs hl
 obtain ⟨m, A, c, rfl, rfl, hR⟩ := hr
 have c0 := ha 0 _ rfl
 rw [Nat.add_zero] at c0
 rw [fsz_fL] at hs
 have hm := lsz_length m
 have hpw := Nat.lt_of_lt_of_le hp hc.bel.size
 clear ha
 go_enter Tryz.func142, Tryz.ntmps142
 repeat' (first | go_skip | go_guarded | go_step)
 refine (inner_w W0 w g l hc).mono ?_
 rintro e w1 ⟨gi, rfl, hI⟩
 dsimp only
 have c1 := (hc.below hI.bel).c1
 have c0' := (hI.bel.cell (p := ⟨pb, po, none⟩) hpw).trans c0
 replace hcode := Lib.hid hcode
 replace hR := Lib.hid hR
 repeat' (first | go_skip | go_guarded | go_step)
 go_loopw [51] (fun u51 wr => ∃ i : Nat, i ≤ m.length ∧ u51 = .int .i64 (i : Int) ∧ CW w wr gi (m.take i)) (fun u51 _ => m.length - (intOf u51).toNat)
 case atStart => exact ⟨0, Nat.zero_le _, rfl, hI⟩
 case round =>
  clear c0' c1 hI
  obtain ⟨i, hi, rfl, hI⟩ := hrel
  have c0' := (hI.bel.cell (p := ⟨pb, po, none⟩) hpw).trans c0
  by_cases hlt : i < m.length
  ·obtain ⟨x, hx⟩ : ∃ x, m[i]? = some x := ⟨_, List.getElem?_eq_getElem hlt⟩
   obtain ⟨b, o, k1, rfl, hb, hkl, hrx, hat⟩ := hR.out.at_ hx
   rw [hk, Nat.mul_one] at hat
   have f1 : (0 : Int) ≤ (i : Int) := by omega
   have f2 : (i : Int) < (m.length : Int) := by omega
   have hsx : fsz x ≤ 1000000000 := by have := fsz_mem (List.mem_of_getElem? hx); omega
   repeat' (first | go_skip | go_guarded | go_step)
   refine (hcode.out.at_ hC hI hc.bel (Below.refl _ _) hb hat hrx hsx (by rw [List.length_take]; omega)).mono ?_
   rintro e w2 ⟨rfl, hI2⟩
   dsimp only
   clear hI
   have f3 : IntKind.i64.wrap ((i : Int) + 1) = (i : Int) + 1 := IntWalk.i64_in _ (by omega)
   repeat' (first | go_skip | go_guarded | go_step)
   go_roundw
   case rel =>
    refine ⟨i + 1, by omega, by congr 1, ?_⟩
    rw [List.take_add_one, hx]
    exact hI2
   case measure => simp [intOf]; omega
  ·obtain rfl : i = m.length := by omega
   rw [List.take_length] at hI
   repeat' (first | go_skip | go_guarded | go_step)
   refine (done_w W0 w wr g gi l m hc hI hl).mono ?_
   rintro e w2 ⟨rfl, hF⟩
   dsimp only
   repeat' ((fail_if_success at_builtin); first | go_skip | go_guarded | go_step)
   go_end0
   exact ⟨rfl, hF⟩
theorem strs_wc : WriteC 127 Cod.strs := by
 intro W0 w g pb po l f cs hc hp ha hr hs hl
 go_enter Tryz.func127, Tryz.ntmps127
 repeat' (first | go_skip | go_guarded | go_step)
 refine (lstr_w Cod.str Cod.str_ok rfl strs1_wc W0 w g pb po l f cs hc hp ha hr hs hl).mono ?_
 rintro e w1 ⟨rfl, hF⟩
 dsimp only
 repeat' ((fail_if_success at_builtin); first | go_skip | go_guarded | go_step)
 go_end0
 exact ⟨rfl, hF⟩
theorem ints1_wc : WriteC 145 Cod.int := by
 intro W0 w g pb po l f cs hc hp ha hr hs hl
 go_enter Tryz.func145, Tryz.ntmps145
 repeat' (first | go_skip | go_guarded | go_step)
 refine (int_wc W0 w g pb po l f cs hc hp ha hr hs hl).mono ?_
 rintro e w1 ⟨rfl, hF⟩
 dsimp only
 repeat' ((fail_if_success at_builtin); first | go_skip | go_guarded | go_step)
 go_end0
 exact ⟨rfl, hF⟩
theorem lint_w (C : Cod) (hC : C.Ok) (hk : C.sz = 1) (hcode : WriteC 145 C) : WriteL 144 (.func (.func 145) #[] #[]) (Cod.list C) := by
 intro W0 w g pb po l f cs hc hp ha hr hs hl
 obtain ⟨m, A, c, rfl, rfl, hR⟩ := hr
 have c0 := ha 0 _ rfl
 rw [Nat.add_zero] at c0
 rw [fsz_fL] at hs
 have hm := lsz_length m
 have hpw := Nat.lt_of_lt_of_le hp hc.bel.size
 clear ha
 go_enter Tryz.func144, Tryz.ntmps144
 repeat' (first | go_skip | go_guarded | go_step)
 refine (inner_w W0 w g l hc).mono ?_
 rintro e w1 ⟨gi, rfl, hI⟩
 dsimp only
 have c1 := (hc.below hI.bel).c1
 have c0' := (hI.bel.cell (p := ⟨pb, po, none⟩) hpw).trans c0
 replace hcode := Lib.hid hcode
 replace hR := Lib.hid hR
 repeat' (first | go_skip | go_guarded | go_step)
 go_loopw [51] (fun u51 wr => ∃ i : Nat, i ≤ m.length ∧ u51 = .int .i64 (i : Int) ∧ CW w wr gi (m.take i)) (fun u51 _ => m.length - (intOf u51).toNat)
 case atStart => exact ⟨0, Nat.zero_le _, rfl, hI⟩
 case round =>
  clear c0' c1 hI
  obtain ⟨i, hi, rfl, hI⟩ := hrel
  have c0' := (hI.bel.cell (p := ⟨pb, po, none⟩) hpw).trans c0
  by_cases hlt : i < m.length
  ·obtain ⟨x, hx⟩ : ∃ x, m[i]? = some x := ⟨_, List.getElem?_eq_getElem hlt⟩
   obtain ⟨b, o, k1, rfl, hb, hkl, hrx, hat⟩ := hR.out.at_ hx
   rw [hk, Nat.mul_one] at hat
   have f1 : (0 : Int) ≤ (i : Int) := by omega
   have f2 : (i : Int) < (m.length : Int) := by omega
   have hsx : fsz x ≤ 1000000000 := by have := fsz_mem (List.mem_of_getElem? hx); omega
   repeat' (first | go_skip | go_guarded | go_step)
   refine (hcode.out.at_ hC hI hc.bel (Below.refl _ _) hb hat hrx hsx (by rw [List.length_take]; omega)).mono ?_
   rintro e w2 ⟨rfl, hI2⟩
   dsimp only
   clear hI
   have f3 : IntKind.i64.wrap ((i : Int) + 1) = (i : Int) + 1 := IntWalk.i64_in _ (by omega)
   repeat' (first | go_skip | go_guarded | go_step)
   go_roundw
   case rel =>
    refine ⟨i + 1, by omega, by congr 1, ?_⟩
    rw [List.take_add_one, hx]
    exact hI2
   case measure => simp [intOf]; omega
  ·obtain rfl : i = m.length := by omega
   rw [List.take_length] at hI
   repeat' (first | go_skip | go_guarded | go_step)
   refine (done_w W0 w wr g gi l m hc hI hl).mono ?_
   rintro e w2 ⟨rfl, hF⟩
   dsimp only
   repeat' ((fail_if_success at_builtin); first | go_skip | go_guarded | go_step)
   go_end0
   exact ⟨rfl, hF⟩
theorem ints_wc : WriteC 128 Cod.ints := by
 intro W0 w g pb po l f cs hc hp ha hr hs hl
 go_enter Tryz.func128, Tryz.ntmps128
 repeat' (first | go_skip | go_guarded | go_step)
 refine (lint_w Cod.int Cod.int_ok rfl ints1_wc W0 w g pb po l f cs hc hp ha hr hs hl).mono ?_
 rintro e w1 ⟨rfl, hF⟩
 dsimp only
 repeat' ((fail_if_success at_builtin); first | go_skip | go_guarded | go_step)
 go_end0
 exact ⟨rfl, hF⟩
theorem origin_wc : WriteC 78 Cod.origin := by
 intro W0 w g pb po l f cs hc hp ha hr hs hl
 obtain ⟨fs, rfl, hr⟩ := hr
 obtain ⟨f1, r1, k1, d1, rfl, rfl, q1, hr⟩ := hr
 obtain ⟨f2, r2, k2, d2, rfl, rfl, q2, hr⟩ := hr
 obtain ⟨f3, r3, k3, d3, rfl, rfl, q3, hr⟩ := hr
 obtain ⟨rfl, rfl⟩ := hr
 have n1 : k1.length = 1 := Cod.str_ok.len q1
 have a1 := ha.left
 replace ha := ha.right (k := po + 1) (by rw [n1])
 have n2 : k2.length = 1 := Cod.str_ok.len q2
 have a2 := ha.left
 replace ha := ha.right (k := po + 2) (by rw [n2])
 have n3 : k3.length = 1 := Cod.flag_ok.len q3
 have a3 := ha.left
 clear ha n1 n2 n3
 rw [fsz_fL] at hs
 have s1 : fsz f1 ≤ 1000000000 := by have := fsz_mem (l := [f1, f2, f3]) (f := f1) (by simp); omega
 have s2 : fsz f2 ≤ 1000000000 := by have := fsz_mem (l := [f1, f2, f3]) (f := f2) (by simp); omega
 have s3 : fsz f3 ≤ 1000000000 := by have := fsz_mem (l := [f1, f2, f3]) (f := f3) (by simp); omega
 go_enter Tryz.func78, Tryz.ntmps78
 repeat' (first | go_skip | go_guarded | go_step)
 refine (inner_w W0 w g l hc).mono ?_
 rintro e w1 ⟨gi, rfl, hI⟩
 dsimp only
 repeat' (first | go_skip | go_guarded | go_step)
 refine (str_wc.at_ Cod.str_ok hI hc.bel (Below.refl _ _) hp a1 q1 s1 (by simp)).mono ?_
 rintro e w2 ⟨rfl, hI⟩
 dsimp only
 repeat' (first | go_skip | go_guarded | go_step)
 refine (str_wc.at_ Cod.str_ok hI hc.bel (Below.refl _ _) hp a2 q2 s2 (by simp)).mono ?_
 rintro e w3 ⟨rfl, hI⟩
 dsimp only
 repeat' (first | go_skip | go_guarded | go_step)
 refine (flag_wc.at_ Cod.flag_ok hI hc.bel (Below.refl _ _) hp a3 q3 s3 (by simp)).mono ?_
 rintro e w4 ⟨rfl, hI⟩
 dsimp only
 repeat' (first | go_skip | go_guarded | go_step)
 refine (done_w W0 w _ g gi l _ hc hI hl).mono ?_
 rintro e wf ⟨rfl, hF⟩
 dsimp only
 repeat' ((fail_if_success at_builtin); first | go_skip | go_guarded | go_step)
 go_end0
 exact ⟨rfl, hF⟩
theorem timing_wc : WriteC 84 Cod.timing := by
 intro W0 w g pb po l f cs hc hp ha hr hs hl
 obtain ⟨fs, rfl, hr⟩ := hr
 obtain ⟨f1, r1, k1, d1, rfl, rfl, q1, hr⟩ := hr
 obtain ⟨f2, r2, k2, d2, rfl, rfl, q2, hr⟩ := hr
 obtain ⟨rfl, rfl⟩ := hr
 have n1 : k1.length = 1 := Cod.str_ok.len q1
 have a1 := ha.left
 replace ha := ha.right (k := po + 1) (by rw [n1])
 have n2 : k2.length = 1 := Cod.int_ok.len q2
 have a2 := ha.left
 clear ha n1 n2
 rw [fsz_fL] at hs
 have s1 : fsz f1 ≤ 1000000000 := by have := fsz_mem (l := [f1, f2]) (f := f1) (by simp); omega
 have s2 : fsz f2 ≤ 1000000000 := by have := fsz_mem (l := [f1, f2]) (f := f2) (by simp); omega
 go_enter Tryz.func84, Tryz.ntmps84
 repeat' (first | go_skip | go_guarded | go_step)
 refine (inner_w W0 w g l hc).mono ?_
 rintro e w1 ⟨gi, rfl, hI⟩
 dsimp only
 repeat' (first | go_skip | go_guarded | go_step)
 refine (str_wc.at_ Cod.str_ok hI hc.bel (Below.refl _ _) hp a1 q1 s1 (by simp)).mono ?_
 rintro e w2 ⟨rfl, hI⟩
 dsimp only
 repeat' (first | go_skip | go_guarded | go_step)
 refine (int_wc.at_ Cod.int_ok hI hc.bel (Below.refl _ _) hp a2 q2 s2 (by simp)).mono ?_
 rintro e w3 ⟨rfl, hI⟩
 dsimp only
 repeat' (first | go_skip | go_guarded | go_step)
 refine (done_w W0 w _ g gi l _ hc hI hl).mono ?_
 rintro e wf ⟨rfl, hF⟩
 dsimp only
 repeat' ((fail_if_success at_builtin); first | go_skip | go_guarded | go_step)
 go_end0
 exact ⟨rfl, hF⟩
theorem event2_wc : WriteC 83 Cod.timing := by
 intro W0 w g pb po l f cs hc hp ha hr hs hl
 go_enter Tryz.func83, Tryz.ntmps83
 repeat' (first | go_skip | go_guarded | go_step)
 refine (timing_wc W0 w g pb po l f cs hc hp ha hr hs hl).mono ?_
 rintro e w1 ⟨rfl, hF⟩
 dsimp only
 repeat' ((fail_if_success at_builtin); first | go_skip | go_guarded | go_step)
 go_end0
 exact ⟨rfl, hF⟩
theorem ltim_w (C : Cod) (hC : C.Ok) (hk : C.sz = 2) (hcode : WriteC 83 C) : WriteL 82 (.func (.func 83) #[] #[]) (Cod.list C) := by
 intro W0 w g pb po l f cs hc hp ha hr hs hl
 obtain ⟨m, A, c, rfl, rfl, hR⟩ := hr
 have c0 := ha 0 _ rfl
 rw [Nat.add_zero] at c0
 rw [fsz_fL] at hs
 have hm := lsz_length m
 have hpw := Nat.lt_of_lt_of_le hp hc.bel.size
 clear ha
 go_enter Tryz.func82, Tryz.ntmps82
 repeat' (first | go_skip | go_guarded | go_step)
 refine (inner_w W0 w g l hc).mono ?_
 rintro e w1 ⟨gi, rfl, hI⟩
 dsimp only
 have c1 := (hc.below hI.bel).c1
 have c0' := (hI.bel.cell (p := ⟨pb, po, none⟩) hpw).trans c0
 replace hcode := Lib.hid hcode
 replace hR := Lib.hid hR
 repeat' (first | go_skip | go_guarded | go_step)
 go_loopw [51] (fun u51 wr => ∃ i : Nat, i ≤ m.length ∧ u51 = .int .i64 (i : Int) ∧ CW w wr gi (m.take i)) (fun u51 _ => m.length - (intOf u51).toNat)
 case atStart => exact ⟨0, Nat.zero_le _, rfl, hI⟩
 case round =>
  clear c0' c1 hI
  obtain ⟨i, hi, rfl, hI⟩ := hrel
  have c0' := (hI.bel.cell (p := ⟨pb, po, none⟩) hpw).trans c0
  by_cases hlt : i < m.length
  ·obtain ⟨x, hx⟩ : ∃ x, m[i]? = some x := ⟨_, List.getElem?_eq_getElem hlt⟩
   obtain ⟨b, o, k1, rfl, hb, hkl, hrx, hat⟩ := hR.out.at_ hx
   rw [hk] at hat
   have f1 : (0 : Int) ≤ (i : Int) := by omega
   have f2 : (i : Int) < (m.length : Int) := by omega
   have hsx : fsz x ≤ 1000000000 := by have := fsz_mem (List.mem_of_getElem? hx); omega
   repeat' (first | go_skip | go_guarded | go_step)
   refine (hcode.out.at_ hC hI hc.bel (Below.refl _ _) hb hat hrx hsx (by rw [List.length_take]; omega)).mono ?_
   rintro e w2 ⟨rfl, hI2⟩
   dsimp only
   clear hI
   have f3 : IntKind.i64.wrap ((i : Int) + 1) = (i : Int) + 1 := IntWalk.i64_in _ (by omega)
   repeat' (first | go_skip | go_guarded | go_step)
   go_roundw
   case rel =>
    refine ⟨i + 1, by omega, by congr 1, ?_⟩
    rw [List.take_add_one, hx]
    exact hI2
   case measure => simp [intOf]; omega
  ·obtain rfl : i = m.length := by omega
   rw [List.take_length] at hI
   repeat' (first | go_skip | go_guarded | go_step)
   refine (done_w W0 w wr g gi l m hc hI hl).mono ?_
   rintro e w2 ⟨rfl, hF⟩
   dsimp only
   repeat' ((fail_if_success at_builtin); first | go_skip | go_guarded | go_step)
   go_end0
   exact ⟨rfl, hF⟩
theorem output_wc : WriteC 141 Cod.output := by
 intro W0 w g pb po l f cs hc hp ha hr hs hl
 obtain ⟨fs, rfl, hr⟩ := hr
 obtain ⟨f1, r1, k1, d1, rfl, rfl, q1, hr⟩ := hr
 obtain ⟨f2, r2, k2, d2, rfl, rfl, q2, hr⟩ := hr
 obtain ⟨f3, r3, k3, d3, rfl, rfl, q3, hr⟩ := hr
 obtain ⟨rfl, rfl⟩ := hr
 have n1 : k1.length = 1 := Cod.str_ok.len q1
 have a1 := ha.left
 replace ha := ha.right (k := po + 1) (by rw [n1])
 have n2 : k2.length = 1 := Cod.dig_ok.len q2
 have a2 := ha.left
 replace ha := ha.right (k := po + 2) (by rw [n2])
 have n3 : k3.length = 1 := Cod.int_ok.len q3
 have a3 := ha.left
 clear ha n1 n2 n3
 rw [fsz_fL] at hs
 have s1 : fsz f1 ≤ 1000000000 := by have := fsz_mem (l := [f1, f2, f3]) (f := f1) (by simp); omega
 have s2 : fsz f2 ≤ 1000000000 := by have := fsz_mem (l := [f1, f2, f3]) (f := f2) (by simp); omega
 have s3 : fsz f3 ≤ 1000000000 := by have := fsz_mem (l := [f1, f2, f3]) (f := f3) (by simp); omega
 go_enter Tryz.func141, Tryz.ntmps141
 repeat' (first | go_skip | go_guarded | go_step)
 refine (inner_w W0 w g l hc).mono ?_
 rintro e w1 ⟨gi, rfl, hI⟩
 dsimp only
 repeat' (first | go_skip | go_guarded | go_step)
 refine (str_wc.at_ Cod.str_ok hI hc.bel (Below.refl _ _) hp a1 q1 s1 (by simp)).mono ?_
 rintro e w2 ⟨rfl, hI⟩
 dsimp only
 repeat' (first | go_skip | go_guarded | go_step)
 refine (dig_wc.at_ Cod.dig_ok hI hc.bel (Below.refl _ _) hp a2 q2 s2 (by simp)).mono ?_
 rintro e w3 ⟨rfl, hI⟩
 dsimp only
 repeat' (first | go_skip | go_guarded | go_step)
 refine (int_wc.at_ Cod.int_ok hI hc.bel (Below.refl _ _) hp a3 q3 s3 (by simp)).mono ?_
 rintro e w4 ⟨rfl, hI⟩
 dsimp only
 repeat' (first | go_skip | go_guarded | go_step)
 refine (done_w W0 w _ g gi l _ hc hI hl).mono ?_
 rintro e wf ⟨rfl, hF⟩
 dsimp only
 repeat' ((fail_if_success at_builtin); first | go_skip | go_guarded | go_step)
 go_end0
 exact ⟨rfl, hF⟩
theorem outputs1_wc : WriteC 140 Cod.output := by
 intro W0 w g pb po l f cs hc hp ha hr hs hl
 go_enter Tryz.func140, Tryz.ntmps140
 repeat' (first | go_skip | go_guarded | go_step)
 refine (output_wc W0 w g pb po l f cs hc hp ha hr hs hl).mono ?_
 rintro e w1 ⟨rfl, hF⟩
 dsimp only
 repeat' ((fail_if_success at_builtin); first | go_skip | go_guarded | go_step)
 go_end0
 exact ⟨rfl, hF⟩
theorem lout_w (C : Cod) (hC : C.Ok) (hk : C.sz = 3) (hcode : WriteC 140 C) : WriteL 139 (.func (.func 140) #[] #[]) (Cod.list C) := by
 intro W0 w g pb po l f cs hc hp ha hr hs hl
 obtain ⟨m, A, c, rfl, rfl, hR⟩ := hr
 have c0 := ha 0 _ rfl
 rw [Nat.add_zero] at c0
 rw [fsz_fL] at hs
 have hm := lsz_length m
 have hpw := Nat.lt_of_lt_of_le hp hc.bel.size
 clear ha
 go_enter Tryz.func139, Tryz.ntmps139
 repeat' (first | go_skip | go_guarded | go_step)
 refine (inner_w W0 w g l hc).mono ?_
 rintro e w1 ⟨gi, rfl, hI⟩
 dsimp only
 have c1 := (hc.below hI.bel).c1
 have c0' := (hI.bel.cell (p := ⟨pb, po, none⟩) hpw).trans c0
 replace hcode := Lib.hid hcode
 replace hR := Lib.hid hR
 repeat' (first | go_skip | go_guarded | go_step)
 go_loopw [51] (fun u51 wr => ∃ i : Nat, i ≤ m.length ∧ u51 = .int .i64 (i : Int) ∧ CW w wr gi (m.take i)) (fun u51 _ => m.length - (intOf u51).toNat)
 case atStart => exact ⟨0, Nat.zero_le _, rfl, hI⟩
 case round =>
  clear c0' c1 hI
  obtain ⟨i, hi, rfl, hI⟩ := hrel
  have c0' := (hI.bel.cell (p := ⟨pb, po, none⟩) hpw).trans c0
  by_cases hlt : i < m.length
  ·obtain ⟨x, hx⟩ : ∃ x, m[i]? = some x := ⟨_, List.getElem?_eq_getElem hlt⟩
   obtain ⟨b, o, k1, rfl, hb, hkl, hrx, hat⟩ := hR.out.at_ hx
   rw [hk] at hat
   have f1 : (0 : Int) ≤ (i : Int) := by omega
   have f2 : (i : Int) < (m.length : Int) := by omega
   have hsx : fsz x ≤ 1000000000 := by have := fsz_mem (List.mem_of_getElem? hx); omega
   repeat' (first | go_skip | go_guarded | go_step)
   refine (hcode.out.at_ hC hI hc.bel (Below.refl _ _) hb hat hrx hsx (by rw [List.length_take]; omega)).mono ?_
   rintro e w2 ⟨rfl, hI2⟩
   dsimp only
   clear hI
   have f3 : IntKind.i64.wrap ((i : Int) + 1) = (i : Int) + 1 := IntWalk.i64_in _ (by omega)
   repeat' (first | go_skip | go_guarded | go_step)
   go_roundw
   case rel =>
    refine ⟨i + 1, by omega, by congr 1, ?_⟩
    rw [List.take_add_one, hx]
    exact hI2
   case measure => simp [intOf]; omega
  ·obtain rfl : i = m.length := by omega
   rw [List.take_length] at hI
   repeat' (first | go_skip | go_guarded | go_step)
   refine (done_w W0 w wr g gi l m hc hI hl).mono ?_
   rintro e w2 ⟨rfl, hF⟩
   dsimp only
   repeat' ((fail_if_success at_builtin); first | go_skip | go_guarded | go_step)
   go_end0
   exact ⟨rfl, hF⟩
theorem outputs_wc : WriteC 123 (Cod.list Cod.output) := by
 intro W0 w g pb po l f cs hc hp ha hr hs hl
 go_enter Tryz.func123, Tryz.ntmps123
 repeat' (first | go_skip | go_guarded | go_step)
 refine (lout_w Cod.output Cod.output_ok rfl outputs1_wc W0 w g pb po l f cs hc hp ha hr hs hl).mono ?_
 rintro e w1 ⟨rfl, hF⟩
 dsimp only
 repeat' ((fail_if_success at_builtin); first | go_skip | go_guarded | go_step)
 go_end0
 exact ⟨rfl, hF⟩
theorem test_wc : WriteC 126 Cod.test := by
 intro W0 w g pb po l f cs hc hp ha hr hs hl
 obtain ⟨fs, rfl, hr⟩ := hr
 obtain ⟨f1, r1, k1, d1, rfl, rfl, q1, hr⟩ := hr
 obtain ⟨f2, r2, k2, d2, rfl, rfl, q2, hr⟩ := hr
 obtain ⟨f3, r3, k3, d3, rfl, rfl, q3, hr⟩ := hr
 obtain ⟨rfl, rfl⟩ := hr
 have n1 : k1.length = 1 := Cod.str_ok.len q1
 have a1 := ha.left
 replace ha := ha.right (k := po + 1) (by rw [n1])
 have n2 : k2.length = 1 := Cod.int_ok.len q2
 have a2 := ha.left
 replace ha := ha.right (k := po + 2) (by rw [n2])
 have n3 : k3.length = 1 := Cod.int_ok.len q3
 have a3 := ha.left
 clear ha n1 n2 n3
 rw [fsz_fL] at hs
 have s1 : fsz f1 ≤ 1000000000 := by have := fsz_mem (l := [f1, f2, f3]) (f := f1) (by simp); omega
 have s2 : fsz f2 ≤ 1000000000 := by have := fsz_mem (l := [f1, f2, f3]) (f := f2) (by simp); omega
 have s3 : fsz f3 ≤ 1000000000 := by have := fsz_mem (l := [f1, f2, f3]) (f := f3) (by simp); omega
 go_enter Tryz.func126, Tryz.ntmps126
 repeat' (first | go_skip | go_guarded | go_step)
 refine (inner_w W0 w g l hc).mono ?_
 rintro e w1 ⟨gi, rfl, hI⟩
 dsimp only
 repeat' (first | go_skip | go_guarded | go_step)
 refine (str_wc.at_ Cod.str_ok hI hc.bel (Below.refl _ _) hp a1 q1 s1 (by simp)).mono ?_
 rintro e w2 ⟨rfl, hI⟩
 dsimp only
 repeat' (first | go_skip | go_guarded | go_step)
 refine (int_wc.at_ Cod.int_ok hI hc.bel (Below.refl _ _) hp a2 q2 s2 (by simp)).mono ?_
 rintro e w3 ⟨rfl, hI⟩
 dsimp only
 repeat' (first | go_skip | go_guarded | go_step)
 refine (int_wc.at_ Cod.int_ok hI hc.bel (Below.refl _ _) hp a3 q3 s3 (by simp)).mono ?_
 rintro e w4 ⟨rfl, hI⟩
 dsimp only
 repeat' (first | go_skip | go_guarded | go_step)
 refine (done_w W0 w _ g gi l _ hc hI hl).mono ?_
 rintro e wf ⟨rfl, hF⟩
 dsimp only
 repeat' ((fail_if_success at_builtin); first | go_skip | go_guarded | go_step)
 go_end0
 exact ⟨rfl, hF⟩
theorem result1_wc : WriteC 125 Cod.test := by
 intro W0 w g pb po l f cs hc hp ha hr hs hl
 go_enter Tryz.func125, Tryz.ntmps125
 repeat' (first | go_skip | go_guarded | go_step)
 refine (test_wc W0 w g pb po l f cs hc hp ha hr hs hl).mono ?_
 rintro e w1 ⟨rfl, hF⟩
 dsimp only
 repeat' ((fail_if_success at_builtin); first | go_skip | go_guarded | go_step)
 go_end0
 exact ⟨rfl, hF⟩
theorem ltest_w (C : Cod) (hC : C.Ok) (hk : C.sz = 3) (hcode : WriteC 125 C) : WriteL 124 (.func (.func 125) #[] #[]) (Cod.list C) := by
 intro W0 w g pb po l f cs hc hp ha hr hs hl
 obtain ⟨m, A, c, rfl, rfl, hR⟩ := hr
 have c0 := ha 0 _ rfl
 rw [Nat.add_zero] at c0
 rw [fsz_fL] at hs
 have hm := lsz_length m
 have hpw := Nat.lt_of_lt_of_le hp hc.bel.size
 clear ha
 go_enter Tryz.func124, Tryz.ntmps124
 repeat' (first | go_skip | go_guarded | go_step)
 refine (inner_w W0 w g l hc).mono ?_
 rintro e w1 ⟨gi, rfl, hI⟩
 dsimp only
 have c1 := (hc.below hI.bel).c1
 have c0' := (hI.bel.cell (p := ⟨pb, po, none⟩) hpw).trans c0
 replace hcode := Lib.hid hcode
 replace hR := Lib.hid hR
 repeat' (first | go_skip | go_guarded | go_step)
 go_loopw [51] (fun u51 wr => ∃ i : Nat, i ≤ m.length ∧ u51 = .int .i64 (i : Int) ∧ CW w wr gi (m.take i)) (fun u51 _ => m.length - (intOf u51).toNat)
 case atStart => exact ⟨0, Nat.zero_le _, rfl, hI⟩
 case round =>
  clear c0' c1 hI
  obtain ⟨i, hi, rfl, hI⟩ := hrel
  have c0' := (hI.bel.cell (p := ⟨pb, po, none⟩) hpw).trans c0
  by_cases hlt : i < m.length
  ·obtain ⟨x, hx⟩ : ∃ x, m[i]? = some x := ⟨_, List.getElem?_eq_getElem hlt⟩
   obtain ⟨b, o, k1, rfl, hb, hkl, hrx, hat⟩ := hR.out.at_ hx
   rw [hk] at hat
   have f1 : (0 : Int) ≤ (i : Int) := by omega
   have f2 : (i : Int) < (m.length : Int) := by omega
   have hsx : fsz x ≤ 1000000000 := by have := fsz_mem (List.mem_of_getElem? hx); omega
   repeat' (first | go_skip | go_guarded | go_step)
   refine (hcode.out.at_ hC hI hc.bel (Below.refl _ _) hb hat hrx hsx (by rw [List.length_take]; omega)).mono ?_
   rintro e w2 ⟨rfl, hI2⟩
   dsimp only
   clear hI
   have f3 : IntKind.i64.wrap ((i : Int) + 1) = (i : Int) + 1 := IntWalk.i64_in _ (by omega)
   repeat' (first | go_skip | go_guarded | go_step)
   go_roundw
   case rel =>
    refine ⟨i + 1, by omega, by congr 1, ?_⟩
    rw [List.take_add_one, hx]
    exact hI2
   case measure => simp [intOf]; omega
  ·obtain rfl : i = m.length := by omega
   rw [List.take_length] at hI
   repeat' (first | go_skip | go_guarded | go_step)
   refine (done_w W0 w wr g gi l m hc hI hl).mono ?_
   rintro e w2 ⟨rfl, hF⟩
   dsimp only
   repeat' ((fail_if_success at_builtin); first | go_skip | go_guarded | go_step)
   go_end0
   exact ⟨rfl, hF⟩
theorem result_wc : WriteC 85 Cod.result := by
 intro W0 w g pb po l f cs hc hp ha hr hs hl
 obtain ⟨fs, rfl, hr⟩ := hr
 obtain ⟨f1, r1, k1, d1, rfl, rfl, q1, hr⟩ := hr
 obtain ⟨f2, r2, k2, d2, rfl, rfl, q2, hr⟩ := hr
 obtain ⟨f3, r3, k3, d3, rfl, rfl, q3, hr⟩ := hr
 obtain ⟨f4, r4, k4, d4, rfl, rfl, q4, hr⟩ := hr
 obtain ⟨f5, r5, k5, d5, rfl, rfl, q5, hr⟩ := hr
 obtain ⟨f6, r6, k6, d6, rfl, rfl, q6, hr⟩ := hr
 obtain ⟨rfl, rfl⟩ := hr
 have n1 : k1.length = 1 := Cod.int_ok.len q1
 have a1 := ha.left
 replace ha := ha.right (k := po + 1) (by rw [n1])
 have n2 : k2.length = 1 := Cod.int_ok.len q2
 have a2 := ha.left
 replace ha := ha.right (k := po + 2) (by rw [n2])
 have n3 : k3.length = 1 := (Cod.list_ok Cod.output_ok).len q3
 have a3 := ha.left
 replace ha := ha.right (k := po + 3) (by rw [n3])
 have n4 : k4.length = 1 := (Cod.list_ok Cod.output_ok).len q4
 have a4 := ha.left
 replace ha := ha.right (k := po + 4) (by rw [n4])
 have n5 : k5.length = 1 := (Cod.list_ok Cod.test_ok).len q5
 have a5 := ha.left
 replace ha := ha.right (k := po + 5) (by rw [n5])
 have n6 : k6.length = 1 := Cod.str_ok.len q6
 have a6 := ha.left
 clear ha n1 n2 n3 n4 n5 n6
 rw [fsz_fL] at hs
 have s1 : fsz f1 ≤ 1000000000 := by have := fsz_mem (l := [f1, f2, f3, f4, f5, f6]) (f := f1) (by simp); omega
 have s2 : fsz f2 ≤ 1000000000 := by have := fsz_mem (l := [f1, f2, f3, f4, f5, f6]) (f := f2) (by simp); omega
 have s3 : fsz f3 ≤ 1000000000 := by have := fsz_mem (l := [f1, f2, f3, f4, f5, f6]) (f := f3) (by simp); omega
 have s4 : fsz f4 ≤ 1000000000 := by have := fsz_mem (l := [f1, f2, f3, f4, f5, f6]) (f := f4) (by simp); omega
 have s5 : fsz f5 ≤ 1000000000 := by have := fsz_mem (l := [f1, f2, f3, f4, f5, f6]) (f := f5) (by simp); omega
 have s6 : fsz f6 ≤ 1000000000 := by have := fsz_mem (l := [f1, f2, f3, f4, f5, f6]) (f := f6) (by simp); omega
 go_enter Tryz.func85, Tryz.ntmps85
 repeat' (first | go_skip | go_guarded | go_step)
 refine (inner_w W0 w g l hc).mono ?_
 rintro e w1 ⟨gi, rfl, hI⟩
 dsimp only
 repeat' (first | go_skip | go_guarded | go_step)
 refine (int_wc.at_ Cod.int_ok hI hc.bel (Below.refl _ _) hp a1 q1 s1 (by simp)).mono ?_
 rintro e w2 ⟨rfl, hI⟩
 dsimp only
 repeat' (first | go_skip | go_guarded | go_step)
 refine (int_wc.at_ Cod.int_ok hI hc.bel (Below.refl _ _) hp a2 q2 s2 (by simp)).mono ?_
 rintro e w3 ⟨rfl, hI⟩
 dsimp only
 repeat' (first | go_skip | go_guarded | go_step)
 refine (outputs_wc.at_ (Cod.list_ok Cod.output_ok) hI hc.bel (Below.refl _ _) hp a3 q3 s3 (by simp)).mono ?_
 rintro e w4 ⟨rfl, hI⟩
 dsimp only
 repeat' (first | go_skip | go_guarded | go_step)
 refine (outputs_wc.at_ (Cod.list_ok Cod.output_ok) hI hc.bel (Below.refl _ _) hp a4 q4 s4 (by simp)).mono ?_
 rintro e w5 ⟨rfl, hI⟩
 dsimp only
 repeat' (first | go_skip | go_guarded | go_step)
 refine ((ltest_w Cod.test Cod.test_ok rfl result1_wc).at_ (Cod.list_ok Cod.test_ok) hI hc.bel (Below.refl _ _) hp a5 q5 s5 (by simp)).mono ?_
 rintro e w6 ⟨rfl, hI⟩
 dsimp only
 repeat' (first | go_skip | go_guarded | go_step)
 refine (str_wc.at_ Cod.str_ok hI hc.bel (Below.refl _ _) hp a6 q6 s6 (by simp)).mono ?_
 rintro e w7 ⟨rfl, hI⟩
 dsimp only
 repeat' (first | go_skip | go_guarded | go_step)
 refine (done_w W0 w _ g gi l _ hc hI hl).mono ?_
 rintro e wf ⟨rfl, hF⟩
 dsimp only
 repeat' ((fail_if_success at_builtin); first | go_skip | go_guarded | go_step)
 go_end0
 exact ⟨rfl, hF⟩
theorem value1_wc (C : Cod) (ih : WriteC 122 C) : WriteC 138 C := by
 intro W0 w g pb po l f cs hc hp ha hr hs hl
 go_enter Tryz.func138, Tryz.ntmps138
 repeat' (first | go_skip | go_guarded | go_step)
 refine (ih W0 w g pb po l f cs hc hp ha hr hs hl).mono ?_
 rintro e w1 ⟨rfl, hF⟩
 dsimp only
 repeat' ((fail_if_success at_builtin); first | go_skip | go_guarded | go_step)
 go_end0
 exact ⟨rfl, hF⟩
theorem lval_w (C : Cod) (hC : C.Ok) (hk : C.sz = 6) (hcode : WriteC 138 C) : WriteL 137 (.func (.func 138) #[] #[]) (Cod.list C) := by
 intro W0 w g pb po l f cs hc hp ha hr hs hl
 obtain ⟨m, A, c, rfl, rfl, hR⟩ := hr
 have c0 := ha 0 _ rfl
 rw [Nat.add_zero] at c0
 rw [fsz_fL] at hs
 have hm := lsz_length m
 have hpw := Nat.lt_of_lt_of_le hp hc.bel.size
 clear ha
 go_enter Tryz.func137, Tryz.ntmps137
 repeat' (first | go_skip | go_guarded | go_step)
 refine (inner_w W0 w g l hc).mono ?_
 rintro e w1 ⟨gi, rfl, hI⟩
 dsimp only
 have c1 := (hc.below hI.bel).c1
 have c0' := (hI.bel.cell (p := ⟨pb, po, none⟩) hpw).trans c0
 replace hcode := Lib.hid hcode
 replace hR := Lib.hid hR
 repeat' (first | go_skip | go_guarded | go_step)
 go_loopw [62] (fun u62 wr => ∃ i : Nat, i ≤ m.length ∧ u62 = .int .i64 (i : Int) ∧ CW w wr gi (m.take i)) (fun u62 _ => m.length - (intOf u62).toNat)
 case atStart => exact ⟨0, Nat.zero_le _, rfl, hI⟩
 case round =>
  clear c0' c1 hI
  obtain ⟨i, hi, rfl, hI⟩ := hrel
  have c0' := (hI.bel.cell (p := ⟨pb, po, none⟩) hpw).trans c0
  by_cases hlt : i < m.length
  ·obtain ⟨x, hx⟩ : ∃ x, m[i]? = some x := ⟨_, List.getElem?_eq_getElem hlt⟩
   obtain ⟨b, o, k1, rfl, hb, hkl, hrx, hat⟩ := hR.out.at_ hx
   rw [hk] at hat
   have f1 : (0 : Int) ≤ (i : Int) := by omega
   have f2 : (i : Int) < (m.length : Int) := by omega
   have hsx : fsz x ≤ 1000000000 := by have := fsz_mem (List.mem_of_getElem? hx); omega
   repeat' (first | go_skip | go_guarded | go_step)
   refine (hcode.out.at_ hC hI hc.bel (Below.refl _ _) hb hat hrx hsx (by rw [List.length_take]; omega)).mono ?_
   rintro e w2 ⟨rfl, hI2⟩
   dsimp only
   clear hI
   have f3 : IntKind.i64.wrap ((i : Int) + 1) = (i : Int) + 1 := IntWalk.i64_in _ (by omega)
   repeat' (first | go_skip | go_guarded | go_step)
   go_roundw
   case rel =>
    refine ⟨i + 1, by omega, by congr 1, ?_⟩
    rw [List.take_add_one, hx]
    exact hI2
   case measure => simp [intOf]; omega
  ·obtain rfl : i = m.length := by omega
   rw [List.take_length] at hI
   repeat' (first | go_skip | go_guarded | go_step)
   refine (done_w W0 w wr g gi l m hc hI hl).mono ?_
   rintro e w2 ⟨rfl, hF⟩
   dsimp only
   repeat' ((fail_if_success at_builtin); first | go_skip | go_guarded | go_step)
   go_end0
   exact ⟨rfl, hF⟩
theorem value_wn (n : Nat) (ih : WriteC 122 (Cod.val n)) : WriteC 122 (Cod.val (n + 1)) := by
 intro W0 w g pb po l f cs hc hp ha hr hs hl
 obtain ⟨fs, rfl, hr⟩ := hr
 obtain ⟨f1, r1, k1, d1, rfl, rfl, q1, hr⟩ := hr
 obtain ⟨f2, r2, k2, d2, rfl, rfl, q2, hr⟩ := hr
 obtain ⟨f3, r3, k3, d3, rfl, rfl, q3, hr⟩ := hr
 obtain ⟨f4, r4, k4, d4, rfl, rfl, q4, hr⟩ := hr
 obtain ⟨f5, r5, k5, d5, rfl, rfl, q5, hr⟩ := hr
 obtain ⟨f6, r6, k6, d6, rfl, rfl, q6, hr⟩ := hr
 obtain ⟨rfl, rfl⟩ := hr
 have n1 : k1.length = 1 := Cod.int_ok.len q1
 have a1 := ha.left
 replace ha := ha.right (k := po + 1) (by rw [n1])
 have n2 : k2.length = 1 := Cod.flag_ok.len q2
 have a2 := ha.left
 replace ha := ha.right (k := po + 2) (by rw [n2])
 have n3 : k3.length = 1 := Cod.int_ok.len q3
 have a3 := ha.left
 replace ha := ha.right (k := po + 3) (by rw [n3])
 have n4 : k4.length = 1 := Cod.str_ok.len q4
 have a4 := ha.left
 replace ha := ha.right (k := po + 4) (by rw [n4])
 have n5 : k5.length = 1 := (Cod.list_ok (Cod.val_ok n)).len q5
 have a5 := ha.left
 replace ha := ha.right (k := po + 5) (by rw [n5])
 have n6 : k6.length = 1 := Cod.strs_ok.len q6
 have a6 := ha.left
 clear ha n1 n2 n3 n4 n5 n6
 rw [fsz_fL] at hs
 have s1 : fsz f1 ≤ 1000000000 := by have := fsz_mem (l := [f1, f2, f3, f4, f5, f6]) (f := f1) (by simp); omega
 have s2 : fsz f2 ≤ 1000000000 := by have := fsz_mem (l := [f1, f2, f3, f4, f5, f6]) (f := f2) (by simp); omega
 have s3 : fsz f3 ≤ 1000000000 := by have := fsz_mem (l := [f1, f2, f3, f4, f5, f6]) (f := f3) (by simp); omega
 have s4 : fsz f4 ≤ 1000000000 := by have := fsz_mem (l := [f1, f2, f3, f4, f5, f6]) (f := f4) (by simp); omega
 have s5 : fsz f5 ≤ 1000000000 := by have := fsz_mem (l := [f1, f2, f3, f4, f5, f6]) (f := f5) (by simp); omega
 have s6 : fsz f6 ≤ 1000000000 := by have := fsz_mem (l := [f1, f2, f3, f4, f5, f6]) (f := f6) (by simp); omega
 go_enter Tryz.func122, Tryz.ntmps122
 repeat' (first | go_skip | go_guarded | go_step)
 refine (inner_w W0 w g l hc).mono ?_
 rintro e w1 ⟨gi, rfl, hI⟩
 dsimp only
 repeat' (first | go_skip | go_guarded | go_step)
 refine (int_wc.at_ Cod.int_ok hI hc.bel (Below.refl _ _) hp a1 q1 s1 (by simp)).mono ?_
 rintro e w2 ⟨rfl, hI⟩
 dsimp only
 repeat' (first | go_skip | go_guarded | go_step)
 refine (flag_wc.at_ Cod.flag_ok hI hc.bel (Below.refl _ _) hp a2 q2 s2 (by simp)).mono ?_
 rintro e w3 ⟨rfl, hI⟩
 dsimp only
 repeat' (first | go_skip | go_guarded | go_step)
 refine (int_wc.at_ Cod.int_ok hI hc.bel (Below.refl _ _) hp a3 q3 s3 (by simp)).mono ?_
 rintro e w4 ⟨rfl, hI⟩
 dsimp only
 repeat' (first | go_skip | go_guarded | go_step)
 refine (str_wc.at_ Cod.str_ok hI hc.bel (Below.refl _ _) hp a4 q4 s4 (by simp)).mono ?_
 rintro e w5 ⟨rfl, hI⟩
 dsimp only
 repeat' (first | go_skip | go_guarded | go_step)
 refine ((lval_w (Cod.val n) (Cod.val_ok n) (Cod.val_sz n) (value1_wc _ ih)).at_ (Cod.list_ok (Cod.val_ok n)) hI hc.bel (Below.refl _ _) hp a5 q5 s5 (by simp)).mono ?_
 rintro e w6 ⟨rfl, hI⟩
 dsimp only
 repeat' (first | go_skip | go_guarded | go_step)
 refine (strs_wc.at_ Cod.strs_ok hI hc.bel (Below.refl _ _) hp a6 q6 s6 (by simp)).mono ?_
 rintro e w7 ⟨rfl, hI⟩
 dsimp only
 repeat' (first | go_skip | go_guarded | go_step)
 refine (done_w W0 w _ g gi l _ hc hI hl).mono ?_
 rintro e wf ⟨rfl, hF⟩
 dsimp only
 repeat' ((fail_if_success at_builtin); first | go_skip | go_guarded | go_step)
 go_end0
 exact ⟨rfl, hF⟩
theorem value_all : ∀ n, WriteC 122 (Cod.val n)
 | 0 => fun _ _ _ _ _ _ _ _ _ _ _ hr => hr.elim
 | n + 1 => value_wn n (value_all n)
theorem value_wc : WriteC 122 Cod.value := fun W0 w g pb po l f cs hc hp ha hr hs hl => by
 obtain ⟨n, hr⟩ := hr
 exact value_all n W0 w g pb po l f cs hc hp ha hr hs hl
theorem vari_wc : WriteC 81 Cod.vari := by
 intro W0 w g pb po l f cs hc hp ha hr hs hl
 obtain ⟨fs, rfl, hr⟩ := hr
 obtain ⟨f1, r1, k1, d1, rfl, rfl, q1, hr⟩ := hr
 obtain ⟨f2, r2, k2, d2, rfl, rfl, q2, hr⟩ := hr
 obtain ⟨rfl, rfl⟩ := hr
 have n1 : k1.length = 1 := Cod.str_ok.len q1
 have a1 := ha.left
 replace ha := ha.right (k := po + 1) (by rw [n1])
 have n2 : k2.length = 6 := Cod.value_ok.len q2
 have a2 := ha.left
 clear ha n1 n2
 rw [fsz_fL] at hs
 have s1 : fsz f1 ≤ 1000000000 := by have := fsz_mem (l := [f1, f2]) (f := f1) (by simp); omega
 have s2 : fsz f2 ≤ 1000000000 := by have := fsz_mem (l := [f1, f2]) (f := f2) (by simp); omega
 go_enter Tryz.func81, Tryz.ntmps81
 repeat' (first | go_skip | go_guarded | go_step)
 refine (inner_w W0 w g l hc).mono ?_
 rintro e w1 ⟨gi, rfl, hI⟩
 dsimp only
 repeat' (first | go_skip | go_guarded | go_step)
 refine (str_wc.at_ Cod.str_ok hI hc.bel (Below.refl _ _) hp a1 q1 s1 (by simp)).mono ?_
 rintro e w2 ⟨rfl, hI⟩
 dsimp only
 repeat' (first | go_skip | go_guarded | go_step)
 refine (value_wc.at_ Cod.value_ok hI hc.bel (Below.refl _ _) hp a2 q2 s2 (by simp)).mono ?_
 rintro e w3 ⟨rfl, hI⟩
 dsimp only
 repeat' (first | go_skip | go_guarded | go_step)
 refine (done_w W0 w _ g gi l _ hc hI hl).mono ?_
 rintro e wf ⟨rfl, hF⟩
 dsimp only
 repeat' ((fail_if_success at_builtin); first | go_skip | go_guarded | go_step)
 go_end0
 exact ⟨rfl, hF⟩
theorem event1_wc : WriteC 80 Cod.vari := by
 intro W0 w g pb po l f cs hc hp ha hr hs hl
 go_enter Tryz.func80, Tryz.ntmps80
 repeat' (first | go_skip | go_guarded | go_step)
 refine (vari_wc W0 w g pb po l f cs hc hp ha hr hs hl).mono ?_
 rintro e w1 ⟨rfl, hF⟩
 dsimp only
 repeat' ((fail_if_success at_builtin); first | go_skip | go_guarded | go_step)
 go_end0
 exact ⟨rfl, hF⟩
theorem lvar_w (C : Cod) (hC : C.Ok) (hk : C.sz = 7) (hcode : WriteC 80 C) : WriteL 79 (.func (.func 80) #[] #[]) (Cod.list C) := by
 intro W0 w g pb po l f cs hc hp ha hr hs hl
 obtain ⟨m, A, c, rfl, rfl, hR⟩ := hr
 have c0 := ha 0 _ rfl
 rw [Nat.add_zero] at c0
 rw [fsz_fL] at hs
 have hm := lsz_length m
 have hpw := Nat.lt_of_lt_of_le hp hc.bel.size
 clear ha
 go_enter Tryz.func79, Tryz.ntmps79
 repeat' (first | go_skip | go_guarded | go_step)
 refine (inner_w W0 w g l hc).mono ?_
 rintro e w1 ⟨gi, rfl, hI⟩
 dsimp only
 have c1 := (hc.below hI.bel).c1
 have c0' := (hI.bel.cell (p := ⟨pb, po, none⟩) hpw).trans c0
 replace hcode := Lib.hid hcode
 replace hR := Lib.hid hR
 repeat' (first | go_skip | go_guarded | go_step)
 go_loopw [51] (fun u51 wr => ∃ i : Nat, i ≤ m.length ∧ u51 = .int .i64 (i : Int) ∧ CW w wr gi (m.take i)) (fun u51 _ => m.length - (intOf u51).toNat)
 case atStart => exact ⟨0, Nat.zero_le _, rfl, hI⟩
 case round =>
  clear c0' c1 hI
  obtain ⟨i, hi, rfl, hI⟩ := hrel
  have c0' := (hI.bel.cell (p := ⟨pb, po, none⟩) hpw).trans c0
  by_cases hlt : i < m.length
  ·obtain ⟨x, hx⟩ : ∃ x, m[i]? = some x := ⟨_, List.getElem?_eq_getElem hlt⟩
   obtain ⟨b, o, k1, rfl, hb, hkl, hrx, hat⟩ := hR.out.at_ hx
   rw [hk] at hat
   have f1 : (0 : Int) ≤ (i : Int) := by omega
   have f2 : (i : Int) < (m.length : Int) := by omega
   have hsx : fsz x ≤ 1000000000 := by have := fsz_mem (List.mem_of_getElem? hx); omega
   repeat' (first | go_skip | go_guarded | go_step)
   refine (hcode.out.at_ hC hI hc.bel (Below.refl _ _) hb hat hrx hsx (by rw [List.length_take]; omega)).mono ?_
   rintro e w2 ⟨rfl, hI2⟩
   dsimp only
   clear hI
   have f3 : IntKind.i64.wrap ((i : Int) + 1) = (i : Int) + 1 := IntWalk.i64_in _ (by omega)
   repeat' (first | go_skip | go_guarded | go_step)
   go_roundw
   case rel =>
    refine ⟨i + 1, by omega, by congr 1, ?_⟩
    rw [List.take_add_one, hx]
    exact hI2
   case measure => simp [intOf]; omega
  ·obtain rfl : i = m.length := by omega
   rw [List.take_length] at hI
   repeat' (first | go_skip | go_guarded | go_step)
   refine (done_w W0 w wr g gi l m hc hI hl).mono ?_
   rintro e w2 ⟨rfl, hF⟩
   dsimp only
   repeat' ((fail_if_success at_builtin); first | go_skip | go_guarded | go_step)
   go_end0
   exact ⟨rfl, hF⟩
end Go.Proofs.YtgdapkglofchjaaGreatDoor
