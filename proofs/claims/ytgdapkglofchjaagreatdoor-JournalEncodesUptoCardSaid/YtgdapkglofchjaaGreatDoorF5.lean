/- Joined: JnW4 JnW5 JnW6 JnW7. -/
import Derived.Test.YtgdapkglofchjaaGreatDoorF4
set_option maxRecDepth 100000
set_option maxHeartbeats 4000000
set_option linter.unusedVariables false
namespace Go.Proofs.YtgdapkglofchjaaGreatDoor
open Go.RowKit
def WriteL (F : FuncId) (V : Value) (C : Cod) : Prop := ∀ (W0 w : World) (g pb po : Nat) (l : List FV) (f : FV) (cs : List Value), CW W0 w g l → pb < W0.heap.size → At w pb po cs → C.rp w (fun b => b < W0.heap.size) f cs → fsz f ≤ 1000000000 → l.length ≤ 1000000000 →
 Calls Tryz.prog F #[.pointer (some ⟨g, 0, none⟩), .pointer (some ⟨pb, po, none⟩), V] w fun e w' => e = .returned (.tuple #[]) ∧ CW W0 w' g (l ++ [f])
theorem WriteL.at_ {F : FuncId} {V : Value} {C : Cod} (h : WriteL F V C) (hC : C.Ok) {W0 w0 w w' : World} {g pb po : Nat} {l : List FV} {f : FV} {cs : List Value} (hc : CW w w' g l) (h0 : Below W0.heap.size W0 w0) (hw : Below w0.heap.size w0 w) (hp : pb < W0.heap.size) (ha : At w0 pb po cs) (hr : C.rp w0 (fun b => b < W0.heap.size) f cs) (hs : fsz f ≤ 1000000000) (hl : l.length ≤ 1000000000) :
  Calls Tryz.prog F #[.pointer (some ⟨g, 0, none⟩), .pointer (some ⟨pb, po, none⟩), V] w' fun e w2 => e = .returned (.tuple #[]) ∧ CW w w2 g (l ++ [f]) := by
 have hb : Below w0.heap.size w0 w' := hw.trans (hc.bel.mono hw.size)
 have hp0 := Nat.lt_of_lt_of_le hp h0.size
 exact h w w' g pb po l f cs hc (Nat.lt_of_lt_of_le hp0 hw.size) (ha.below hb hp0) (hC.map _ _ _ _ _ _ (fun p hp => hb.cell (Nat.lt_of_lt_of_le hp h0.size)) (fun b hb => Nat.lt_of_lt_of_le hb (Nat.le_trans h0.size hw.size)) hr) hs hl
theorem same_at {W0 w w' : World} (h : Below W0.heap.size W0 w) (h' : Below W0.heap.size W0 w') {p : Addr} (hp : p.block < W0.heap.size) : w'.cell? p = w.cell? p := (h'.cell hp).trans (h.cell hp).symm
theorem WriteC.at2 {F : FuncId} {C : Cod} (h : WriteC F C) (hC : C.Ok) {W0 w0 w' : World} {g pb po : Nat} {l : List FV} {f : FV} {cs : List Value} (hc : CW W0 w' g l) (h0 : Below W0.heap.size W0 w0) (hp : pb < W0.heap.size) (ha : At w0 pb po cs) (hr : C.rp w0 (fun b => b < W0.heap.size) f cs) (hs : fsz f ≤ 1000000000) (hl : l.length ≤ 1000000000) :
  Calls Tryz.prog F #[.pointer (some ⟨g, 0, none⟩), .pointer (some ⟨pb, po, none⟩)] w' fun e w2 => e = .returned (.tuple #[]) ∧ CW W0 w2 g (l ++ [f]) :=
 h W0 w' g pb po l f cs hc hp (fun j u hu => (same_at h0 hc.bel (p := ⟨pb, po + j, none⟩) hp).trans (ha j u hu)) (hC.map _ _ _ _ _ _ (fun p hp => same_at h0 hc.bel hp) (fun b hb => hb) hr) hs hl
theorem WriteL.at2 {F : FuncId} {V : Value} {C : Cod} (h : WriteL F V C) (hC : C.Ok) {W0 w0 w' : World} {g pb po : Nat} {l : List FV} {f : FV} {cs : List Value} (hc : CW W0 w' g l) (h0 : Below W0.heap.size W0 w0) (hp : pb < W0.heap.size) (ha : At w0 pb po cs) (hr : C.rp w0 (fun b => b < W0.heap.size) f cs) (hs : fsz f ≤ 1000000000) (hl : l.length ≤ 1000000000) :
  Calls Tryz.prog F #[.pointer (some ⟨g, 0, none⟩), .pointer (some ⟨pb, po, none⟩), V] w' fun e w2 => e = .returned (.tuple #[]) ∧ CW W0 w2 g (l ++ [f]) :=
 h W0 w' g pb po l f cs hc hp (fun j u hu => (same_at h0 hc.bel (p := ⟨pb, po + j, none⟩) hp).trans (ha j u hu)) (hC.map _ _ _ _ _ _ (fun p hp => same_at h0 hc.bel hp) (fun b hb => hb) hr) hs hl
theorem strs1_wc : WriteC 143 Cod.str := by
 intro W0 w g pb po l f cs hc hp ha hr hs hl
 go_enter Tryz.func143, Tryz.ntmps143
 repeat' (first | go_skip | go_guarded | go_step)
 refine (str_wc W0 w g pb po l f cs hc hp ha hr hs hl).mono ?_
 rintro e w1 ⟨rfl, hF⟩
 dsimp only
 repeat' ((fail_if_success at_builtin); first | go_skip | go_guarded | go_step)
 go_end0
 exact ⟨rfl, hF⟩
theorem lstr_w (C : Cod) (hC : C.Ok) (hk : C.sz = 1) (hcode : WriteC 143 C) : WriteL 142 (.func (.func 143) #[] #[]) (Cod.list C) := by
 intro W0 w g pb po l f cs hc hp ha hr hs hl
 obtain ⟨m, A, c, rfl, rfl, hR⟩ := hr
 have c0 := ha 0 _ rfl
 rw [Nat.add_zero] at c0
 rw [fsz_fL] at hs
 have hm := lsz_length m
 have hpw := Nat.lt_of_lt_of_le hp hc.bel.size
 clear ha
 go_enter Tryz.func142, Tryz.ntmps142
 repeat' (first | go_skip | go_guarded | go_step)
 refine (inner_w W0 w g l hc).mono ?_
 rintro e w1 ⟨gi, rfl, hI⟩
 dsimp only
 have c1 := (hc.below hI.bel).c1
 have c0' := (hI.bel.cell (p := ⟨pb, po, none⟩) hpw).trans c0
 replace hcode := Lib.hid hcode
 replace hR := Lib.hid hR
 repeat' (first | go_skip | go_guarded | go_step)
 go_loopw [51] (fun u51 wr => ∃ i : Nat, i ≤ m.length ∧ u51 = .int .i64 (i : Int) ∧ CW w wr gi (m.take i)) (fun u51 _ => m.length - (intOf u51).toNat)
 case atStart => exact ⟨0, Nat.zero_le _, rfl, hI⟩
 case round =>
  clear c0' c1 hI
  obtain ⟨i, hi, rfl, hI⟩ := hrel
  have c0' := (hI.bel.cell (p := ⟨pb, po, none⟩) hpw).trans c0
  by_cases hlt : i < m.length
  ·obtain ⟨x, hx⟩ : ∃ x, m[i]? = some x := ⟨_, List.getElem?_eq_getElem hlt⟩
   obtain ⟨b, o, k1, rfl, hb, hkl, hrx, hat⟩ := hR.out.at_ hx
   rw [hk, Nat.mul_one] at hat
   have f1 : (0 : Int) ≤ (i : Int) := by omega
   have f2 : (i : Int) < (m.length : Int) := by omega
   have hsx : fsz x ≤ 1000000000 := by have := fsz_mem (List.mem_of_getElem? hx); omega
   repeat' (first | go_skip | go_guarded | go_step)
   refine (hcode.out.at_ hC hI hc.bel (Below.refl _ _) hb hat hrx hsx (by rw [List.length_take]; omega)).mono ?_
   rintro e w2 ⟨rfl, hI2⟩
   dsimp only
   clear hI
   have f3 : IntKind.i64.wrap ((i : Int) + 1) = (i : Int) + 1 := IntWalk.i64_in _ (by omega)
   repeat' (first | go_skip | go_guarded | go_step)
   go_roundw
   case rel =>
    refine ⟨i + 1, by omega, by congr 1, ?_⟩
    rw [List.take_add_one, hx]
    exact hI2
   case measure => simp [intOf]; omega
  ·obtain rfl : i = m.length := by omega
   rw [List.take_length] at hI
   repeat' (first | go_skip | go_guarded | go_step)
   refine (done_w W0 w wr g gi l m hc hI hl).mono ?_
   rintro e w2 ⟨rfl, hF⟩
   dsimp only
   repeat' ((fail_if_success at_builtin); first | go_skip | go_guarded | go_step)
   go_end0
   exact ⟨rfl, hF⟩
theorem strs_wc : WriteC 127 Cod.strs := by
 intro W0 w g pb po l f cs hc hp ha hr hs hl
 go_enter Tryz.func127, Tryz.ntmps127
 repeat' (first | go_skip | go_guarded | go_step)
 refine (lstr_w Cod.str Cod.str_ok rfl strs1_wc W0 w g pb po l f cs hc hp ha hr hs hl).mono ?_
 rintro e w1 ⟨rfl, hF⟩
 dsimp only
 repeat' ((fail_if_success at_builtin); first | go_skip | go_guarded | go_step)
 go_end0
 exact ⟨rfl, hF⟩
theorem ints1_wc : WriteC 145 Cod.int := by
 intro W0 w g pb po l f cs hc hp ha hr hs hl
 go_enter Tryz.func145, Tryz.ntmps145
 repeat' (first | go_skip | go_guarded | go_step)
 refine (int_wc W0 w g pb po l f cs hc hp ha hr hs hl).mono ?_
 rintro e w1 ⟨rfl, hF⟩
 dsimp only
 repeat' ((fail_if_success at_builtin); first | go_skip | go_guarded | go_step)
 go_end0
 exact ⟨rfl, hF⟩
theorem lint_w (C : Cod) (hC : C.Ok) (hk : C.sz = 1) (hcode : WriteC 145 C) : WriteL 144 (.func (.func 145) #[] #[]) (Cod.list C) := by
 intro W0 w g pb po l f cs hc hp ha hr hs hl
 obtain ⟨m, A, c, rfl, rfl, hR⟩ := hr
 have c0 := ha 0 _ rfl
 rw [Nat.add_zero] at c0
 rw [fsz_fL] at hs
 have hm := lsz_length m
 have hpw := Nat.lt_of_lt_of_le hp hc.bel.size
 clear ha
 go_enter Tryz.func144, Tryz.ntmps144
 repeat' (first | go_skip | go_guarded | go_step)
 refine (inner_w W0 w g l hc).mono ?_
 rintro e w1 ⟨gi, rfl, hI⟩
 dsimp only
 have c1 := (hc.below hI.bel).c1
 have c0' := (hI.bel.cell (p := ⟨pb, po, none⟩) hpw).trans c0
 replace hcode := Lib.hid hcode
 replace hR := Lib.hid hR
 repeat' (first | go_skip | go_guarded | go_step)
 go_loopw [51] (fun u51 wr => ∃ i : Nat, i ≤ m.length ∧ u51 = .int .i64 (i : Int) ∧ CW w wr gi (m.take i)) (fun u51 _ => m.length - (intOf u51).toNat)
 case atStart => exact ⟨0, Nat.zero_le _, rfl, hI⟩
 case round =>
  clear c0' c1 hI
  obtain ⟨i, hi, rfl, hI⟩ := hrel
  have c0' := (hI.bel.cell (p := ⟨pb, po, none⟩) hpw).trans c0
  by_cases hlt : i < m.length
  ·obtain ⟨x, hx⟩ : ∃ x, m[i]? = some x := ⟨_, List.getElem?_eq_getElem hlt⟩
   obtain ⟨b, o, k1, rfl, hb, hkl, hrx, hat⟩ := hR.out.at_ hx
   rw [hk, Nat.mul_one] at hat
   have f1 : (0 : Int) ≤ (i : Int) := by omega
   have f2 : (i : Int) < (m.length : Int) := by omega
   have hsx : fsz x ≤ 1000000000 := by have := fsz_mem (List.mem_of_getElem? hx); omega
   repeat' (first | go_skip | go_guarded | go_step)
   refine (hcode.out.at_ hC hI hc.bel (Below.refl _ _) hb hat hrx hsx (by rw [List.length_take]; omega)).mono ?_
   rintro e w2 ⟨rfl, hI2⟩
   dsimp only
   clear hI
   have f3 : IntKind.i64.wrap ((i : Int) + 1) = (i : Int) + 1 := IntWalk.i64_in _ (by omega)
   repeat' (first | go_skip | go_guarded | go_step)
   go_roundw
   case rel =>
    refine ⟨i + 1, by omega, by congr 1, ?_⟩
    rw [List.take_add_one, hx]
    exact hI2
   case measure => simp [intOf]; omega
  ·obtain rfl : i = m.length := by omega
   rw [List.take_length] at hI
   repeat' (first | go_skip | go_guarded | go_step)
   refine (done_w W0 w wr g gi l m hc hI hl).mono ?_
   rintro e w2 ⟨rfl, hF⟩
   dsimp only
   repeat' ((fail_if_success at_builtin); first | go_skip | go_guarded | go_step)
   go_end0
   exact ⟨rfl, hF⟩
theorem ints_wc : WriteC 128 Cod.ints := by
 intro W0 w g pb po l f cs hc hp ha hr hs hl
 go_enter Tryz.func128, Tryz.ntmps128
 repeat' (first | go_skip | go_guarded | go_step)
 refine (lint_w Cod.int Cod.int_ok rfl ints1_wc W0 w g pb po l f cs hc hp ha hr hs hl).mono ?_
 rintro e w1 ⟨rfl, hF⟩
 dsimp only
 repeat' ((fail_if_success at_builtin); first | go_skip | go_guarded | go_step)
 go_end0
 exact ⟨rfl, hF⟩
theorem origin_wc : WriteC 78 Cod.origin := by
 intro W0 w g pb po l f cs hc hp ha hr hs hl
 obtain ⟨fs, rfl, hr⟩ := hr
 obtain ⟨f1, r1, k1, d1, rfl, rfl, q1, hr⟩ := hr
 obtain ⟨f2, r2, k2, d2, rfl, rfl, q2, hr⟩ := hr
 obtain ⟨f3, r3, k3, d3, rfl, rfl, q3, hr⟩ := hr
 obtain ⟨rfl, rfl⟩ := hr
 have n1 : k1.length = 1 := Cod.str_ok.len q1
 have a1 := ha.left
 replace ha := ha.right (k := po + 1) (by rw [n1])
 have n2 : k2.length = 1 := Cod.str_ok.len q2
 have a2 := ha.left
 replace ha := ha.right (k := po + 2) (by rw [n2])
 have n3 : k3.length = 1 := Cod.flag_ok.len q3
 have a3 := ha.left
 clear ha n1 n2 n3
 rw [fsz_fL] at hs
 obtain ⟨s1, s2, s3, -⟩ := szs (N := 1000000000) (l := [f1, f2, f3]) (by omega)
 go_enter Tryz.func78, Tryz.ntmps78
 repeat' (first | go_skip | go_guarded | go_step)
 refine (inner_w W0 w g l hc).mono ?_
 rintro e w1 ⟨gi, rfl, hI⟩
 dsimp only
 repeat' (first | go_skip | go_guarded | go_step)
 refine (str_wc.at_ Cod.str_ok hI hc.bel (Below.refl _ _) hp a1 q1 s1 (by simp)).mono ?_
 rintro e w2 ⟨rfl, hI⟩
 dsimp only
 repeat' (first | go_skip | go_guarded | go_step)
 refine (str_wc.at_ Cod.str_ok hI hc.bel (Below.refl _ _) hp a2 q2 s2 (by simp)).mono ?_
 rintro e w3 ⟨rfl, hI⟩
 dsimp only
 repeat' (first | go_skip | go_guarded | go_step)
 refine (flag_wc.at_ Cod.flag_ok hI hc.bel (Below.refl _ _) hp a3 q3 s3 (by simp)).mono ?_
 rintro e w4 ⟨rfl, hI⟩
 dsimp only
 repeat' (first | go_skip | go_guarded | go_step)
 refine (done_w W0 w _ g gi l _ hc hI hl).mono ?_
 rintro e wf ⟨rfl, hF⟩
 dsimp only
 repeat' ((fail_if_success at_builtin); first | go_skip | go_guarded | go_step)
 go_end0
 exact ⟨rfl, hF⟩
theorem timing_wc : WriteC 84 Cod.timing := by
 intro W0 w g pb po l f cs hc hp ha hr hs hl
 obtain ⟨fs, rfl, hr⟩ := hr
 obtain ⟨f1, r1, k1, d1, rfl, rfl, q1, hr⟩ := hr
 obtain ⟨f2, r2, k2, d2, rfl, rfl, q2, hr⟩ := hr
 obtain ⟨rfl, rfl⟩ := hr
 have n1 : k1.length = 1 := Cod.str_ok.len q1
 have a1 := ha.left
 replace ha := ha.right (k := po + 1) (by rw [n1])
 have n2 : k2.length = 1 := Cod.int_ok.len q2
 have a2 := ha.left
 clear ha n1 n2
 rw [fsz_fL] at hs
 obtain ⟨s1, s2, -⟩ := szs (N := 1000000000) (l := [f1, f2]) (by omega)
 go_enter Tryz.func84, Tryz.ntmps84
 repeat' (first | go_skip | go_guarded | go_step)
 refine (inner_w W0 w g l hc).mono ?_
 rintro e w1 ⟨gi, rfl, hI⟩
 dsimp only
 repeat' (first | go_skip | go_guarded | go_step)
 refine (str_wc.at_ Cod.str_ok hI hc.bel (Below.refl _ _) hp a1 q1 s1 (by simp)).mono ?_
 rintro e w2 ⟨rfl, hI⟩
 dsimp only
 repeat' (first | go_skip | go_guarded | go_step)
 refine (int_wc.at_ Cod.int_ok hI hc.bel (Below.refl _ _) hp a2 q2 s2 (by simp)).mono ?_
 rintro e w3 ⟨rfl, hI⟩
 dsimp only
 repeat' (first | go_skip | go_guarded | go_step)
 refine (done_w W0 w _ g gi l _ hc hI hl).mono ?_
 rintro e wf ⟨rfl, hF⟩
 dsimp only
 repeat' ((fail_if_success at_builtin); first | go_skip | go_guarded | go_step)
 go_end0
 exact ⟨rfl, hF⟩
theorem event2_wc : WriteC 83 Cod.timing := by
 intro W0 w g pb po l f cs hc hp ha hr hs hl
 go_enter Tryz.func83, Tryz.ntmps83
 repeat' (first | go_skip | go_guarded | go_step)
 refine (timing_wc W0 w g pb po l f cs hc hp ha hr hs hl).mono ?_
 rintro e w1 ⟨rfl, hF⟩
 dsimp only
 repeat' ((fail_if_success at_builtin); first | go_skip | go_guarded | go_step)
 go_end0
 exact ⟨rfl, hF⟩
theorem ltim_w (C : Cod) (hC : C.Ok) (hk : C.sz = 2) (hcode : WriteC 83 C) : WriteL 82 (.func (.func 83) #[] #[]) (Cod.list C) := by
 intro W0 w g pb po l f cs hc hp ha hr hs hl
 obtain ⟨m, A, c, rfl, rfl, hR⟩ := hr
 have c0 := ha 0 _ rfl
 rw [Nat.add_zero] at c0
 rw [fsz_fL] at hs
 have hm := lsz_length m
 have hpw := Nat.lt_of_lt_of_le hp hc.bel.size
 clear ha
 go_enter Tryz.func82, Tryz.ntmps82
 repeat' (first | go_skip | go_guarded | go_step)
 refine (inner_w W0 w g l hc).mono ?_
 rintro e w1 ⟨gi, rfl, hI⟩
 dsimp only
 have c1 := (hc.below hI.bel).c1
 have c0' := (hI.bel.cell (p := ⟨pb, po, none⟩) hpw).trans c0
 replace hcode := Lib.hid hcode
 replace hR := Lib.hid hR
 repeat' (first | go_skip | go_guarded | go_step)
 go_loopw [51] (fun u51 wr => ∃ i : Nat, i ≤ m.length ∧ u51 = .int .i64 (i : Int) ∧ CW w wr gi (m.take i)) (fun u51 _ => m.length - (intOf u51).toNat)
 case atStart => exact ⟨0, Nat.zero_le _, rfl, hI⟩
 case round =>
  clear c0' c1 hI
  obtain ⟨i, hi, rfl, hI⟩ := hrel
  have c0' := (hI.bel.cell (p := ⟨pb, po, none⟩) hpw).trans c0
  by_cases hlt : i < m.length
  ·obtain ⟨x, hx⟩ : ∃ x, m[i]? = some x := ⟨_, List.getElem?_eq_getElem hlt⟩
   obtain ⟨b, o, k1, rfl, hb, hkl, hrx, hat⟩ := hR.out.at_ hx
   rw [hk] at hat
   have f1 : (0 : Int) ≤ (i : Int) := by omega
   have f2 : (i : Int) < (m.length : Int) := by omega
   have hsx : fsz x ≤ 1000000000 := by have := fsz_mem (List.mem_of_getElem? hx); omega
   repeat' (first | go_skip | go_guarded | go_step)
   refine (hcode.out.at_ hC hI hc.bel (Below.refl _ _) hb hat hrx hsx (by rw [List.length_take]; omega)).mono ?_
   rintro e w2 ⟨rfl, hI2⟩
   dsimp only
   clear hI
   have f3 : IntKind.i64.wrap ((i : Int) + 1) = (i : Int) + 1 := IntWalk.i64_in _ (by omega)
   repeat' (first | go_skip | go_guarded | go_step)
   go_roundw
   case rel =>
    refine ⟨i + 1, by omega, by congr 1, ?_⟩
    rw [List.take_add_one, hx]
    exact hI2
   case measure => simp [intOf]; omega
  ·obtain rfl : i = m.length := by omega
   rw [List.take_length] at hI
   repeat' (first | go_skip | go_guarded | go_step)
   refine (done_w W0 w wr g gi l m hc hI hl).mono ?_
   rintro e w2 ⟨rfl, hF⟩
   dsimp only
   repeat' ((fail_if_success at_builtin); first | go_skip | go_guarded | go_step)
   go_end0
   exact ⟨rfl, hF⟩
theorem output_wc : WriteC 141 Cod.output := by
 intro W0 w g pb po l f cs hc hp ha hr hs hl
 obtain ⟨fs, rfl, hr⟩ := hr
 obtain ⟨f1, r1, k1, d1, rfl, rfl, q1, hr⟩ := hr
 obtain ⟨f2, r2, k2, d2, rfl, rfl, q2, hr⟩ := hr
 obtain ⟨f3, r3, k3, d3, rfl, rfl, q3, hr⟩ := hr
 obtain ⟨rfl, rfl⟩ := hr
 have n1 : k1.length = 1 := Cod.str_ok.len q1
 have a1 := ha.left
 replace ha := ha.right (k := po + 1) (by rw [n1])
 have n2 : k2.length = 1 := Cod.dig_ok.len q2
 have a2 := ha.left
 replace ha := ha.right (k := po + 2) (by rw [n2])
 have n3 : k3.length = 1 := Cod.int_ok.len q3
 have a3 := ha.left
 clear ha n1 n2 n3
 rw [fsz_fL] at hs
 obtain ⟨s1, s2, s3, -⟩ := szs (N := 1000000000) (l := [f1, f2, f3]) (by omega)
 go_enter Tryz.func141, Tryz.ntmps141
 repeat' (first | go_skip | go_guarded | go_step)
 refine (inner_w W0 w g l hc).mono ?_
 rintro e w1 ⟨gi, rfl, hI⟩
 dsimp only
 repeat' (first | go_skip | go_guarded | go_step)
 refine (str_wc.at_ Cod.str_ok hI hc.bel (Below.refl _ _) hp a1 q1 s1 (by simp)).mono ?_
 rintro e w2 ⟨rfl, hI⟩
 dsimp only
 repeat' (first | go_skip | go_guarded | go_step)
 refine (dig_wc.at_ Cod.dig_ok hI hc.bel (Below.refl _ _) hp a2 q2 s2 (by simp)).mono ?_
 rintro e w3 ⟨rfl, hI⟩
 dsimp only
 repeat' (first | go_skip | go_guarded | go_step)
 refine (int_wc.at_ Cod.int_ok hI hc.bel (Below.refl _ _) hp a3 q3 s3 (by simp)).mono ?_
 rintro e w4 ⟨rfl, hI⟩
 dsimp only
 repeat' (first | go_skip | go_guarded | go_step)
 refine (done_w W0 w _ g gi l _ hc hI hl).mono ?_
 rintro e wf ⟨rfl, hF⟩
 dsimp only
 repeat' ((fail_if_success at_builtin); first | go_skip | go_guarded | go_step)
 go_end0
 exact ⟨rfl, hF⟩
theorem outputs1_wc : WriteC 140 Cod.output := by
 intro W0 w g pb po l f cs hc hp ha hr hs hl
 go_enter Tryz.func140, Tryz.ntmps140
 repeat' (first | go_skip | go_guarded | go_step)
 refine (output_wc W0 w g pb po l f cs hc hp ha hr hs hl).mono ?_
 rintro e w1 ⟨rfl, hF⟩
 dsimp only
 repeat' ((fail_if_success at_builtin); first | go_skip | go_guarded | go_step)
 go_end0
 exact ⟨rfl, hF⟩
theorem lout_w (C : Cod) (hC : C.Ok) (hk : C.sz = 3) (hcode : WriteC 140 C) : WriteL 139 (.func (.func 140) #[] #[]) (Cod.list C) := by
 intro W0 w g pb po l f cs hc hp ha hr hs hl
 obtain ⟨m, A, c, rfl, rfl, hR⟩ := hr
 have c0 := ha 0 _ rfl
 rw [Nat.add_zero] at c0
 rw [fsz_fL] at hs
 have hm := lsz_length m
 have hpw := Nat.lt_of_lt_of_le hp hc.bel.size
 clear ha
 go_enter Tryz.func139, Tryz.ntmps139
 repeat' (first | go_skip | go_guarded | go_step)
 refine (inner_w W0 w g l hc).mono ?_
 rintro e w1 ⟨gi, rfl, hI⟩
 dsimp only
 have c1 := (hc.below hI.bel).c1
 have c0' := (hI.bel.cell (p := ⟨pb, po, none⟩) hpw).trans c0
 replace hcode := Lib.hid hcode
 replace hR := Lib.hid hR
 repeat' (first | go_skip | go_guarded | go_step)
 go_loopw [51] (fun u51 wr => ∃ i : Nat, i ≤ m.length ∧ u51 = .int .i64 (i : Int) ∧ CW w wr gi (m.take i)) (fun u51 _ => m.length - (intOf u51).toNat)
 case atStart => exact ⟨0, Nat.zero_le _, rfl, hI⟩
 case round =>
  clear c0' c1 hI
  obtain ⟨i, hi, rfl, hI⟩ := hrel
  have c0' := (hI.bel.cell (p := ⟨pb, po, none⟩) hpw).trans c0
  by_cases hlt : i < m.length
  ·obtain ⟨x, hx⟩ : ∃ x, m[i]? = some x := ⟨_, List.getElem?_eq_getElem hlt⟩
   obtain ⟨b, o, k1, rfl, hb, hkl, hrx, hat⟩ := hR.out.at_ hx
   rw [hk] at hat
   have f1 : (0 : Int) ≤ (i : Int) := by omega
   have f2 : (i : Int) < (m.length : Int) := by omega
   have hsx : fsz x ≤ 1000000000 := by have := fsz_mem (List.mem_of_getElem? hx); omega
   repeat' (first | go_skip | go_guarded | go_step)
   refine (hcode.out.at_ hC hI hc.bel (Below.refl _ _) hb hat hrx hsx (by rw [List.length_take]; omega)).mono ?_
   rintro e w2 ⟨rfl, hI2⟩
   dsimp only
   clear hI
   have f3 : IntKind.i64.wrap ((i : Int) + 1) = (i : Int) + 1 := IntWalk.i64_in _ (by omega)
   repeat' (first | go_skip | go_guarded | go_step)
   go_roundw
   case rel =>
    refine ⟨i + 1, by omega, by congr 1, ?_⟩
    rw [List.take_add_one, hx]
    exact hI2
   case measure => simp [intOf]; omega
  ·obtain rfl : i = m.length := by omega
   rw [List.take_length] at hI
   repeat' (first | go_skip | go_guarded | go_step)
   refine (done_w W0 w wr g gi l m hc hI hl).mono ?_
   rintro e w2 ⟨rfl, hF⟩
   dsimp only
   repeat' ((fail_if_success at_builtin); first | go_skip | go_guarded | go_step)
   go_end0
   exact ⟨rfl, hF⟩
theorem outputs_wc : WriteC 123 (Cod.list Cod.output) := by
 intro W0 w g pb po l f cs hc hp ha hr hs hl
 go_enter Tryz.func123, Tryz.ntmps123
 repeat' (first | go_skip | go_guarded | go_step)
 refine (lout_w Cod.output Cod.output_ok rfl outputs1_wc W0 w g pb po l f cs hc hp ha hr hs hl).mono ?_
 rintro e w1 ⟨rfl, hF⟩
 dsimp only
 repeat' ((fail_if_success at_builtin); first | go_skip | go_guarded | go_step)
 go_end0
 exact ⟨rfl, hF⟩
theorem test_wc : WriteC 126 Cod.test := by
 intro W0 w g pb po l f cs hc hp ha hr hs hl
 obtain ⟨fs, rfl, hr⟩ := hr
 obtain ⟨f1, r1, k1, d1, rfl, rfl, q1, hr⟩ := hr
 obtain ⟨f2, r2, k2, d2, rfl, rfl, q2, hr⟩ := hr
 obtain ⟨f3, r3, k3, d3, rfl, rfl, q3, hr⟩ := hr
 obtain ⟨rfl, rfl⟩ := hr
 have n1 : k1.length = 1 := Cod.str_ok.len q1
 have a1 := ha.left
 replace ha := ha.right (k := po + 1) (by rw [n1])
 have n2 : k2.length = 1 := Cod.int_ok.len q2
 have a2 := ha.left
 replace ha := ha.right (k := po + 2) (by rw [n2])
 have n3 : k3.length = 1 := Cod.int_ok.len q3
 have a3 := ha.left
 clear ha n1 n2 n3
 rw [fsz_fL] at hs
 obtain ⟨s1, s2, s3, -⟩ := szs (N := 1000000000) (l := [f1, f2, f3]) (by omega)
 go_enter Tryz.func126, Tryz.ntmps126
 repeat' (first | go_skip | go_guarded | go_step)
 refine (inner_w W0 w g l hc).mono ?_
 rintro e w1 ⟨gi, rfl, hI⟩
 dsimp only
 repeat' (first | go_skip | go_guarded | go_step)
 refine (str_wc.at_ Cod.str_ok hI hc.bel (Below.refl _ _) hp a1 q1 s1 (by simp)).mono ?_
 rintro e w2 ⟨rfl, hI⟩
 dsimp only
 repeat' (first | go_skip | go_guarded | go_step)
 refine (int_wc.at_ Cod.int_ok hI hc.bel (Below.refl _ _) hp a2 q2 s2 (by simp)).mono ?_
 rintro e w3 ⟨rfl, hI⟩
 dsimp only
 repeat' (first | go_skip | go_guarded | go_step)
 refine (int_wc.at_ Cod.int_ok hI hc.bel (Below.refl _ _) hp a3 q3 s3 (by simp)).mono ?_
 rintro e w4 ⟨rfl, hI⟩
 dsimp only
 repeat' (first | go_skip | go_guarded | go_step)
 refine (done_w W0 w _ g gi l _ hc hI hl).mono ?_
 rintro e wf ⟨rfl, hF⟩
 dsimp only
 repeat' ((fail_if_success at_builtin); first | go_skip | go_guarded | go_step)
 go_end0
 exact ⟨rfl, hF⟩
theorem result1_wc : WriteC 125 Cod.test := by
 intro W0 w g pb po l f cs hc hp ha hr hs hl
 go_enter Tryz.func125, Tryz.ntmps125
 repeat' (first | go_skip | go_guarded | go_step)
 refine (test_wc W0 w g pb po l f cs hc hp ha hr hs hl).mono ?_
 rintro e w1 ⟨rfl, hF⟩
 dsimp only
 repeat' ((fail_if_success at_builtin); first | go_skip | go_guarded | go_step)
 go_end0
 exact ⟨rfl, hF⟩
theorem ltest_w (C : Cod) (hC : C.Ok) (hk : C.sz = 3) (hcode : WriteC 125 C) : WriteL 124 (.func (.func 125) #[] #[]) (Cod.list C) := by
 intro W0 w g pb po l f cs hc hp ha hr hs hl
 obtain ⟨m, A, c, rfl, rfl, hR⟩ := hr
 have c0 := ha 0 _ rfl
 rw [Nat.add_zero] at c0
 rw [fsz_fL] at hs
 have hm := lsz_length m
 have hpw := Nat.lt_of_lt_of_le hp hc.bel.size
 clear ha
 go_enter Tryz.func124, Tryz.ntmps124
 repeat' (first | go_skip | go_guarded | go_step)
 refine (inner_w W0 w g l hc).mono ?_
 rintro e w1 ⟨gi, rfl, hI⟩
 dsimp only
 have c1 := (hc.below hI.bel).c1
 have c0' := (hI.bel.cell (p := ⟨pb, po, none⟩) hpw).trans c0
 replace hcode := Lib.hid hcode
 replace hR := Lib.hid hR
 repeat' (first | go_skip | go_guarded | go_step)
 go_loopw [51] (fun u51 wr => ∃ i : Nat, i ≤ m.length ∧ u51 = .int .i64 (i : Int) ∧ CW w wr gi (m.take i)) (fun u51 _ => m.length - (intOf u51).toNat)
 case atStart => exact ⟨0, Nat.zero_le _, rfl, hI⟩
 case round =>
  clear c0' c1 hI
  obtain ⟨i, hi, rfl, hI⟩ := hrel
  have c0' := (hI.bel.cell (p := ⟨pb, po, none⟩) hpw).trans c0
  by_cases hlt : i < m.length
  ·obtain ⟨x, hx⟩ : ∃ x, m[i]? = some x := ⟨_, List.getElem?_eq_getElem hlt⟩
   obtain ⟨b, o, k1, rfl, hb, hkl, hrx, hat⟩ := hR.out.at_ hx
   rw [hk] at hat
   have f1 : (0 : Int) ≤ (i : Int) := by omega
   have f2 : (i : Int) < (m.length : Int) := by omega
   have hsx : fsz x ≤ 1000000000 := by have := fsz_mem (List.mem_of_getElem? hx); omega
   repeat' (first | go_skip | go_guarded | go_step)
   refine (hcode.out.at_ hC hI hc.bel (Below.refl _ _) hb hat hrx hsx (by rw [List.length_take]; omega)).mono ?_
   rintro e w2 ⟨rfl, hI2⟩
   dsimp only
   clear hI
   have f3 : IntKind.i64.wrap ((i : Int) + 1) = (i : Int) + 1 := IntWalk.i64_in _ (by omega)
   repeat' (first | go_skip | go_guarded | go_step)
   go_roundw
   case rel =>
    refine ⟨i + 1, by omega, by congr 1, ?_⟩
    rw [List.take_add_one, hx]
    exact hI2
   case measure => simp [intOf]; omega
  ·obtain rfl : i = m.length := by omega
   rw [List.take_length] at hI
   repeat' (first | go_skip | go_guarded | go_step)
   refine (done_w W0 w wr g gi l m hc hI hl).mono ?_
   rintro e w2 ⟨rfl, hF⟩
   dsimp only
   repeat' ((fail_if_success at_builtin); first | go_skip | go_guarded | go_step)
   go_end0
   exact ⟨rfl, hF⟩
theorem result_wc : WriteC 85 Cod.result := by
 intro W0 w g pb po l f cs hc hp ha hr hs hl
 obtain ⟨fs, rfl, hr⟩ := hr
 obtain ⟨f1, r1, k1, d1, rfl, rfl, q1, hr⟩ := hr
 obtain ⟨f2, r2, k2, d2, rfl, rfl, q2, hr⟩ := hr
 obtain ⟨f3, r3, k3, d3, rfl, rfl, q3, hr⟩ := hr
 obtain ⟨f4, r4, k4, d4, rfl, rfl, q4, hr⟩ := hr
 obtain ⟨f5, r5, k5, d5, rfl, rfl, q5, hr⟩ := hr
 obtain ⟨f6, r6, k6, d6, rfl, rfl, q6, hr⟩ := hr
 obtain ⟨rfl, rfl⟩ := hr
 have n1 : k1.length = 1 := Cod.int_ok.len q1
 have a1 := ha.left
 replace ha := ha.right (k := po + 1) (by rw [n1])
 have n2 : k2.length = 1 := Cod.int_ok.len q2
 have a2 := ha.left
 replace ha := ha.right (k := po + 2) (by rw [n2])
 have n3 : k3.length = 1 := (Cod.list_ok Cod.output_ok).len q3
 have a3 := ha.left
 replace ha := ha.right (k := po + 3) (by rw [n3])
 have n4 : k4.length = 1 := (Cod.list_ok Cod.output_ok).len q4
 have a4 := ha.left
 replace ha := ha.right (k := po + 4) (by rw [n4])
 have n5 : k5.length = 1 := (Cod.list_ok Cod.test_ok).len q5
 have a5 := ha.left
 replace ha := ha.right (k := po + 5) (by rw [n5])
 have n6 : k6.length = 1 := Cod.str_ok.len q6
 have a6 := ha.left
 clear ha n1 n2 n3 n4 n5 n6
 rw [fsz_fL] at hs
 obtain ⟨s1, s2, s3, s4, s5, s6, -⟩ := szs (N := 1000000000) (l := [f1, f2, f3, f4, f5, f6]) (by omega)
 go_enter Tryz.func85, Tryz.ntmps85
 repeat' (first | go_skip | go_guarded | go_step)
 refine (inner_w W0 w g l hc).mono ?_
 rintro e w1 ⟨gi, rfl, hI⟩
 dsimp only
 repeat' (first | go_skip | go_guarded | go_step)
 refine (int_wc.at_ Cod.int_ok hI hc.bel (Below.refl _ _) hp a1 q1 s1 (by simp)).mono ?_
 rintro e w2 ⟨rfl, hI⟩
 dsimp only
 repeat' (first | go_skip | go_guarded | go_step)
 refine (int_wc.at_ Cod.int_ok hI hc.bel (Below.refl _ _) hp a2 q2 s2 (by simp)).mono ?_
 rintro e w3 ⟨rfl, hI⟩
 dsimp only
 repeat' (first | go_skip | go_guarded | go_step)
 refine (outputs_wc.at_ (Cod.list_ok Cod.output_ok) hI hc.bel (Below.refl _ _) hp a3 q3 s3 (by simp)).mono ?_
 rintro e w4 ⟨rfl, hI⟩
 dsimp only
 repeat' (first | go_skip | go_guarded | go_step)
 refine (outputs_wc.at_ (Cod.list_ok Cod.output_ok) hI hc.bel (Below.refl _ _) hp a4 q4 s4 (by simp)).mono ?_
 rintro e w5 ⟨rfl, hI⟩
 dsimp only
 repeat' (first | go_skip | go_guarded | go_step)
 refine ((ltest_w Cod.test Cod.test_ok rfl result1_wc).at_ (Cod.list_ok Cod.test_ok) hI hc.bel (Below.refl _ _) hp a5 q5 s5 (by simp)).mono ?_
 rintro e w6 ⟨rfl, hI⟩
 dsimp only
 repeat' (first | go_skip | go_guarded | go_step)
 refine (str_wc.at_ Cod.str_ok hI hc.bel (Below.refl _ _) hp a6 q6 s6 (by simp)).mono ?_
 rintro e w7 ⟨rfl, hI⟩
 dsimp only
 repeat' (first | go_skip | go_guarded | go_step)
 refine (done_w W0 w _ g gi l _ hc hI hl).mono ?_
 rintro e wf ⟨rfl, hF⟩
 dsimp only
 repeat' ((fail_if_success at_builtin); first | go_skip | go_guarded | go_step)
 go_end0
 exact ⟨rfl, hF⟩
theorem value1_wc (C : Cod) (ih : WriteC 122 C) : WriteC 138 C := by
 intro W0 w g pb po l f cs hc hp ha hr hs hl
 go_enter Tryz.func138, Tryz.ntmps138
 repeat' (first | go_skip | go_guarded | go_step)
 refine (ih W0 w g pb po l f cs hc hp ha hr hs hl).mono ?_
 rintro e w1 ⟨rfl, hF⟩
 dsimp only
 repeat' ((fail_if_success at_builtin); first | go_skip | go_guarded | go_step)
 go_end0
 exact ⟨rfl, hF⟩
theorem lval_w (C : Cod) (hC : C.Ok) (hk : C.sz = 6) (hcode : WriteC 138 C) : WriteL 137 (.func (.func 138) #[] #[]) (Cod.list C) := by
 intro W0 w g pb po l f cs hc hp ha hr hs hl
 obtain ⟨m, A, c, rfl, rfl, hR⟩ := hr
 have c0 := ha 0 _ rfl
 rw [Nat.add_zero] at c0
 rw [fsz_fL] at hs
 have hm := lsz_length m
 have hpw := Nat.lt_of_lt_of_le hp hc.bel.size
 clear ha
 go_enter Tryz.func137, Tryz.ntmps137
 repeat' (first | go_skip | go_guarded | go_step)
 refine (inner_w W0 w g l hc).mono ?_
 rintro e w1 ⟨gi, rfl, hI⟩
 dsimp only
 have c1 := (hc.below hI.bel).c1
 have c0' := (hI.bel.cell (p := ⟨pb, po, none⟩) hpw).trans c0
 replace hcode := Lib.hid hcode
 replace hR := Lib.hid hR
 repeat' (first | go_skip | go_guarded | go_step)
 go_loopw [62] (fun u62 wr => ∃ i : Nat, i ≤ m.length ∧ u62 = .int .i64 (i : Int) ∧ CW w wr gi (m.take i)) (fun u62 _ => m.length - (intOf u62).toNat)
 case atStart => exact ⟨0, Nat.zero_le _, rfl, hI⟩
 case round =>
  clear c0' c1 hI
  obtain ⟨i, hi, rfl, hI⟩ := hrel
  have c0' := (hI.bel.cell (p := ⟨pb, po, none⟩) hpw).trans c0
  by_cases hlt : i < m.length
  ·obtain ⟨x, hx⟩ : ∃ x, m[i]? = some x := ⟨_, List.getElem?_eq_getElem hlt⟩
   obtain ⟨b, o, k1, rfl, hb, hkl, hrx, hat⟩ := hR.out.at_ hx
   rw [hk] at hat
   have f1 : (0 : Int) ≤ (i : Int) := by omega
   have f2 : (i : Int) < (m.length : Int) := by omega
   have hsx : fsz x ≤ 1000000000 := by have := fsz_mem (List.mem_of_getElem? hx); omega
   repeat' (first | go_skip | go_guarded | go_step)
   refine (hcode.out.at_ hC hI hc.bel (Below.refl _ _) hb hat hrx hsx (by rw [List.length_take]; omega)).mono ?_
   rintro e w2 ⟨rfl, hI2⟩
   dsimp only
   clear hI
   have f3 : IntKind.i64.wrap ((i : Int) + 1) = (i : Int) + 1 := IntWalk.i64_in _ (by omega)
   repeat' (first | go_skip | go_guarded | go_step)
   go_roundw
   case rel =>
    refine ⟨i + 1, by omega, by congr 1, ?_⟩
    rw [List.take_add_one, hx]
    exact hI2
   case measure => simp [intOf]; omega
  ·obtain rfl : i = m.length := by omega
   rw [List.take_length] at hI
   repeat' (first | go_skip | go_guarded | go_step)
   refine (done_w W0 w wr g gi l m hc hI hl).mono ?_
   rintro e w2 ⟨rfl, hF⟩
   dsimp only
   repeat' ((fail_if_success at_builtin); first | go_skip | go_guarded | go_step)
   go_end0
   exact ⟨rfl, hF⟩
theorem value_wn (n : Nat) (ih : WriteC 122 (Cod.val n)) : WriteC 122 (Cod.val (n + 1)) := by
 intro W0 w g pb po l f cs hc hp ha hr hs hl
 obtain ⟨fs, rfl, hr⟩ := hr
 obtain ⟨f1, r1, k1, d1, rfl, rfl, q1, hr⟩ := hr
 obtain ⟨f2, r2, k2, d2, rfl, rfl, q2, hr⟩ := hr
 obtain ⟨f3, r3, k3, d3, rfl, rfl, q3, hr⟩ := hr
 obtain ⟨f4, r4, k4, d4, rfl, rfl, q4, hr⟩ := hr
 obtain ⟨f5, r5, k5, d5, rfl, rfl, q5, hr⟩ := hr
 obtain ⟨f6, r6, k6, d6, rfl, rfl, q6, hr⟩ := hr
 obtain ⟨rfl, rfl⟩ := hr
 have n1 : k1.length = 1 := Cod.int_ok.len q1
 have a1 := ha.left
 replace ha := ha.right (k := po + 1) (by rw [n1])
 have n2 : k2.length = 1 := Cod.flag_ok.len q2
 have a2 := ha.left
 replace ha := ha.right (k := po + 2) (by rw [n2])
 have n3 : k3.length = 1 := Cod.int_ok.len q3
 have a3 := ha.left
 replace ha := ha.right (k := po + 3) (by rw [n3])
 have n4 : k4.length = 1 := Cod.str_ok.len q4
 have a4 := ha.left
 replace ha := ha.right (k := po + 4) (by rw [n4])
 have n5 : k5.length = 1 := (Cod.list_ok (Cod.val_ok n)).len q5
 have a5 := ha.left
 replace ha := ha.right (k := po + 5) (by rw [n5])
 have n6 : k6.length = 1 := Cod.strs_ok.len q6
 have a6 := ha.left
 clear ha n1 n2 n3 n4 n5 n6
 rw [fsz_fL] at hs
 obtain ⟨s1, s2, s3, s4, s5, s6, -⟩ := szs (N := 1000000000) (l := [f1, f2, f3, f4, f5, f6]) (by omega)
 go_enter Tryz.func122, Tryz.ntmps122
 repeat' (first | go_skip | go_guarded | go_step)
 refine (inner_w W0 w g l hc).mono ?_
 rintro e w1 ⟨gi, rfl, hI⟩
 dsimp only
 repeat' (first | go_skip | go_guarded | go_step)
 refine (int_wc.at_ Cod.int_ok hI hc.bel (Below.refl _ _) hp a1 q1 s1 (by simp)).mono ?_
 rintro e w2 ⟨rfl, hI⟩
 dsimp only
 repeat' (first | go_skip | go_guarded | go_step)
 refine (flag_wc.at_ Cod.flag_ok hI hc.bel (Below.refl _ _) hp a2 q2 s2 (by simp)).mono ?_
 rintro e w3 ⟨rfl, hI⟩
 dsimp only
 repeat' (first | go_skip | go_guarded | go_step)
 refine (int_wc.at_ Cod.int_ok hI hc.bel (Below.refl _ _) hp a3 q3 s3 (by simp)).mono ?_
 rintro e w4 ⟨rfl, hI⟩
 dsimp only
 repeat' (first | go_skip | go_guarded | go_step)
 refine (str_wc.at_ Cod.str_ok hI hc.bel (Below.refl _ _) hp a4 q4 s4 (by simp)).mono ?_
 rintro e w5 ⟨rfl, hI⟩
 dsimp only
 repeat' (first | go_skip | go_guarded | go_step)
 refine ((lval_w (Cod.val n) (Cod.val_ok n) (Cod.val_sz n) (value1_wc _ ih)).at_ (Cod.list_ok (Cod.val_ok n)) hI hc.bel (Below.refl _ _) hp a5 q5 s5 (by simp)).mono ?_
 rintro e w6 ⟨rfl, hI⟩
 dsimp only
 repeat' (first | go_skip | go_guarded | go_step)
 refine (strs_wc.at_ Cod.strs_ok hI hc.bel (Below.refl _ _) hp a6 q6 s6 (by simp)).mono ?_
 rintro e w7 ⟨rfl, hI⟩
 dsimp only
 repeat' (first | go_skip | go_guarded | go_step)
 refine (done_w W0 w _ g gi l _ hc hI hl).mono ?_
 rintro e wf ⟨rfl, hF⟩
 dsimp only
 repeat' ((fail_if_success at_builtin); first | go_skip | go_guarded | go_step)
 go_end0
 exact ⟨rfl, hF⟩
theorem value_all : ∀ n, WriteC 122 (Cod.val n)
 | 0 => fun _ _ _ _ _ _ _ _ _ _ _ hr => hr.elim
 | n + 1 => value_wn n (value_all n)
theorem value_wc : WriteC 122 Cod.value := fun W0 w g pb po l f cs hc hp ha hr hs hl => by
 obtain ⟨n, hr⟩ := hr
 exact value_all n W0 w g pb po l f cs hc hp ha hr hs hl
theorem vari_wc : WriteC 81 Cod.vari := by
 intro W0 w g pb po l f cs hc hp ha hr hs hl
 obtain ⟨fs, rfl, hr⟩ := hr
 obtain ⟨f1, r1, k1, d1, rfl, rfl, q1, hr⟩ := hr
 obtain ⟨f2, r2, k2, d2, rfl, rfl, q2, hr⟩ := hr
 obtain ⟨rfl, rfl⟩ := hr
 have n1 : k1.length = 1 := Cod.str_ok.len q1
 have a1 := ha.left
 replace ha := ha.right (k := po + 1) (by rw [n1])
 have n2 : k2.length = 6 := Cod.value_ok.len q2
 have a2 := ha.left
 clear ha n1 n2
 rw [fsz_fL] at hs
 obtain ⟨s1, s2, -⟩ := szs (N := 1000000000) (l := [f1, f2]) (by omega)
 go_enter Tryz.func81, Tryz.ntmps81
 repeat' (first | go_skip | go_guarded | go_step)
 refine (inner_w W0 w g l hc).mono ?_
 rintro e w1 ⟨gi, rfl, hI⟩
 dsimp only
 repeat' (first | go_skip | go_guarded | go_step)
 refine (str_wc.at_ Cod.str_ok hI hc.bel (Below.refl _ _) hp a1 q1 s1 (by simp)).mono ?_
 rintro e w2 ⟨rfl, hI⟩
 dsimp only
 repeat' (first | go_skip | go_guarded | go_step)
 refine (value_wc.at_ Cod.value_ok hI hc.bel (Below.refl _ _) hp a2 q2 s2 (by simp)).mono ?_
 rintro e w3 ⟨rfl, hI⟩
 dsimp only
 repeat' (first | go_skip | go_guarded | go_step)
 refine (done_w W0 w _ g gi l _ hc hI hl).mono ?_
 rintro e wf ⟨rfl, hF⟩
 dsimp only
 repeat' ((fail_if_success at_builtin); first | go_skip | go_guarded | go_step)
 go_end0
 exact ⟨rfl, hF⟩
theorem event1_wc : WriteC 80 Cod.vari := by
 intro W0 w g pb po l f cs hc hp ha hr hs hl
 go_enter Tryz.func80, Tryz.ntmps80
 repeat' (first | go_skip | go_guarded | go_step)
 refine (vari_wc W0 w g pb po l f cs hc hp ha hr hs hl).mono ?_
 rintro e w1 ⟨rfl, hF⟩
 dsimp only
 repeat' ((fail_if_success at_builtin); first | go_skip | go_guarded | go_step)
 go_end0
 exact ⟨rfl, hF⟩
theorem lvar_w (C : Cod) (hC : C.Ok) (hk : C.sz = 7) (hcode : WriteC 80 C) : WriteL 79 (.func (.func 80) #[] #[]) (Cod.list C) := by
 intro W0 w g pb po l f cs hc hp ha hr hs hl
 obtain ⟨m, A, c, rfl, rfl, hR⟩ := hr
 have c0 := ha 0 _ rfl
 rw [Nat.add_zero] at c0
 rw [fsz_fL] at hs
 have hm := lsz_length m
 have hpw := Nat.lt_of_lt_of_le hp hc.bel.size
 clear ha
 go_enter Tryz.func79, Tryz.ntmps79
 repeat' (first | go_skip | go_guarded | go_step)
 refine (inner_w W0 w g l hc).mono ?_
 rintro e w1 ⟨gi, rfl, hI⟩
 dsimp only
 have c1 := (hc.below hI.bel).c1
 have c0' := (hI.bel.cell (p := ⟨pb, po, none⟩) hpw).trans c0
 replace hcode := Lib.hid hcode
 replace hR := Lib.hid hR
 repeat' (first | go_skip | go_guarded | go_step)
 go_loopw [51] (fun u51 wr => ∃ i : Nat, i ≤ m.length ∧ u51 = .int .i64 (i : Int) ∧ CW w wr gi (m.take i)) (fun u51 _ => m.length - (intOf u51).toNat)
 case atStart => exact ⟨0, Nat.zero_le _, rfl, hI⟩
 case round =>
  clear c0' c1 hI
  obtain ⟨i, hi, rfl, hI⟩ := hrel
  have c0' := (hI.bel.cell (p := ⟨pb, po, none⟩) hpw).trans c0
  by_cases hlt : i < m.length
  ·obtain ⟨x, hx⟩ : ∃ x, m[i]? = some x := ⟨_, List.getElem?_eq_getElem hlt⟩
   obtain ⟨b, o, k1, rfl, hb, hkl, hrx, hat⟩ := hR.out.at_ hx
   rw [hk] at hat
   have f1 : (0 : Int) ≤ (i : Int) := by omega
   have f2 : (i : Int) < (m.length : Int) := by omega
   have hsx : fsz x ≤ 1000000000 := by have := fsz_mem (List.mem_of_getElem? hx); omega
   repeat' (first | go_skip | go_guarded | go_step)
   refine (hcode.out.at_ hC hI hc.bel (Below.refl _ _) hb hat hrx hsx (by rw [List.length_take]; omega)).mono ?_
   rintro e w2 ⟨rfl, hI2⟩
   dsimp only
   clear hI
   have f3 : IntKind.i64.wrap ((i : Int) + 1) = (i : Int) + 1 := IntWalk.i64_in _ (by omega)
   repeat' (first | go_skip | go_guarded | go_step)
   go_roundw
   case rel =>
    refine ⟨i + 1, by omega, by congr 1, ?_⟩
    rw [List.take_add_one, hx]
    exact hI2
   case measure => simp [intOf]; omega
  ·obtain rfl : i = m.length := by omega
   rw [List.take_length] at hI
   repeat' (first | go_skip | go_guarded | go_step)
   refine (done_w W0 w wr g gi l m hc hI hl).mono ?_
   rintro e w2 ⟨rfl, hF⟩
   dsimp only
   repeat' ((fail_if_success at_builtin); first | go_skip | go_guarded | go_step)
   go_end0
   exact ⟨rfl, hF⟩
theorem machine_wc : WriteC 86 Cod.machine := by
 intro W0 w g pb po l f cs hc hp ha hr hs hl
 obtain ⟨fs, rfl, hr⟩ := hr
 obtain ⟨f1, r1, k1, d1, rfl, rfl, q1, hr⟩ := hr
 obtain ⟨f2, r2, k2, d2, rfl, rfl, q2, hr⟩ := hr
 obtain ⟨f3, r3, k3, d3, rfl, rfl, q3, hr⟩ := hr
 obtain ⟨f4, r4, k4, d4, rfl, rfl, q4, hr⟩ := hr
 obtain ⟨f5, r5, k5, d5, rfl, rfl, q5, hr⟩ := hr
 obtain ⟨f6, r6, k6, d6, rfl, rfl, q6, hr⟩ := hr
 obtain ⟨f7, r7, k7, d7, rfl, rfl, q7, hr⟩ := hr
 obtain ⟨f8, r8, k8, d8, rfl, rfl, q8, hr⟩ := hr
 obtain ⟨f9, r9, k9, d9, rfl, rfl, q9, hr⟩ := hr
 obtain ⟨rfl, rfl⟩ := hr
 have n1 : k1.length = 1 := Cod.str_ok.len q1
 have a1 := ha.left
 replace ha := ha.right (k := po + 1) (by rw [n1])
 have n2 : k2.length = 1 := Cod.strs_ok.len q2
 have a2 := ha.left
 replace ha := ha.right (k := po + 2) (by rw [n2])
 have n3 : k3.length = 1 := Cod.int_ok.len q3
 have a3 := ha.left
 replace ha := ha.right (k := po + 3) (by rw [n3])
 have n4 : k4.length = 1 := Cod.int_ok.len q4
 have a4 := ha.left
 replace ha := ha.right (k := po + 4) (by rw [n4])
 have n5 : k5.length = 1 := Cod.flag_ok.len q5
 have a5 := ha.left
 replace ha := ha.right (k := po + 5) (by rw [n5])
 have n6 : k6.length = 1 := Cod.int_ok.len q6
 have a6 := ha.left
 replace ha := ha.right (k := po + 6) (by rw [n6])
 have n7 : k7.length = 1 := Cod.int_ok.len q7
 have a7 := ha.left
 replace ha := ha.right (k := po + 7) (by rw [n7])
 have n8 : k8.length = 1 := Cod.int_ok.len q8
 have a8 := ha.left
 replace ha := ha.right (k := po + 8) (by rw [n8])
 have n9 : k9.length = 1 := Cod.ints_ok.len q9
 have a9 := ha.left
 clear ha n1 n2 n3 n4 n5 n6 n7 n8 n9
 rw [fsz_fL] at hs
 obtain ⟨s1, s2, s3, s4, s5, s6, s7, s8, s9, -⟩ := szs (N := 1000000000) (l := [f1, f2, f3, f4, f5, f6, f7, f8, f9]) (by omega)
 go_enter Tryz.func86, Tryz.ntmps86
 repeat' (first | go_skip | go_guarded | go_step)
 refine (inner_w W0 w g l hc).mono ?_
 rintro e w1 ⟨gi, rfl, hI⟩
 dsimp only
 repeat' (first | go_skip | go_guarded | go_step)
 refine (str_wc.at_ Cod.str_ok hI hc.bel (Below.refl _ _) hp a1 q1 s1 (by simp)).mono ?_
 rintro e w2 ⟨rfl, hI⟩
 dsimp only
 repeat' (first | go_skip | go_guarded | go_step)
 refine (strs_wc.at_ Cod.strs_ok hI hc.bel (Below.refl _ _) hp a2 q2 s2 (by simp)).mono ?_
 rintro e w3 ⟨rfl, hI⟩
 dsimp only
 repeat' (first | go_skip | go_guarded | go_step)
 refine (int_wc.at_ Cod.int_ok hI hc.bel (Below.refl _ _) hp a3 q3 s3 (by simp)).mono ?_
 rintro e w4 ⟨rfl, hI⟩
 dsimp only
 repeat' (first | go_skip | go_guarded | go_step)
 refine (int_wc.at_ Cod.int_ok hI hc.bel (Below.refl _ _) hp a4 q4 s4 (by simp)).mono ?_
 rintro e w5 ⟨rfl, hI⟩
 dsimp only
 repeat' (first | go_skip | go_guarded | go_step)
 refine (flag_wc.at_ Cod.flag_ok hI hc.bel (Below.refl _ _) hp a5 q5 s5 (by simp)).mono ?_
 rintro e w6 ⟨rfl, hI⟩
 dsimp only
 repeat' (first | go_skip | go_guarded | go_step)
 refine (int_wc.at_ Cod.int_ok hI hc.bel (Below.refl _ _) hp a6 q6 s6 (by simp)).mono ?_
 rintro e w7 ⟨rfl, hI⟩
 dsimp only
 repeat' (first | go_skip | go_guarded | go_step)
 refine (int_wc.at_ Cod.int_ok hI hc.bel (Below.refl _ _) hp a7 q7 s7 (by simp)).mono ?_
 rintro e w8 ⟨rfl, hI⟩
 dsimp only
 repeat' (first | go_skip | go_guarded | go_step)
 refine (int_wc.at_ Cod.int_ok hI hc.bel (Below.refl _ _) hp a8 q8 s8 (by simp)).mono ?_
 rintro e w9 ⟨rfl, hI⟩
 dsimp only
 repeat' (first | go_skip | go_guarded | go_step)
 refine (ints_wc.at_ Cod.ints_ok hI hc.bel (Below.refl _ _) hp a9 q9 s9 (by simp)).mono ?_
 rintro e w10 ⟨rfl, hI⟩
 dsimp only
 repeat' (first | go_skip | go_guarded | go_step)
 refine (done_w W0 w _ g gi l _ hc hI hl).mono ?_
 rintro e wf ⟨rfl, hF⟩
 dsimp only
 repeat' ((fail_if_success at_builtin); first | go_skip | go_guarded | go_step)
 go_end0
 exact ⟨rfl, hF⟩
theorem secret_wc : WriteC 87 Cod.secret := by
 intro W0 w g pb po l f cs hc hp ha hr hs hl
 obtain ⟨fs, rfl, hr⟩ := hr
 obtain ⟨f1, r1, k1, d1, rfl, rfl, q1, hr⟩ := hr
 obtain ⟨f2, r2, k2, d2, rfl, rfl, q2, hr⟩ := hr
 obtain ⟨f3, r3, k3, d3, rfl, rfl, q3, hr⟩ := hr
 obtain ⟨f4, r4, k4, d4, rfl, rfl, q4, hr⟩ := hr
 obtain ⟨f5, r5, k5, d5, rfl, rfl, q5, hr⟩ := hr
 obtain ⟨rfl, rfl⟩ := hr
 have n1 : k1.length = 1 := Cod.str_ok.len q1
 have a1 := ha.left
 replace ha := ha.right (k := po + 1) (by rw [n1])
 have n2 : k2.length = 1 := Cod.str_ok.len q2
 have a2 := ha.left
 replace ha := ha.right (k := po + 2) (by rw [n2])
 have n3 : k3.length = 1 := Cod.int_ok.len q3
 have a3 := ha.left
 replace ha := ha.right (k := po + 3) (by rw [n3])
 have n4 : k4.length = 1 := Cod.strs_ok.len q4
 have a4 := ha.left
 replace ha := ha.right (k := po + 4) (by rw [n4])
 have n5 : k5.length = 1 := Cod.strs_ok.len q5
 have a5 := ha.left
 clear ha n1 n2 n3 n4 n5
 rw [fsz_fL] at hs
 obtain ⟨s1, s2, s3, s4, s5, -⟩ := szs (N := 1000000000) (l := [f1, f2, f3, f4, f5]) (by omega)
 go_enter Tryz.func87, Tryz.ntmps87
 repeat' (first | go_skip | go_guarded | go_step)
 refine (inner_w W0 w g l hc).mono ?_
 rintro e w1 ⟨gi, rfl, hI⟩
 dsimp only
 repeat' (first | go_skip | go_guarded | go_step)
 refine (str_wc.at_ Cod.str_ok hI hc.bel (Below.refl _ _) hp a1 q1 s1 (by simp)).mono ?_
 rintro e w2 ⟨rfl, hI⟩
 dsimp only
 repeat' (first | go_skip | go_guarded | go_step)
 refine (str_wc.at_ Cod.str_ok hI hc.bel (Below.refl _ _) hp a2 q2 s2 (by simp)).mono ?_
 rintro e w3 ⟨rfl, hI⟩
 dsimp only
 repeat' (first | go_skip | go_guarded | go_step)
 refine (int_wc.at_ Cod.int_ok hI hc.bel (Below.refl _ _) hp a3 q3 s3 (by simp)).mono ?_
 rintro e w4 ⟨rfl, hI⟩
 dsimp only
 repeat' (first | go_skip | go_guarded | go_step)
 refine (strs_wc.at_ Cod.strs_ok hI hc.bel (Below.refl _ _) hp a4 q4 s4 (by simp)).mono ?_
 rintro e w5 ⟨rfl, hI⟩
 dsimp only
 repeat' (first | go_skip | go_guarded | go_step)
 refine (strs_wc.at_ Cod.strs_ok hI hc.bel (Below.refl _ _) hp a5 q5 s5 (by simp)).mono ?_
 rintro e w6 ⟨rfl, hI⟩
 dsimp only
 repeat' (first | go_skip | go_guarded | go_step)
 refine (done_w W0 w _ g gi l _ hc hI hl).mono ?_
 rintro e wf ⟨rfl, hF⟩
 dsimp only
 repeat' ((fail_if_success at_builtin); first | go_skip | go_guarded | go_step)
 go_end0
 exact ⟨rfl, hF⟩
theorem entry_wc : WriteC 88 Cod.entry := by
 intro W0 w g pb po l f cs hc hp ha hr hs hl
 obtain ⟨fs, rfl, hr⟩ := hr
 obtain ⟨f1, r1, k1, d1, rfl, rfl, q1, hr⟩ := hr
 obtain ⟨f2, r2, k2, d2, rfl, rfl, q2, hr⟩ := hr
 obtain ⟨f3, r3, k3, d3, rfl, rfl, q3, hr⟩ := hr
 obtain ⟨f4, r4, k4, d4, rfl, rfl, q4, hr⟩ := hr
 obtain ⟨f5, r5, k5, d5, rfl, rfl, q5, hr⟩ := hr
 obtain ⟨f6, r6, k6, d6, rfl, rfl, q6, hr⟩ := hr
 obtain ⟨rfl, rfl⟩ := hr
 have n1 : k1.length = 3 := Cod.scope_ok.len q1
 have a1 := ha.left
 replace ha := ha.right (k := po + 3) (by rw [n1])
 have n2 : k2.length = 1 := Cod.str_ok.len q2
 have a2 := ha.left
 replace ha := ha.right (k := po + 4) (by rw [n2])
 have n3 : k3.length = 1 := Cod.dig_ok.len q3
 have a3 := ha.left
 replace ha := ha.right (k := po + 5) (by rw [n3])
 have n4 : k4.length = 1 := Cod.int_ok.len q4
 have a4 := ha.left
 replace ha := ha.right (k := po + 6) (by rw [n4])
 have n5 : k5.length = 1 := Cod.int_ok.len q5
 have a5 := ha.left
 replace ha := ha.right (k := po + 7) (by rw [n5])
 have n6 : k6.length = 1 := Cod.int_ok.len q6
 have a6 := ha.left
 clear ha n1 n2 n3 n4 n5 n6
 rw [fsz_fL] at hs
 obtain ⟨s1, s2, s3, s4, s5, s6, -⟩ := szs (N := 1000000000) (l := [f1, f2, f3, f4, f5, f6]) (by omega)
 obtain ⟨fs1, rfl, hr1⟩ := q1
 have ha1 := a1
 have hs1 := s1
 obtain ⟨f11, r11, k11, d11, rfl, rfl, q11, hr1⟩ := hr1
 obtain ⟨f22, r22, k22, d22, rfl, rfl, q22, hr1⟩ := hr1
 obtain ⟨f33, r33, k33, d33, rfl, rfl, q33, hr1⟩ := hr1
 obtain ⟨rfl, rfl⟩ := hr1
 have n11 : k11.length = 1 := Cod.str_ok.len q11
 have a11 := ha1.left
 replace ha1 := ha1.right (k := po + 1) (by rw [n11])
 have n22 : k22.length = 1 := Cod.int_ok.len q22
 have a22 := ha1.left
 replace ha1 := ha1.right (k := po + 2) (by rw [n22])
 have n33 : k33.length = 1 := Cod.str_ok.len q33
 have a33 := ha1.left
 clear ha1 n11 n22 n33
 rw [fsz_fL] at hs1
 obtain ⟨s11, s22, s33, -⟩ := szs (N := 1000000000) (l := [f11, f22, f33]) (by omega)
 go_enter Tryz.func88, Tryz.ntmps88
 repeat' (first | go_skip | go_guarded | go_step)
 refine (inner_w W0 w g l hc).mono ?_
 rintro e w1 ⟨gi, rfl, hI⟩
 dsimp only
 repeat' (first | go_skip | go_guarded | go_step)
 refine (inner_w w w1 gi [] hI).mono ?_
 rintro e w2 ⟨gs, rfl, hS⟩
 dsimp only
 repeat' (first | go_skip | go_guarded | go_step)
 refine (str_wc.at_ Cod.str_ok hS hc.bel (hI.bel) hp a11 q11 s11 (by simp)).mono ?_
 rintro e w_ ⟨rfl, hS⟩
 dsimp only
 repeat' (first | go_skip | go_guarded | go_step)
 refine (int_wc.at_ Cod.int_ok hS hc.bel (hI.bel) hp a22 q22 s22 (by simp)).mono ?_
 rintro e w_ ⟨rfl, hS⟩
 dsimp only
 repeat' (first | go_skip | go_guarded | go_step)
 refine (str_wc.at_ Cod.str_ok hS hc.bel (hI.bel) hp a33 q33 s33 (by simp)).mono ?_
 rintro e w_ ⟨rfl, hS⟩
 dsimp only
 repeat' (first | go_skip | go_guarded | go_step)
 refine (done_w w w1 _ gi gs [] _ hI hS (by simp)).mono ?_
 rintro e w_ ⟨rfl, hI2⟩
 dsimp only
 repeat' (first | go_skip | go_guarded | go_step)
 refine (str_wc.at_ Cod.str_ok hI2 hc.bel (Below.refl _ _) hp a2 q2 s2 (by simp)).mono ?_
 rintro e w_ ⟨rfl, hI2⟩
 dsimp only
 repeat' (first | go_skip | go_guarded | go_step)
 refine (dig_wc.at_ Cod.dig_ok hI2 hc.bel (Below.refl _ _) hp a3 q3 s3 (by simp)).mono ?_
 rintro e w_ ⟨rfl, hI2⟩
 dsimp only
 repeat' (first | go_skip | go_guarded | go_step)
 refine (int_wc.at_ Cod.int_ok hI2 hc.bel (Below.refl _ _) hp a4 q4 s4 (by simp)).mono ?_
 rintro e w_ ⟨rfl, hI2⟩
 dsimp only
 repeat' (first | go_skip | go_guarded | go_step)
 refine (int_wc.at_ Cod.int_ok hI2 hc.bel (Below.refl _ _) hp a5 q5 s5 (by simp)).mono ?_
 rintro e w_ ⟨rfl, hI2⟩
 dsimp only
 repeat' (first | go_skip | go_guarded | go_step)
 refine (int_wc.at_ Cod.int_ok hI2 hc.bel (Below.refl _ _) hp a6 q6 s6 (by simp)).mono ?_
 rintro e w_ ⟨rfl, hI2⟩
 dsimp only
 repeat' (first | go_skip | go_guarded | go_step)
 refine (done_w W0 w _ g gi l _ hc hI2 hl).mono ?_
 rintro e wf ⟨rfl, hF⟩
 dsimp only
 repeat' ((fail_if_success at_builtin); first | go_skip | go_guarded | go_step)
 go_end0
 exact ⟨rfl, hF⟩
theorem event_w (W0 w : World) (g pb po : Nat) (fs : List FV) (cs : List Value) (hc : CW W0 w g []) (hp : pb < W0.heap.size) (ha : At w pb po cs) (hr : RecL evC w (fun b => b < W0.heap.size) fs cs) (hs : lsz fs ≤ 1000000000) :
  Calls Tryz.prog 36 #[.pointer (some ⟨g, 0, none⟩), .pointer (some ⟨pb, po, none⟩)] w fun e w' => e = .returned (.tuple #[]) ∧ CW W0 w' g fs := by
 obtain ⟨f1, r1, k1, d1, rfl, rfl, q1, hr⟩ := hr
 obtain ⟨f2, r2, k2, d2, rfl, rfl, q2, hr⟩ := hr
 obtain ⟨f3, r3, k3, d3, rfl, rfl, q3, hr⟩ := hr
 obtain ⟨f4, r4, k4, d4, rfl, rfl, q4, hr⟩ := hr
 obtain ⟨f5, r5, k5, d5, rfl, rfl, q5, hr⟩ := hr
 obtain ⟨f6, r6, k6, d6, rfl, rfl, q6, hr⟩ := hr
 obtain ⟨f7, r7, k7, d7, rfl, rfl, q7, hr⟩ := hr
 obtain ⟨f8, r8, k8, d8, rfl, rfl, q8, hr⟩ := hr
 obtain ⟨f9, r9, k9, d9, rfl, rfl, q9, hr⟩ := hr
 obtain ⟨f10, r10, k10, d10, rfl, rfl, q10, hr⟩ := hr
 obtain ⟨f11, r11, k11, d11, rfl, rfl, q11, hr⟩ := hr
 obtain ⟨f12, r12, k12, d12, rfl, rfl, q12, hr⟩ := hr
 obtain ⟨f13, r13, k13, d13, rfl, rfl, q13, hr⟩ := hr
 obtain ⟨f14, r14, k14, d14, rfl, rfl, q14, hr⟩ := hr
 obtain ⟨f15, r15, k15, d15, rfl, rfl, q15, hr⟩ := hr
 obtain ⟨f16, r16, k16, d16, rfl, rfl, q16, hr⟩ := hr
 obtain ⟨rfl, rfl⟩ := hr
 have n1 : k1.length = 1 := Cod.int_ok.len q1
 have a1 := ha.left
 replace ha := ha.right (k := po + 1) (by rw [n1])
 have n2 : k2.length = 1 := Cod.int_ok.len q2
 have a2 := ha.left
 replace ha := ha.right (k := po + 2) (by rw [n2])
 have n3 : k3.length = 1 := Cod.str_ok.len q3
 have a3 := ha.left
 replace ha := ha.right (k := po + 3) (by rw [n3])
 have n4 : k4.length = 1 := Cod.str_ok.len q4
 have a4 := ha.left
 replace ha := ha.right (k := po + 4) (by rw [n4])
 have n5 : k5.length = 1 := Cod.int_ok.len q5
 have a5 := ha.left
 replace ha := ha.right (k := po + 5) (by rw [n5])
 have n6 : k6.length = 1 := Cod.int_ok.len q6
 have a6 := ha.left
 replace ha := ha.right (k := po + 6) (by rw [n6])
 have n7 : k7.length = 1 := Cod.int_ok.len q7
 have a7 := ha.left
 replace ha := ha.right (k := po + 7) (by rw [n7])
 have n8 : k8.length = 1 := Cod.str_ok.len q8
 have a8 := ha.left
 replace ha := ha.right (k := po + 8) (by rw [n8])
 have n9 : k9.length = 1 := Cod.str_ok.len q9
 have a9 := ha.left
 replace ha := ha.right (k := po + 9) (by rw [n9])
 have n10 : k10.length = 3 := Cod.origin_ok.len q10
 have a10 := ha.left
 replace ha := ha.right (k := po + 12) (by rw [n10])
 have n11 : k11.length = 1 := (Cod.list_ok Cod.vari_ok).len q11
 have a11 := ha.left
 replace ha := ha.right (k := po + 13) (by rw [n11])
 have n12 : k12.length = 1 := (Cod.list_ok Cod.timing_ok).len q12
 have a12 := ha.left
 replace ha := ha.right (k := po + 14) (by rw [n12])
 have n13 : k13.length = 6 := Cod.result_ok.len q13
 have a13 := ha.left
 replace ha := ha.right (k := po + 20) (by rw [n13])
 have n14 : k14.length = 9 := Cod.machine_ok.len q14
 have a14 := ha.left
 replace ha := ha.right (k := po + 29) (by rw [n14])
 have n15 : k15.length = 5 := Cod.secret_ok.len q15
 have a15 := ha.left
 replace ha := ha.right (k := po + 34) (by rw [n15])
 have n16 : k16.length = 8 := Cod.entry_ok.len q16
 have a16 := ha.left
 clear ha n1 n2 n3 n4 n5 n6 n7 n8 n9 n10 n11 n12 n13 n14 n15 n16
 obtain ⟨s1, s2, s3, s4, s5, s6, s7, s8, s9, s10, s11, s12, s13, s14, s15, s16, -⟩ := szs (N := 1000000000) (l := [f1, f2, f3, f4, f5, f6, f7, f8, f9, f10, f11, f12, f13, f14, f15, f16]) (by omega)
 have h0 := hc.bel
 go_enter Tryz.func36, Tryz.ntmps36
 repeat' (first | go_skip | go_guarded | go_step)
 refine (int_wc.at2 Cod.int_ok hc h0 hp a1 q1 s1 (by simp)).mono ?_
 clear hc
 rintro e w2 ⟨rfl, hc⟩
 dsimp only
 repeat' (first | go_skip | go_guarded | go_step)
 refine (int_wc.at2 Cod.int_ok hc h0 hp a2 q2 s2 (by simp)).mono ?_
 clear hc
 rintro e w3 ⟨rfl, hc⟩
 dsimp only
 repeat' (first | go_skip | go_guarded | go_step)
 refine (str_wc.at2 Cod.str_ok hc h0 hp a3 q3 s3 (by simp)).mono ?_
 clear hc
 rintro e w4 ⟨rfl, hc⟩
 dsimp only
 repeat' (first | go_skip | go_guarded | go_step)
 refine (str_wc.at2 Cod.str_ok hc h0 hp a4 q4 s4 (by simp)).mono ?_
 clear hc
 rintro e w5 ⟨rfl, hc⟩
 dsimp only
 repeat' (first | go_skip | go_guarded | go_step)
 refine (int_wc.at2 Cod.int_ok hc h0 hp a5 q5 s5 (by simp)).mono ?_
 clear hc
 rintro e w6 ⟨rfl, hc⟩
 dsimp only
 repeat' (first | go_skip | go_guarded | go_step)
 refine (int_wc.at2 Cod.int_ok hc h0 hp a6 q6 s6 (by simp)).mono ?_
 clear hc
 rintro e w7 ⟨rfl, hc⟩
 dsimp only
 repeat' (first | go_skip | go_guarded | go_step)
 refine (int_wc.at2 Cod.int_ok hc h0 hp a7 q7 s7 (by simp)).mono ?_
 clear hc
 rintro e w8 ⟨rfl, hc⟩
 dsimp only
 repeat' (first | go_skip | go_guarded | go_step)
 refine (str_wc.at2 Cod.str_ok hc h0 hp a8 q8 s8 (by simp)).mono ?_
 clear hc
 rintro e w9 ⟨rfl, hc⟩
 dsimp only
 repeat' (first | go_skip | go_guarded | go_step)
 refine (str_wc.at2 Cod.str_ok hc h0 hp a9 q9 s9 (by simp)).mono ?_
 clear hc
 rintro e w10 ⟨rfl, hc⟩
 dsimp only
 repeat' (first | go_skip | go_guarded | go_step)
 refine (origin_wc.at2 Cod.origin_ok hc h0 hp a10 q10 s10 (by simp)).mono ?_
 clear hc
 rintro e w11 ⟨rfl, hc⟩
 dsimp only
 repeat' (first | go_skip | go_guarded | go_step)
 refine ((lvar_w Cod.vari Cod.vari_ok rfl event1_wc).at2 (Cod.list_ok Cod.vari_ok) hc h0 hp a11 q11 s11 (by simp)).mono ?_
 clear hc
 rintro e w12 ⟨rfl, hc⟩
 dsimp only
 repeat' (first | go_skip | go_guarded | go_step)
 refine ((ltim_w Cod.timing Cod.timing_ok rfl event2_wc).at2 (Cod.list_ok Cod.timing_ok) hc h0 hp a12 q12 s12 (by simp)).mono ?_
 clear hc
 rintro e w13 ⟨rfl, hc⟩
 dsimp only
 repeat' (first | go_skip | go_guarded | go_step)
 refine (result_wc.at2 Cod.result_ok hc h0 hp a13 q13 s13 (by simp)).mono ?_
 clear hc
 rintro e w14 ⟨rfl, hc⟩
 dsimp only
 repeat' (first | go_skip | go_guarded | go_step)
 refine (machine_wc.at2 Cod.machine_ok hc h0 hp a14 q14 s14 (by simp)).mono ?_
 clear hc
 rintro e w15 ⟨rfl, hc⟩
 dsimp only
 repeat' (first | go_skip | go_guarded | go_step)
 refine (secret_wc.at2 Cod.secret_ok hc h0 hp a15 q15 s15 (by simp)).mono ?_
 clear hc
 rintro e w16 ⟨rfl, hc⟩
 dsimp only
 repeat' (first | go_skip | go_guarded | go_step)
 refine (entry_wc.at2 Cod.entry_ok hc h0 hp a16 q16 s16 (by simp)).mono ?_
 clear hc
 rintro e w17 ⟨rfl, hc⟩
 dsimp only
 repeat' ((fail_if_success at_builtin); first | go_skip | go_guarded | go_step)
 go_end0
 exact ⟨rfl, hc⟩
end Go.Proofs.YtgdapkglofchjaaGreatDoor
