/- Joined: JnG2 JnG3 JnG4 JnG9 JnGa. -/
import Derived.Test.YtgdapkglofchjaaGreatDoorF7
set_option maxRecDepth 100000
set_option maxHeartbeats 4000000
set_option linter.unusedVariables false
namespace Go.Proofs.YtgdapkglofchjaaGreatDoor
open Go.RowKit
def rFB (B : Nat) : Rd FV := fun w S f cs => rF w (fun b => B ≤ b ∧ S b) f cs
theorem rFB_ok (B : Nat) : RdOk (rFB B) := fun w w' S S' x cs hk hS h => rF_ok _ _ _ _ _ _ (fun p hp => hk p hp.2) (fun b hb => ⟨hb.1, hS b hb.2⟩) h
theorem rFB_one (B : Nat) : RdOne (rFB B) := fun w S x cs h => rF_one _ _ _ _ h
theorem rFB_of {B : Nat} {w1 wr w2 : World} {v : Value} {l : List FV} {e : TypeId} {f : FV} {cs : List Value} (H : OwnR (rFB B) 4 w1 wr e v l) (hF : rF w2 (Fresh wr w2) f cs) (hB : B ≤ wr.heap.size) : rFB B w2 (Beh w2 v) f cs :=
 rF_ok _ _ _ _ _ _ (fun _ _ => rfl) (fun b hb => ⟨Nat.le_trans hB hb.1, beh_lo H hb.1 hb.2⟩) hF
theorem rl_conv {B : Nat} {z : World} {S : Nat → Prop} : ∀ {l : List FV} {cs : List Value}, RList (rFB B) 4 z S l cs → RList rF 4 z (fun b => B ≤ b ∧ S b) l cs
 | [], _, h => h
 | _ :: _, _, ⟨c1, c2, h1, h2, h3, h4⟩ => ⟨c1, c2, h1, h2, h3, rl_conv h4⟩
theorem far4g (w : World) (g : Nat) (u0 u1 u2 u3 : Value) : (∀ p : Addr, p.block ≠ g → ((((w.setCell ⟨g, 0, none⟩ u0).setCell ⟨g, 1, none⟩ u1).setCell ⟨g, 2, none⟩ u2).setCell ⟨g, 3, none⟩ u3).cell? p = w.cell? p) ∧ ((((w.setCell ⟨g, 0, none⟩ u0).setCell ⟨g, 1, none⟩ u1).setCell ⟨g, 2, none⟩ u2).setCell ⟨g, 3, none⟩ u3).heap.size = w.heap.size :=
 ⟨fun p hp => by rw [World.cell?_setCell_far _ _ _ _ (fun e => hp e.symm), World.cell?_setCell_far _ _ _ _ (fun e => hp e.symm), World.cell?_setCell_far _ _ _ _ (fun e => hp e.symm), World.cell?_setCell_far _ _ _ _ (fun e => hp e.symm)], by simp [World.setCell]⟩
theorem rf_far {w w1 z z9 : World} {g : Nat} {f : FV} {cs : List Value} (h : rF z (Fresh w1 z) f cs) (hg : g < w1.heap.size) (hw : w.heap.size ≤ w1.heap.size) (h9 : (∀ p : Addr, p.block ≠ g → z9.cell? p = z.cell? p) ∧ z9.heap.size = z.heap.size) : rF z9 (Fresh w z9) f cs :=
 rF_ok _ _ _ _ _ _ (fun p hp => h9.1 p (fun e => by have := hp.1; omega)) (fun b hb => ⟨Nat.le_trans hw hb.1, by rw [h9.2]; exact hb.2⟩) h
theorem ownR_fl {w w1 z : World} {A : Option Addr} {c : Nat} {l : List FV} {e : TypeId} (H : OwnR (rFB w1.heap.size) 4 w1 z e (.slice A l.length c) l) (hw : w.heap.size ≤ w1.heap.size) : rF z (Fresh w z) (fL l) [.int .i64 2, .int .i64 0, .string ⟨#[]⟩, .slice A l.length c] := by
 obtain ⟨cs, hO, hL⟩ := H
 refine ⟨A, c, cs, by show _ = [Value.int .i64 2, Value.int .i64 0, Value.string ⟨#[]⟩, Value.slice _ (ofL l).length _]; rw [ofL_length], ii2, ii0, ⟨⟨?_, ?_⟩, ?_⟩, rep_of (RList.map (fun x c hc => rF_ok _ _ _ _ _ _ (fun _ _ => rfl) (fun b hb => ⟨Nat.le_trans hw hb.1, hb.2.1⟩) hc) (rl_conv hL))⟩
 ·show cs.length = (ofL l).length * 4
  rw [ofL_length]; exact hO.1.1
 ·show 0 < (ofL l).length → _
  rw [ofL_length]
  intro h0
  obtain ⟨r, h1, h2, h3, h4, _⟩ := hO.head h0
  exact ⟨r, 0, h1, ⟨Nat.le_trans hw h2, h3⟩, fun j u hu => by rw [Nat.zero_add]; exact h4 j u hu⟩
 ·show (ofL l).length ≤ c
  rw [ofL_length]; exact hO.cap_le
theorem flag_fc : Form1 111 Cod.flag := by
 intro w f v hr hs
 obtain ⟨b, rfl, h⟩ := hr
 injection h with h
 subst h
 cases b with
 | true =>
  go_enter Tryz.func111, Tryz.ntmps111
  go_upto_region 1 with (fail)
  generalize hx_ : World.alloc w _ = wo1
  have hO1 := own_new hx_
  have hbn : Below w.heap.size w wo1 := by rw [← hx_]; exact (Below.refl _ _).alloc (Nat.le_refl _) _
  have zwo1 : wo1.heap.size = w.heap.size + 1 := by rw [← hx_]; simp
  clear hx_
  obtain ⟨c0_0, c0_1, c0_2, c0_3, cf0⟩ := own4 hO1
  clear hbn
  have hlt0 : w.heap.size < wo1.heap.size := hO1.lt 0
  repeat' (first | go_skip | go_guarded | go_step)
  refine (num_any 1 ii1 wo1).mono ?_
  rintro e w2 ⟨A, c, rfl, hF, hb2⟩
  dsimp only at hF ⊢
  have zw2 := hb2.size
  have hO2 : OwnB w w2 [(w.heap.size, [.int .i64 0, .int .i64 0, .string ⟨#[]⟩, .slice none 0 0])] := hO1.kept hb2
  clear c0_0 c0_1 c0_2 c0_3 cf0 hO1
  obtain ⟨c0_0, c0_1, c0_2, c0_3, cf0⟩ := own4 hO2
  repeat' ((fail_if_success at_builtin); first | go_skip | go_guarded | go_step)
  have hO9 := (((hO2.store 0 rfl 0 (.int .i64 0)).store 0 rfl 1 (.int .i64 1)).store 0 rfl 2 (.string ByteArray.empty)).store 0 rfl 3 (.slice A (Flds.length .nil) c)
  have h9 := far4g w2 w.heap.size (.int .i64 0) (.int .i64 1) (.string ByteArray.empty) (.slice A (Flds.length .nil) c)
  generalize World.setCell (World.setCell (World.setCell (World.setCell w2 _ _) _ _) _ _) _ _ = w9 at *
  have y0 := hO9.c 0 0
  have y1 := hO9.c 0 1
  have y2 := hO9.c 0 2
  have y3 := hO9.c 0 3
  replace hF := rf_far (w := w) hF hlt0 (Nat.le_of_lt hlt0) h9
  refine bodyPost_ret (v := .agg #[.int .i64 0, .int .i64 1, .string ByteArray.empty, .slice A (Flds.length .nil) c]) (by simp only [results, Tryz.results111]; go_simp; first | done | exact ⟨rfl, rfl, rfl⟩ | rfl) rfl ?_
  exact ⟨A, c, rfl, hF, hO9.below⟩
 | false =>
  go_enter Tryz.func111, Tryz.ntmps111
  go_upto_region 1 with (fail)
  generalize hx_ : World.alloc w _ = wo1
  have hO1 := own_new hx_
  have hbn : Below w.heap.size w wo1 := by rw [← hx_]; exact (Below.refl _ _).alloc (Nat.le_refl _) _
  have zwo1 : wo1.heap.size = w.heap.size + 1 := by rw [← hx_]; simp
  clear hx_
  obtain ⟨c0_0, c0_1, c0_2, c0_3, cf0⟩ := own4 hO1
  clear hbn
  have hlt0 : w.heap.size < wo1.heap.size := hO1.lt 0
  repeat' (first | go_skip | go_guarded | go_step)
  refine (num_any 0 ii0 wo1).mono ?_
  rintro e w2 ⟨A, c, rfl, hF, hb2⟩
  dsimp only at hF ⊢
  have zw2 := hb2.size
  have hO2 : OwnB w w2 [(w.heap.size, [.int .i64 0, .int .i64 0, .string ⟨#[]⟩, .slice none 0 0])] := hO1.kept hb2
  clear c0_0 c0_1 c0_2 c0_3 cf0 hO1
  obtain ⟨c0_0, c0_1, c0_2, c0_3, cf0⟩ := own4 hO2
  repeat' ((fail_if_success at_builtin); first | go_skip | go_guarded | go_step)
  have hO9 := (((hO2.store 0 rfl 0 (.int .i64 0)).store 0 rfl 1 (.int .i64 0)).store 0 rfl 2 (.string ByteArray.empty)).store 0 rfl 3 (.slice A (Flds.length .nil) c)
  have h9 := far4g w2 w.heap.size (.int .i64 0) (.int .i64 0) (.string ByteArray.empty) (.slice A (Flds.length .nil) c)
  generalize World.setCell (World.setCell (World.setCell (World.setCell w2 _ _) _ _) _ _) _ _ = w9 at *
  have y0 := hO9.c 0 0
  have y1 := hO9.c 0 1
  have y2 := hO9.c 0 2
  have y3 := hO9.c 0 3
  replace hF := rf_far (w := w) hF hlt0 (Nat.le_of_lt hlt0) h9
  refine bodyPost_ret (v := .agg #[.int .i64 0, .int .i64 0, .string ByteArray.empty, .slice A (Flds.length .nil) c]) (by simp only [results, Tryz.results111]; go_simp; first | done | exact ⟨rfl, rfl, rfl⟩ | rfl) rfl ?_
  exact ⟨A, c, rfl, hF, hO9.below⟩
theorem strs_fc : Form1 115 (Cod.list Cod.str) := by
 intro w f v hr hs
 obtain ⟨m, A, c, rfl, h, hR⟩ := hr
 injection h with h
 subst h
 rw [fsz_fL] at hs
 have hm := lsz_length m
 go_enter Tryz.func115, Tryz.ntmps115
 go_upto_region 1 with (fail)
 generalize hx_ : World.alloc w _ = wo1
 have hO1 := own_new hx_
 have hbn : Below w.heap.size w wo1 := by rw [← hx_]; exact (Below.refl _ _).alloc (Nat.le_refl _) _
 have zwo1 : wo1.heap.size = w.heap.size + 1 := by rw [← hx_]; simp
 clear hx_
 obtain ⟨c0_0, c0_1, c0_2, c0_3, cf0⟩ := own4 hO1
 clear hbn
 have hb0 := hO1.below
 have hz0 : w.heap.size < wo1.heap.size := hO1.lt 0
 have hR0 := OwnR.nil (r := rFB wo1.heap.size) (sz := 4) wo1 fldT
 replace hR := Lib.hid hR
 repeat' (first | go_skip | go_guarded | go_step)
 go_loopw [3, 4] (fun u3 u4 wr => ∃ (i : Nat) (A' : Option Addr) (n' c' : Nat), i ≤ m.length ∧ u4 = .int .i64 (i : Int) ∧ u3 = .slice A' n' c' ∧ n' = (m.take i).length ∧ OwnR (rFB wo1.heap.size) 4 wo1 wr fldT (.slice A' n' c') (m.take i)) (fun _ u4 _ => m.length - (intOf u4).toNat)
 case atStart => exact ⟨0, none, 0, 0, Nat.zero_le _, rfl, rfl, rfl, hR0⟩
 case round =>
  clear hR0
  obtain ⟨i, A', n', c', hi, rfl, rfl, hn', hL⟩ := hrel
  replace hn' := Lib.hid hn'
  have hbr := hL.bel
  have hO2 : OwnB w wr [(w.heap.size, [.int .i64 0, .int .i64 0, .string ⟨#[]⟩, .slice none 0 0])] := hO1.kept hbr
  clear c0_0 c0_1 c0_2 c0_3 cf0 hO1
  obtain ⟨c0_0, c0_1, c0_2, c0_3, cf0⟩ := own4 hO2
  by_cases hlt : i < m.length
  ·obtain ⟨x, hx⟩ : ∃ x, m[i]? = some x := ⟨_, List.getElem?_eq_getElem hlt⟩
   obtain ⟨b, o', k1, rfl, hb, hkl, hrx, hat⟩ := hR.out.at_ hx
   obtain ⟨vx, rfl⟩ := one_list hkl
   have hbw : Below w.heap.size w wr := hb0.trans (hbr.mono hb0.size)
   have e1 := (hbw.cell (p := ⟨b, o' + i * 1 + 0, none⟩) hb).trans (hat 0 _ rfl)
   rw [Nat.add_zero, Nat.mul_one] at e1
   have f1 : (0 : Int) ≤ (i : Int) := by omega
   have f2 : (i : Int) < (m.length : Int) := by omega
   have hsx : fsz x ≤ 1000000000 := by have := fsz_mem (List.mem_of_getElem? hx); omega
   repeat' (first | go_skip | go_guarded | go_step)
   refine (str_fc wr x vx (Cod.str_ok.up hrx hbw) hsx).mono ?_
   rintro e w2 ⟨A2, c2, rfl, hF, hb2⟩
   dsimp only
   have hx2 := rFB_of hL hF hbr.size
   clear hF
   have f3 : IntKind.i64.wrap ((i : Int) + 1) = (i : Int) + 1 := IntWalk.i64_in _ (by omega)
   replace hx2 := Lib.hid hx2
   repeat' ((fail_if_success at_builtin); first | go_skip | go_guarded | go_step)
   refine wp_appR1 (rFB_ok _) hL hb2 hx2.out fld_und fld_info (by rw [List.length_take]; omega) ?_
   intro v5 w5 hL5
   clear hL hx2
   obtain ⟨A5, c5, rfl⟩ := hL5.form
   generalize hnn : (m.take i ++ [x]).length = n5 at *
   replace hnn := Lib.hid hnn
   repeat' (first | go_skip | go_guarded | go_step)
   go_roundw
   case rel =>
    have e5 : m.take (i + 1) = m.take i ++ [x] := by rw [List.take_add_one, hx]; rfl
    refine ⟨i + 1, A5, n5, c5, by omega, by congr 1, rfl, by rw [e5]; exact hnn.out.symm, by rw [e5]; exact hL5⟩
   case measure => simp [intOf]; omega
  ·obtain rfl : i = m.length := by omega
   have hn2 := hn'.out
   rw [List.take_length] at hL hn2
   subst hn2
   clear hn'
   repeat' (first | go_skip | go_guarded | go_step)
   refine (seq_any A' m.length c' wr).mono ?_
   rintro e w2 ⟨rfl, hb2⟩
   dsimp only
   have hF := ownR_fl (hL.below (rFB_ok _) hb2) (Nat.le_refl _)
   have zw2 := hb2.size
   have hO3 : OwnB w w2 [(w.heap.size, [.int .i64 0, .int .i64 0, .string ⟨#[]⟩, .slice none 0 0])] := hO2.kept hb2
   clear c0_0 c0_1 c0_2 c0_3 cf0 hO2
   obtain ⟨c0_0, c0_1, c0_2, c0_3, cf0⟩ := own4 hO3
   repeat' ((fail_if_success at_builtin); first | go_skip | go_guarded | go_step)
   have hO9 := (((hO3.store 0 rfl 0 (.int .i64 2)).store 0 rfl 1 (.int .i64 0)).store 0 rfl 2 (.string ⟨#[]⟩)).store 0 rfl 3 (.slice A' m.length c')
   have h9 := far4g w2 w.heap.size (.int .i64 2) (.int .i64 0) (.string ⟨#[]⟩) (.slice A' m.length c')
   generalize World.setCell (World.setCell (World.setCell (World.setCell w2 _ _) _ _) _ _) _ _ = w9 at *
   have y0 := hO9.c 0 0
   have y1 := hO9.c 0 1
   have y2 := hO9.c 0 2
   have y3 := hO9.c 0 3
   replace hF := rf_far (w := w) hF hz0 (Nat.le_of_lt hz0) h9
   refine bodyPost_ret (v := .agg #[.int .i64 2, .int .i64 0, .string ⟨#[]⟩, .slice A' m.length c']) (by simp only [results, Tryz.results115]; go_simp; first | done | exact ⟨rfl, rfl, rfl⟩ | rfl) rfl ?_
   have e9 := ofL_length m
   exact ⟨A', c', by show _ = Ending.returned (.agg #[.int .i64 2, .int .i64 0, .string ⟨#[]⟩, .slice A' (ofL m).length c']); rw [e9], by show rF _ _ _ [.int .i64 2, .int .i64 0, .string ⟨#[]⟩, .slice A' (ofL m).length c']; rw [e9]; exact hF, hO9.below⟩
theorem ints_fc : Form1 116 (Cod.list Cod.int) := by
 intro w f v hr hs
 obtain ⟨m, A, c, rfl, h, hR⟩ := hr
 injection h with h
 subst h
 rw [fsz_fL] at hs
 have hm := lsz_length m
 go_enter Tryz.func116, Tryz.ntmps116
 go_upto_region 1 with (fail)
 generalize hx_ : World.alloc w _ = wo1
 have hO1 := own_new hx_
 have hbn : Below w.heap.size w wo1 := by rw [← hx_]; exact (Below.refl _ _).alloc (Nat.le_refl _) _
 have zwo1 : wo1.heap.size = w.heap.size + 1 := by rw [← hx_]; simp
 clear hx_
 obtain ⟨c0_0, c0_1, c0_2, c0_3, cf0⟩ := own4 hO1
 clear hbn
 have hb0 := hO1.below
 have hz0 : w.heap.size < wo1.heap.size := hO1.lt 0
 have hR0 := OwnR.nil (r := rFB wo1.heap.size) (sz := 4) wo1 fldT
 replace hR := Lib.hid hR
 repeat' (first | go_skip | go_guarded | go_step)
 go_loopw [3, 4] (fun u3 u4 wr => ∃ (i : Nat) (A' : Option Addr) (n' c' : Nat), i ≤ m.length ∧ u4 = .int .i64 (i : Int) ∧ u3 = .slice A' n' c' ∧ n' = (m.take i).length ∧ OwnR (rFB wo1.heap.size) 4 wo1 wr fldT (.slice A' n' c') (m.take i)) (fun _ u4 _ => m.length - (intOf u4).toNat)
 case atStart => exact ⟨0, none, 0, 0, Nat.zero_le _, rfl, rfl, rfl, hR0⟩
 case round =>
  clear hR0
  obtain ⟨i, A', n', c', hi, rfl, rfl, hn', hL⟩ := hrel
  replace hn' := Lib.hid hn'
  have hbr := hL.bel
  have hO2 : OwnB w wr [(w.heap.size, [.int .i64 0, .int .i64 0, .string ⟨#[]⟩, .slice none 0 0])] := hO1.kept hbr
  clear c0_0 c0_1 c0_2 c0_3 cf0 hO1
  obtain ⟨c0_0, c0_1, c0_2, c0_3, cf0⟩ := own4 hO2
  by_cases hlt : i < m.length
  ·obtain ⟨x, hx⟩ : ∃ x, m[i]? = some x := ⟨_, List.getElem?_eq_getElem hlt⟩
   obtain ⟨b, o', k1, rfl, hb, hkl, hrx, hat⟩ := hR.out.at_ hx
   obtain ⟨vx, rfl⟩ := one_list hkl
   have hbw : Below w.heap.size w wr := hb0.trans (hbr.mono hb0.size)
   have e1 := (hbw.cell (p := ⟨b, o' + i * 1 + 0, none⟩) hb).trans (hat 0 _ rfl)
   rw [Nat.add_zero, Nat.mul_one] at e1
   have f1 : (0 : Int) ≤ (i : Int) := by omega
   have f2 : (i : Int) < (m.length : Int) := by omega
   have hsx : fsz x ≤ 1000000000 := by have := fsz_mem (List.mem_of_getElem? hx); omega
   repeat' (first | go_skip | go_guarded | go_step)
   refine (num_fc wr x vx (Cod.int_ok.up hrx hbw) hsx).mono ?_
   rintro e w2 ⟨A2, c2, rfl, hF, hb2⟩
   dsimp only
   have hx2 := rFB_of hL hF hbr.size
   clear hF
   have f3 : IntKind.i64.wrap ((i : Int) + 1) = (i : Int) + 1 := IntWalk.i64_in _ (by omega)
   replace hx2 := Lib.hid hx2
   repeat' ((fail_if_success at_builtin); first | go_skip | go_guarded | go_step)
   refine wp_appR1 (rFB_ok _) hL hb2 hx2.out fld_und fld_info (by rw [List.length_take]; omega) ?_
   intro v5 w5 hL5
   clear hL hx2
   obtain ⟨A5, c5, rfl⟩ := hL5.form
   generalize hnn : (m.take i ++ [x]).length = n5 at *
   replace hnn := Lib.hid hnn
   repeat' (first | go_skip | go_guarded | go_step)
   go_roundw
   case rel =>
    have e5 : m.take (i + 1) = m.take i ++ [x] := by rw [List.take_add_one, hx]; rfl
    refine ⟨i + 1, A5, n5, c5, by omega, by congr 1, rfl, by rw [e5]; exact hnn.out.symm, by rw [e5]; exact hL5⟩
   case measure => simp [intOf]; omega
  ·obtain rfl : i = m.length := by omega
   have hn2 := hn'.out
   rw [List.take_length] at hL hn2
   subst hn2
   clear hn'
   repeat' (first | go_skip | go_guarded | go_step)
   refine (seq_any A' m.length c' wr).mono ?_
   rintro e w2 ⟨rfl, hb2⟩
   dsimp only
   have hF := ownR_fl (hL.below (rFB_ok _) hb2) (Nat.le_refl _)
   have zw2 := hb2.size
   have hO3 : OwnB w w2 [(w.heap.size, [.int .i64 0, .int .i64 0, .string ⟨#[]⟩, .slice none 0 0])] := hO2.kept hb2
   clear c0_0 c0_1 c0_2 c0_3 cf0 hO2
   obtain ⟨c0_0, c0_1, c0_2, c0_3, cf0⟩ := own4 hO3
   repeat' ((fail_if_success at_builtin); first | go_skip | go_guarded | go_step)
   have hO9 := (((hO3.store 0 rfl 0 (.int .i64 2)).store 0 rfl 1 (.int .i64 0)).store 0 rfl 2 (.string ⟨#[]⟩)).store 0 rfl 3 (.slice A' m.length c')
   have h9 := far4g w2 w.heap.size (.int .i64 2) (.int .i64 0) (.string ⟨#[]⟩) (.slice A' m.length c')
   generalize World.setCell (World.setCell (World.setCell (World.setCell w2 _ _) _ _) _ _) _ _ = w9 at *
   have y0 := hO9.c 0 0
   have y1 := hO9.c 0 1
   have y2 := hO9.c 0 2
   have y3 := hO9.c 0 3
   replace hF := rf_far (w := w) hF hz0 (Nat.le_of_lt hz0) h9
   refine bodyPost_ret (v := .agg #[.int .i64 2, .int .i64 0, .string ⟨#[]⟩, .slice A' m.length c']) (by simp only [results, Tryz.results116]; go_simp; first | done | exact ⟨rfl, rfl, rfl⟩ | rfl) rfl ?_
   have e9 := ofL_length m
   exact ⟨A', c', by show _ = Ending.returned (.agg #[.int .i64 2, .int .i64 0, .string ⟨#[]⟩, .slice A' (ofL m).length c']); rw [e9], by show rF _ _ _ [.int .i64 2, .int .i64 0, .string ⟨#[]⟩, .slice A' (ofL m).length c']; rw [e9]; exact hF, hO9.below⟩
theorem origin_fc : FormS 66 Cod.origin := by
 intro w f cs hr hs
 obtain ⟨fs, rfl, hr⟩ := hr
 obtain ⟨f1, r1, k1, d1, rfl, rfl, q1, hr⟩ := hr
 obtain ⟨f2, r2, k2, d2, rfl, rfl, q2, hr⟩ := hr
 obtain ⟨f3, r3, k3, d3, rfl, rfl, q3, hr⟩ := hr
 obtain ⟨rfl, rfl⟩ := hr
 rw [fsz_fL] at hs
 obtain ⟨s1, s2, s3, -⟩ := szs (N := 1000000000) (l := [f1, f2, f3]) (by omega)
 obtain ⟨v1, rfl⟩ := one_list (Cod.str_ok.len q1)
 obtain ⟨v2, rfl⟩ := one_list (Cod.str_ok.len q2)
 obtain ⟨v3, rfl⟩ := one_list (Cod.flag_ok.len q3)
 show Calls _ _ #[.agg #[v1, v2, v3]] _ _
 go_enter Tryz.func66, Tryz.ntmps66
 go_upto_region 1 with (fail)
 generalize hx_ : World.alloc (World.alloc w _) _ = wo1
 have hP1 : OwnB w wo1 [(w.heap.size + 1, [.int .i64 0, .int .i64 0, .string ⟨#[]⟩, .slice none 0 0]), (w.heap.size, [v1, v2, v3])] := by rw [← hx_]; exact ((OwnB.refl w).new #[v1, v2, v3] _ (g := w.heap.size)).new #[.int .i64 0, .int .i64 0, .string ⟨#[]⟩, .slice none 0 0] _ (g := w.heap.size + 1)
 have hbn : Below w.heap.size w wo1 := by rw [← hx_]; exact ((Below.refl _ _).alloc (Nat.le_refl _) _).alloc (by simp) _
 have zwo1 : wo1.heap.size = w.heap.size + 2 := by rw [← hx_]; simp
 clear hx_
 have c0_0 := hP1.c 0 0
 have c0_1 := hP1.c 0 1
 have c0_2 := hP1.c 0 2
 have c0_3 := hP1.c 0 3
 have cf0 := hP1.fr 0
 have c1_0 := hP1.c 1 0
 have c1_1 := hP1.c 1 1
 have c1_2 := hP1.c 1 2
 have cf1 := hP1.fr 1
 clear hbn
 have hz : wo1.heap.size ≤ wo1.heap.size := Nat.le_refl _
 have hlt1 : w.heap.size + 1 < wo1.heap.size := hP1.lt 0
 clear zwo1
 have hO := hP1.drew
 have hz : wo1.heap.size ≤ wo1.drew.heap.size := Nat.le_refl _
 refine wp_region_held_drew (S := (fun w' => w'.cell? ⟨w.heap.size, 0, none⟩ = some (v1) ∧ w'.cell? ⟨w.heap.size, 1, none⟩ = some (v2) ∧ w'.cell? ⟨w.heap.size, 2, none⟩ = some (v3))) (by kernel_rfl) ?_ (fun hHeld => ?_)
 ·(try dsimp only)
  exact ⟨hO.c 1 0, hO.c 1 1, hO.c 1 2⟩
 generalize World.drew wo1 = vd at *
 refine tkQ 0 ?_
 refine tkQ 1 ?_
 refine tkQ 3 ?_
 refine tkQ 4 ?_
 refine tkQ 6 ?_
 refine tkQ 7 ?_
 refine rdO 2 fun K hK => ?_
 go_simp
 go_at_call 65
 refine (str_fc vd f1 v1 (Cod.str_ok.up q1 hO.below) s1).mono ?_
 rintro e z1 ⟨A1, c1, rfl, hF1, hbq⟩
 dsimp only
 replace hF1 := rf_lo hF1 hz
 replace hO := hO.kept hbq
 have hz_ := hz
 replace hz := Nat.le_trans hz hbq.size
 refine hkO hK ⟨hO.c 1 0, hO.c 1 1, hO.c 1 2⟩ fun hHeld => ?_
 clear hK K
 refine rdO 5 fun K hK => ?_
 go_simp
 go_at_call 65
 refine (str_fc z1 f2 v2 (Cod.str_ok.up q2 hO.below) s2).mono ?_
 rintro e z2 ⟨A2, c2, rfl, hF2, hbq⟩
 dsimp only
 replace hF2 := rf_lo hF2 hz
 replace hF1 := rf_up hF1 hbq
 replace hO := hO.kept hbq
 have hz_ := hz
 replace hz := Nat.le_trans hz hbq.size
 refine hkO hK ⟨hO.c 1 0, hO.c 1 1, hO.c 1 2⟩ fun hHeld => ?_
 clear hK K
 refine rdO 8 fun K hK => ?_
 go_simp
 go_at_call 111
 refine (flag_fc z2 f3 v3 (Cod.flag_ok.up q3 hO.below) s3).mono ?_
 rintro e z3 ⟨A3, c3, rfl, hF3, hbq⟩
 dsimp only
 replace hF3 := rf_lo hF3 hz
 replace hF1 := rf_up hF1 hbq
 replace hF2 := rf_up hF2 hbq
 replace hO := hO.kept hbq
 have hz_ := hz
 replace hz := Nat.le_trans hz hbq.size
 refine hkO hK ⟨hO.c 1 0, hO.c 1 1, hO.c 1 2⟩ fun hHeld => ?_
 clear hK K
 refine rdO 9 fun K hK => ?_
 go_simp
 generalize hx_ : World.alloc z3 _ = z4
 have hbq : Below z3.heap.size z3 z4 := by rw [← hx_]; exact (Below.refl _ _).alloc (Nat.le_refl _) _
 have hC : CellsAt z4 z3.heap.size (fC f1 A1 c1 ++ (fC f2 A2 c2 ++ (fC f3 A3 c3 ++ ([])))) := by rw [← hx_]; exact CellsAt.new z3 _ _
 clear hx_
 replace hF1 := rf_up hF1 hbq
 replace hF2 := rf_up hF2 hbq
 replace hF3 := rf_up hF3 hbq
 replace hO := hO.kept hbq
 have hz_ := hz
 replace hz := Nat.le_trans hz hbq.size
 have hL := rl_cons hF1 (rl_cons hF2 (rl_cons hF3 (rl_nil)))
 have hFR := seq_of hC hz_ hL (n := 3) rfl
 clear hC hL hF1 hF2 hF3
 refine hkO hK ⟨hO.c 1 0, hO.c 1 1, hO.c 1 2⟩ fun hHeld => ?_
 clear hK K
 refine rdO 10 fun K hK => ?_
 go_simp
 go_at_call 39
 refine (seq_any _ _ _ _).mono ?_
 rintro e z5 ⟨rfl, hbq⟩
 dsimp only
 replace hFR := rf_up hFR hbq
 replace hO := hO.kept hbq
 have hz_ := hz
 replace hz := Nat.le_trans hz hbq.size
 refine hkO hK ⟨hO.c 1 0, hO.c 1 1, hO.c 1 2⟩ fun hHeld => ?_
 clear hK K
 refine rdO 11 fun K hK => ?_
 have y0 := hO.c 0 0
 have y1 := hO.c 0 1
 have y2 := hO.c 0 2
 have y3 := hO.c 0 3
 have yf := hO.fr 0
 go_simp
 clear y0 y1 y2 y3 yf
 have hO9 := (((hO.store 0 rfl 0 (.int .i64 2)).store 0 rfl 1 (.int .i64 0)).store 0 rfl 2 (.string ⟨#[]⟩)).store 0 rfl 3 (.slice (some ⟨z3.heap.size, 0, none⟩) 3 3)
 have h9 := far4g z5 (w.heap.size + 1) (.int .i64 2) (.int .i64 0) (.string ⟨#[]⟩) (.slice (some ⟨z3.heap.size, 0, none⟩) 3 3)
 generalize World.setCell (World.setCell (World.setCell (World.setCell z5 _ _) _ _) _ _) _ _ = w9 at *
 refine hkO hK ⟨hO9.c 1 0, hO9.c 1 1, hO9.c 1 2⟩ fun hHeld => ?_
 clear hK K
 refine wpAnyH_done (by kernel_rfl) ?_ _
 clear hHeld
 have y0 := hO9.c 0 0
 have y1 := hO9.c 0 1
 have y2 := hO9.c 0 2
 have y3 := hO9.c 0 3
 replace hFR := rf_far (w := w) hFR hlt1 (Nat.le_of_lt (Nat.lt_of_succ_lt hlt1)) h9
 repeat' (first | go_skip | go_guarded | go_step)
 refine bodyPost_ret (v := .agg #[.int .i64 2, .int .i64 0, .string ⟨#[]⟩, .slice (some ⟨z3.heap.size, 0, none⟩) 3 3]) (by simp only [results, Tryz.results66]; go_simp; first | done | exact ⟨rfl, rfl, rfl⟩ | rfl) rfl ?_
 exact ⟨some ⟨z3.heap.size, 0, none⟩, 3, rfl, hFR, hO9.below⟩
theorem box_rs {B : Nat} {w1 wr z : World} {v : Value} {l : List FV} {e : TypeId} {f : FV} {cs : List Value} {bx : Nat} (H : OwnR (rFB B) 4 w1 wr e v l) (hc : CellsAt z bx cs) (hb : wr.heap.size ≤ bx) (hF : rF z (Fresh wr z) f cs) (hB : B ≤ wr.heap.size) : RSlice (rFB B) 4 z (Beh z v) (some ⟨bx, 0, none⟩) 1 1 [f] :=
 ⟨rfl, Nat.le_refl _, (fun h => by cases h), cs, ⟨rF_len hF, fun _ => ⟨bx, 0, rfl, beh_lo H hb hc.lt, fun j u hu => by rw [Nat.zero_add]; exact hc.cell j u hu⟩⟩, RList.one (rFB_of H hF hB) (rF_len hF)⟩
theorem at_up {w z : World} {b o : Nat} {cs : List Value} (h : w.rangeAt b o cs) (hb : Below w.heap.size w z) (hl : b < w.heap.size) : z.rangeAt b o cs := fun j v hj => (hb.cell (p := ⟨b, o + j, none⟩) hl).trans (h j v hj)
theorem step_appRS {α : Type} {r : Rd α} {l m : List α} {P : Program} {ops : Array Oper} {o : Oper} {a : Act} {K : Act → World → Prop} {Q : Exit → Act → World → Prop} {E : Prop} {w w0 : World} {e : TypeId} {sz c : Nat} {v : Value} {A : Option Addr} (hr : RdOk r) (h1 : RdOne r) (H : OwnR r sz w0 w e v l) {k : Nat} (hx : RSlice r sz w (Beh w v) A k c m) {t : TypeId} {z : Value} {bytes : Nat} (ht : P.underlying t = some (.slice e)) (hi : Info P e z sz bytes)
  (hbytes : (l.length + k) * bytes ≤ 140737488355328)
  (h : ∀ v' w', OwnR r sz w0 w' e v' (l ++ m) → Grew w w' v v' → K (a.put o.dst v') w')
  {s y : Operand} (hgd : o.guard = none := by rfl) (ho : o.op = .call { callee := .builtin .append, args := #[s, y], argTypes := #[t, t] } := by rfl)
  (hs : a.eval s = v := by rfl) (hy : a.eval y = .slice A k c := by rfl) (hzs : z.cells.size = sz := by rfl) (hsz : 0 < sz := by decide) (hby : 0 < bytes := by decide) :
  if Region.wanted o (yielded ops a.tmps) = true then Oper.wp P o a w K Q else E := by
 obtain ⟨ds, H1, H2⟩ := H
 obtain ⟨rfl, hc, hn, cs, hseq, hlist⟩ := hx
 refine step_appS (B := w.heap.size) H1 ht hi (hseq.imp fun b hb => hb.1) (RList.one_cell (fun x c hc => h1 _ _ x c hc) hlist) hbytes (fun v' w' hO hg => ?_) hgd ho hs hy hzs hsz hby
 obtain ⟨ds2, J1, J2⟩ := (show OwnR r sz w0 w e v l from ⟨ds, H1, H2⟩).below hr (Below.refl _ _)
 exact h v' w' (OwnR.grew hr (wa := w) (by rw [List.length_append]; exact hO) hg H2 hlist) hg
theorem times_fc : Form1 68 (Cod.list Cod.timing) := by
 intro w f v hr hs
 obtain ⟨m, A, c, rfl, h, hR⟩ := hr
 injection h with h
 subst h
 rw [fsz_fL] at hs
 have hm := lsz_length m
 go_enter Tryz.func68, Tryz.ntmps68
 go_upto_region 1 with (fail)
 generalize hx_ : World.alloc w _ = wo1
 have hP1 : OwnB w wo1 [(w.heap.size, [.int .i64 0, .int .i64 0, .string ⟨#[]⟩, .slice none 0 0])] := by rw [← hx_]; exact (OwnB.refl w).new #[.int .i64 0, .int .i64 0, .string ⟨#[]⟩, .slice none 0 0] _ (g := w.heap.size)
 have hbn : Below w.heap.size w wo1 := by rw [← hx_]; exact (Below.refl _ _).alloc (Nat.le_refl _) _
 have zwo1 : wo1.heap.size = w.heap.size + 1 := by rw [← hx_]; simp
 clear hx_
 have c0_0 := hP1.c 0 0
 have c0_1 := hP1.c 0 1
 have c0_2 := hP1.c 0 2
 have c0_3 := hP1.c 0 3
 have cf0 := hP1.fr 0
 clear hbn
 clear zwo1
 have hb0 := hP1.below
 have hz0 : w.heap.size < wo1.heap.size := hP1.lt 0
 have hR0 := OwnR.nil (r := rFB wo1.heap.size) (sz := 4) wo1 fldT
 replace hR := Lib.hid hR
 repeat' (first | go_skip | go_guarded | go_step)
 go_loopw [3, 4] (fun u3 u4 wr => ∃ (i : Nat) (A' : Option Addr) (n' c' : Nat), i ≤ m.length ∧ u4 = .int .i64 (i : Int) ∧ u3 = .slice A' n' c' ∧ n' = (m.take i).length ∧ OwnR (rFB wo1.heap.size) 4 wo1 wr fldT (.slice A' n' c') (m.take i)) (fun _ u4 _ => m.length - (intOf u4).toNat)
 case atStart => exact ⟨0, none, 0, 0, Nat.zero_le _, rfl, rfl, rfl, hR0⟩
 case round =>
  clear hR0
  obtain ⟨i, A', n', c', hi, rfl, rfl, hn', hL⟩ := hrel
  replace hn' := Lib.hid hn'
  have hbr := hL.bel
  have hP2 : OwnB w wr [(w.heap.size, [.int .i64 0, .int .i64 0, .string ⟨#[]⟩, .slice none 0 0])] := hP1.kept hbr
  clear c0_0 c0_1 c0_2 c0_3 cf0 hP1
  have c0_0 := hP2.c 0 0
  have c0_1 := hP2.c 0 1
  have c0_2 := hP2.c 0 2
  have c0_3 := hP2.c 0 3
  have cf0 := hP2.fr 0
  by_cases hlt : i < m.length
  ·obtain ⟨x, hx⟩ : ∃ x, m[i]? = some x := ⟨_, List.getElem?_eq_getElem hlt⟩
   obtain ⟨b, o', k1, rfl, hb, hkl, hrx, hat⟩ := hR.out.at_ hx
   have hbw : Below w.heap.size w wr := hb0.trans (hbr.mono hb0.size)
   have hbW : b < wr.heap.size := Nat.lt_of_lt_of_le hb hbw.size
   have hb1 : b < wo1.heap.size := Nat.lt_trans hb hz0
   have hsx : fsz x ≤ 1000000000 := by have := fsz_mem (List.mem_of_getElem? hx); omega
   have i1 : (0 : Int) ≤ (i : Int) := by omega
   have i2 : (i : Int) < (m.length : Int) := by omega
   obtain ⟨fs, rfl, hr⟩ := hrx
   rw [fsz_fL] at hsx
   have hat' : wr.rangeAt b (o' + i * 2) k1 := fun j u hu => (hbw.cell (p := ⟨b, o' + i * 2 + j, none⟩) hb).trans (hat j u hu)
   clear hat
   obtain ⟨f1, r1, k1, d1, rfl, rfl, q1, hr⟩ := hr
   obtain ⟨f2, r2, k2, d2, rfl, rfl, q2, hr⟩ := hr
   obtain ⟨rfl, rfl⟩ := hr
   obtain ⟨s1, s2, -⟩ := szs (N := 1000000000) (l := [f1, f2]) (by omega)
   obtain ⟨v1, rfl⟩ := one_list (Cod.str_ok.len q1)
   obtain ⟨v2, rfl⟩ := one_list (Cod.int_ok.len q2)
   have e1 : wr.cell? ⟨b, o' + i * 2, none⟩ = some (v1) := hat' 0 _ rfl
   have e2 : wr.cell? ⟨b, o' + i * 2 + 1, none⟩ = some (v2) := hat' 1 _ rfl
   clear hat'
   go_upto_region 5 with (fail)
   have hbc : Below wr.heap.size wr wr.drew := (Below.refl _ _).drew
   have hz := hbc.size
   refine wp_region_held_drew (S := (fun w' => w'.cell? ⟨b, o' + i * 2, none⟩ = some (v1) ∧ w'.cell? ⟨b, o' + i * 2 + 1, none⟩ = some (v2))) (by kernel_rfl) ?_ (fun hHeld => ?_)
   ·(try dsimp only)
    exact ⟨CT hbc hbW e1, CT hbc hbW e2⟩
   generalize World.drew wr = vd at *
   refine tkQ 0 ?_
   refine tkQ 1 ?_
   refine tkQ 2 ?_
   refine tkQ 3 ?_
   refine tkQ 4 ?_
   refine tkQ 5 ?_
   refine tkQ 7 ?_
   refine tkQ 8 ?_
   refine tkQ 9 ?_
   refine tkQ 10 ?_
   refine tkQ 11 ?_
   refine rdO 6 fun K hK => ?_
   go_simp
   go_at_call 65
   refine (str_fc vd f1 v1 (Cod.str_ok.up q1 (hbw.trans (hbc.mono hbw.size))) s1).mono ?_
   rintro e z1 ⟨A1, c1, rfl, hF1, hbq⟩
   dsimp only
   replace hF1 := rf_lo hF1 hz
   replace hbc := hbc.trans (hbq.mono hbc.size)
   have hz_ := hz
   replace hz := hbc.size
   refine hkO hK (⟨CT hbc hbW e1, CT hbc hbW e2⟩) fun hHeld => ?_
   clear hK K
   refine rdO 12 fun K hK => ?_
   go_simp
   go_at_call 64
   refine (num_fc z1 f2 v2 (Cod.int_ok.up q2 (hbw.trans (hbc.mono hbw.size))) s2).mono ?_
   rintro e z2 ⟨A2, c2, rfl, hF2, hbq⟩
   dsimp only
   replace hF2 := rf_lo hF2 hz
   replace hF1 := rf_up hF1 hbq
   replace hbc := hbc.trans (hbq.mono hbc.size)
   have hz_ := hz
   replace hz := hbc.size
   refine hkO hK (⟨CT hbc hbW e1, CT hbc hbW e2⟩) fun hHeld => ?_
   clear hK K
   refine rdO 13 fun K hK => ?_
   go_simp
   generalize hx_ : World.alloc z2 _ = z3
   have hbq : Below z2.heap.size z2 z3 := by rw [← hx_]; exact (Below.refl _ _).alloc (Nat.le_refl _) _
   have hC : CellsAt z3 z2.heap.size (fC f1 A1 c1 ++ (fC f2 A2 c2 ++ ([]))) := by rw [← hx_]; exact CellsAt.new z2 _ _
   clear hx_
   replace hF1 := rf_up hF1 hbq
   replace hF2 := rf_up hF2 hbq
   replace hbc := hbc.trans (hbq.mono hbc.size)
   have hz_ := hz
   replace hz := hbc.size
   have hL := rl_cons hF1 (rl_cons hF2 (rl_nil))
   have hFR := seq_of hC hz_ hL (n := 2) rfl
   clear hC hL hF1 hF2
   refine hkO hK (⟨CT hbc hbW e1, CT hbc hbW e2⟩) fun hHeld => ?_
   clear hK K
   refine rdO 14 fun K hK => ?_
   go_simp
   go_at_call 39
   refine (seq_any _ _ _ _).mono ?_
   rintro e z4 ⟨rfl, hbq⟩
   dsimp only
   replace hFR := rf_up hFR hbq
   replace hbc := hbc.trans (hbq.mono hbc.size)
   have hz_ := hz
   replace hz := hbc.size
   refine hkO hK (⟨CT hbc hbW e1, CT hbc hbW e2⟩) fun hHeld => ?_
   clear hK K
   refine rdO 15 fun K hK => ?_
   go_simp
   generalize hx_ : World.alloc z4 _ = z5
   have hbq : Below z4.heap.size z4 z5 := by rw [← hx_]; exact (Below.refl _ _).alloc (Nat.le_refl _) _
   have hC : CellsAt z5 z4.heap.size ([.int .i64 2, .int .i64 0, .string ⟨#[]⟩, .slice (some ⟨z2.heap.size, 0, none⟩) 2 2]) := by rw [← hx_]; exact CellsAt.new z4 _ _
   clear hx_
   replace hFR := rf_up hFR hbq
   replace hbc := hbc.trans (hbq.mono hbc.size)
   have hz_ := hz
   replace hz := hbc.size
   have hX := box_rs hL hC hz_ hFR hbr.size
   replace hX := Lib.hid hX
   clear hC hFR
   refine hkO hK (⟨CT hbc hbW e1, CT hbc hbW e2⟩) fun hHeld => ?_
   clear hK K
   refine rdO 16 fun K hK => ?_
   refine step_appRS (rFB_ok _) (rFB_one _) (hL.below (rFB_ok _) hbc) hX.out fld_und fld_info (by rw [List.length_take]; omega) ?_
   intro v5 z9 hL5 hg5
   clear hX hg5
   refine hkO hK (⟨(same_at hL.bel hL5.bel (p := ⟨b, _, none⟩) hb1).trans e1, (same_at hL.bel hL5.bel (p := ⟨b, _, none⟩) hb1).trans e2⟩) fun hHeld => ?_
   clear hK K
   refine tkQ 17 ?_
   refine wpAnyH_done (by kernel_rfl) ?_ _
   clear hHeld
   obtain ⟨A5, c5, rfl⟩ := hL5.form
   generalize hnn : (m.take i ++ [fL [f1, f2]]).length = n5 at *
   replace hnn := Lib.hid hnn
   have i3 : IntKind.i64.wrap ((i : Int) + 1) = (i : Int) + 1 := IntWalk.i64_in _ (by omega)
   repeat' (first | go_skip | go_guarded | go_step)
   go_roundw
   case rel =>
    have e5 : m.take (i + 1) = m.take i ++ [fL [f1, f2]] := by rw [List.take_add_one, hx]; rfl
    refine ⟨i + 1, A5, n5, c5, by omega, by congr 1, rfl, by rw [e5]; exact hnn.out.symm, by rw [e5]; exact hL5⟩
   case measure => simp [intOf]; omega
  ·obtain rfl : i = m.length := by omega
   have hn2 := hn'.out
   rw [List.take_length] at hL hn2
   subst hn2
   clear hn'
   repeat' (first | go_skip | go_guarded | go_step)
   refine (seq_any A' m.length c' wr).mono ?_
   rintro e w2 ⟨rfl, hb2⟩
   dsimp only
   have hF := ownR_fl (hL.below (rFB_ok _) hb2) (Nat.le_refl _)
   have zw2 := hb2.size
   have hP3 : OwnB w w2 [(w.heap.size, [.int .i64 0, .int .i64 0, .string ⟨#[]⟩, .slice none 0 0])] := hP2.kept hb2
   clear c0_0 c0_1 c0_2 c0_3 cf0 hP2
   have c0_0 := hP3.c 0 0
   have c0_1 := hP3.c 0 1
   have c0_2 := hP3.c 0 2
   have c0_3 := hP3.c 0 3
   have cf0 := hP3.fr 0
   clear zw2
   repeat' ((fail_if_success at_builtin); first | go_skip | go_guarded | go_step)
   have hO9 := (((hP3.store 0 rfl 0 (.int .i64 2)).store 0 rfl 1 (.int .i64 0)).store 0 rfl 2 (.string ⟨#[]⟩)).store 0 rfl 3 (.slice A' m.length c')
   have h9 := far4g w2 w.heap.size (.int .i64 2) (.int .i64 0) (.string ⟨#[]⟩) (.slice A' m.length c')
   generalize World.setCell (World.setCell (World.setCell (World.setCell w2 _ _) _ _) _ _) _ _ = w9 at *
   have y0 := hO9.c 0 0
   have y1 := hO9.c 0 1
   have y2 := hO9.c 0 2
   have y3 := hO9.c 0 3
   replace hF := rf_far (w := w) hF hz0 (Nat.le_of_lt hz0) h9
   refine bodyPost_ret (v := .agg #[.int .i64 2, .int .i64 0, .string ⟨#[]⟩, .slice A' m.length c']) (by simp only [results, Tryz.results68]; go_simp; first | done | exact ⟨rfl, rfl, rfl⟩ | rfl) rfl ?_
   have e9 := ofL_length m
   exact ⟨A', c', by show _ = Ending.returned (.agg #[.int .i64 2, .int .i64 0, .string ⟨#[]⟩, .slice A' (ofL m).length c']); rw [e9], by show rF _ _ _ [.int .i64 2, .int .i64 0, .string ⟨#[]⟩, .slice A' (ofL m).length c']; rw [e9]; exact hF, hO9.below⟩
theorem value_fn (n : Nat) (ih : FormS 112 (Cod.val n)) : FormS 112 (Cod.val (n + 1)) := by
 intro w f cs hr hs
 obtain ⟨fs, rfl, hr⟩ := hr
 obtain ⟨f1, r1, k1, d1, rfl, rfl, q1, hr⟩ := hr
 obtain ⟨f2, r2, k2, d2, rfl, rfl, q2, hr⟩ := hr
 obtain ⟨f3, r3, k3, d3, rfl, rfl, q3, hr⟩ := hr
 obtain ⟨f4, r4, k4, d4, rfl, rfl, q4, hr⟩ := hr
 obtain ⟨f5, r5, k5, d5, rfl, rfl, q5, hr⟩ := hr
 obtain ⟨f6, r6, k6, d6, rfl, rfl, q6, hr⟩ := hr
 obtain ⟨rfl, rfl⟩ := hr
 rw [fsz_fL] at hs
 obtain ⟨s1, s2, s3, s4, s5, s6, -⟩ := szs (N := 1000000000) (l := [f1, f2, f3, f4, f5, f6]) (by omega)
 obtain ⟨v1, rfl⟩ := one_list (Cod.int_ok.len q1)
 obtain ⟨v2, rfl⟩ := one_list (Cod.flag_ok.len q2)
 obtain ⟨v3, rfl⟩ := one_list (Cod.int_ok.len q3)
 obtain ⟨v4, rfl⟩ := one_list (Cod.str_ok.len q4)
 obtain ⟨v6, rfl⟩ := one_list (Cod.strs_ok.len q6)
 obtain ⟨m, A, c, rfl, rfl, hR⟩ := q5
 rw [fsz_fL] at s5
 have hm := lsz_length m
 show Calls _ _ #[.agg #[v1, v2, v3, v4, .slice A m.length c, v6]] _ _
 go_enter Tryz.func112, Tryz.ntmps112
 go_upto_region 1 with (fail)
 generalize hx_ : World.alloc (World.alloc w _) _ = wo1
 have hP1 : OwnB w wo1 [(w.heap.size + 1, [.int .i64 0, .int .i64 0, .string ⟨#[]⟩, .slice none 0 0]), (w.heap.size, [v1, v2, v3, v4, .slice A m.length c, v6])] := by rw [← hx_]; exact ((OwnB.refl w).new #[v1, v2, v3, v4, .slice A m.length c, v6] _ (g := w.heap.size)).new #[.int .i64 0, .int .i64 0, .string ⟨#[]⟩, .slice none 0 0] _ (g := w.heap.size + 1)
 have hbn : Below w.heap.size w wo1 := by rw [← hx_]; exact ((Below.refl _ _).alloc (Nat.le_refl _) _).alloc (by simp) _
 have zwo1 : wo1.heap.size = w.heap.size + 2 := by rw [← hx_]; simp
 clear hx_
 have c0_0 := hP1.c 0 0
 have c0_1 := hP1.c 0 1
 have c0_2 := hP1.c 0 2
 have c0_3 := hP1.c 0 3
 have cf0 := hP1.fr 0
 have c1_0 := hP1.c 1 0
 have c1_1 := hP1.c 1 1
 have c1_2 := hP1.c 1 2
 have c1_3 := hP1.c 1 3
 have c1_4 := hP1.c 1 4
 have c1_5 := hP1.c 1 5
 have cf1 := hP1.fr 1
 clear hbn
 clear zwo1
 have hb0 := hP1.below
 have hz0 : w.heap.size < wo1.heap.size := hP1.lt 1
 have hlt1 : w.heap.size + 1 < wo1.heap.size := hP1.lt 0
 have hR0 := OwnR.nil (r := rFB wo1.heap.size) (sz := 4) wo1 fldT
 replace hR := Lib.hid hR
 repeat' (first | go_skip | go_guarded | go_step)
 go_loopw [3, 4] (fun u3 u4 wr => ∃ (i : Nat) (A' : Option Addr) (n' c' : Nat), i ≤ m.length ∧ u4 = .int .i64 (i : Int) ∧ u3 = .slice A' n' c' ∧ n' = (m.take i).length ∧ OwnR (rFB wo1.heap.size) 4 wo1 wr fldT (.slice A' n' c') (m.take i)) (fun _ u4 _ => m.length - (intOf u4).toNat)
 case atStart => exact ⟨0, none, 0, 0, Nat.zero_le _, rfl, rfl, rfl, hR0⟩
 case round =>
  clear hR0
  obtain ⟨i, A', n', c', hi, rfl, rfl, hn', hL⟩ := hrel
  replace hn' := Lib.hid hn'
  have hbr := hL.bel
  have hP2 : OwnB w wr [(w.heap.size + 1, [.int .i64 0, .int .i64 0, .string ⟨#[]⟩, .slice none 0 0]), (w.heap.size, [v1, v2, v3, v4, .slice A m.length c, v6])] := hP1.kept hbr
  clear c0_0 c0_1 c0_2 c0_3 cf0 c1_0 c1_1 c1_2 c1_3 c1_4 c1_5 cf1 hP1
  have c0_0 := hP2.c 0 0
  have c0_1 := hP2.c 0 1
  have c0_2 := hP2.c 0 2
  have c0_3 := hP2.c 0 3
  have cf0 := hP2.fr 0
  have c1_0 := hP2.c 1 0
  have c1_1 := hP2.c 1 1
  have c1_2 := hP2.c 1 2
  have c1_3 := hP2.c 1 3
  have c1_4 := hP2.c 1 4
  have c1_5 := hP2.c 1 5
  have cf1 := hP2.fr 1
  by_cases hlt : i < m.length
  ·obtain ⟨x, hx⟩ : ∃ x, m[i]? = some x := ⟨_, List.getElem?_eq_getElem hlt⟩
   obtain ⟨b, o', k1, rfl, hb, hkl, hrx, hat⟩ := hR.out.at_ hx
   rw [Cod.val_sz] at hat hkl
   have hbw : Below w.heap.size w wr := hb0.trans (hbr.mono hb0.size)
   have hsx : fsz x ≤ 1000000000 := by have := fsz_mem (List.mem_of_getElem? hx); omega
   have i1 : (0 : Int) ≤ (i : Int) := by omega
   have i2 : (i : Int) < (m.length : Int) := by omega
   have hat' : wr.rangeAt b (o' + i * 6) k1 := fun j u hu => (hbw.cell (p := ⟨b, o' + i * 6 + j, none⟩) hb).trans (hat j u hu)
   have hki : (Tryz.prog.info? 75).map (·.size) = some k1.length := by rw [hkl]; kernel_rfl
   clear hat
   repeat' (first | (refine wpList_load_mid rfl 75 _ rfl b (o' + i * 6) rfl k1 _ hat' Tryz.underlying75 rfl hki ?_) | go_skip | go_guarded | go_step)
   refine (ih wr x k1 ((Cod.val_ok n).up hrx hbw) hsx).mono ?_
   rintro e w2 ⟨A2, c2, rfl, hF, hb2⟩
   dsimp only
   have hx2 := rFB_of hL hF hbr.size
   clear hF hat'
   have i3 : IntKind.i64.wrap ((i : Int) + 1) = (i : Int) + 1 := IntWalk.i64_in _ (by omega)
   replace hx2 := Lib.hid hx2
   repeat' ((fail_if_success at_builtin); first | go_skip | go_guarded | go_step)
   refine wp_appR1 (rFB_ok _) hL hb2 hx2.out fld_und fld_info (by rw [List.length_take]; omega) ?_
   intro v5_ w5 hL5
   clear hL hx2
   obtain ⟨A5, c5, rfl⟩ := hL5.form
   generalize hnn : (m.take i ++ [x]).length = n5 at *
   replace hnn := Lib.hid hnn
   repeat' (first | go_skip | go_guarded | go_step)
   go_roundw
   case rel =>
    have e5 : m.take (i + 1) = m.take i ++ [x] := by rw [List.take_add_one, hx]; rfl
    refine ⟨i + 1, A5, n5, c5, by omega, by congr 1, rfl, by rw [e5]; exact hnn.out.symm, by rw [e5]; exact hL5⟩
   case measure => simp [intOf]; omega
  ·obtain rfl : i = m.length := by omega
   have hn2 := hn'.out
   rw [List.take_length] at hL hn2
   subst hn2
   clear hn'
   go_upto_region 6 with (fail)
   have hO := hP2.drew
   have hz : wo1.heap.size ≤ wr.drew.heap.size := hbr.size
   have hF5 := ownR_fl (w := wo1) (hL.below (rFB_ok _) (Below.refl _ _).drew) (Nat.le_refl _)
   clear hL
   refine wp_region_held_drew (S := (fun w' => w'.cell? ⟨w.heap.size, 0, none⟩ = some (v1) ∧ w'.cell? ⟨w.heap.size, 1, none⟩ = some (v2) ∧ w'.cell? ⟨w.heap.size, 2, none⟩ = some (v3) ∧ w'.cell? ⟨w.heap.size, 3, none⟩ = some (v4) ∧ w'.cell? ⟨w.heap.size, 5, none⟩ = some (v6))) (by kernel_rfl) ?_ (fun hHeld => ?_)
   ·(try dsimp only)
    exact ⟨hO.c 1 0, hO.c 1 1, hO.c 1 2, hO.c 1 3, hO.c 1 5⟩
   generalize World.drew wr = vd at *
   refine tkQ 0 ?_
   refine tkQ 1 ?_
   refine tkQ 3 ?_
   refine tkQ 4 ?_
   refine tkQ 6 ?_
   refine tkQ 7 ?_
   refine tkQ 9 ?_
   refine tkQ 10 ?_
   refine tkQ 12 ?_
   refine tkQ 14 ?_
   refine tkQ 15 ?_
   refine rdO 2 fun K hK => ?_
   go_simp
   go_at_call 64
   refine (num_fc vd f1 v1 (Cod.int_ok.up q1 hO.below) s1).mono ?_
   rintro e z1 ⟨A1, c1, rfl, hF1, hbq⟩
   dsimp only
   replace hF1 := rf_lo hF1 hz
   replace hF5 := rf_up hF5 hbq
   replace hO := hO.kept hbq
   have hz_ := hz
   replace hz := Nat.le_trans hz hbq.size
   refine hkO hK ⟨hO.c 1 0, hO.c 1 1, hO.c 1 2, hO.c 1 3, hO.c 1 5⟩ fun hHeld => ?_
   clear hK K
   refine rdO 5 fun K hK => ?_
   go_simp
   go_at_call 111
   refine (flag_fc z1 f2 v2 (Cod.flag_ok.up q2 hO.below) s2).mono ?_
   rintro e z2 ⟨A2, c2, rfl, hF2, hbq⟩
   dsimp only
   replace hF2 := rf_lo hF2 hz
   replace hF5 := rf_up hF5 hbq
   replace hF1 := rf_up hF1 hbq
   replace hO := hO.kept hbq
   have hz_ := hz
   replace hz := Nat.le_trans hz hbq.size
   refine hkO hK ⟨hO.c 1 0, hO.c 1 1, hO.c 1 2, hO.c 1 3, hO.c 1 5⟩ fun hHeld => ?_
   clear hK K
   refine rdO 8 fun K hK => ?_
   go_simp
   go_at_call 64
   refine (num_fc z2 f3 v3 (Cod.int_ok.up q3 hO.below) s3).mono ?_
   rintro e z3 ⟨A3, c3, rfl, hF3, hbq⟩
   dsimp only
   replace hF3 := rf_lo hF3 hz
   replace hF5 := rf_up hF5 hbq
   replace hF1 := rf_up hF1 hbq
   replace hF2 := rf_up hF2 hbq
   replace hO := hO.kept hbq
   have hz_ := hz
   replace hz := Nat.le_trans hz hbq.size
   refine hkO hK ⟨hO.c 1 0, hO.c 1 1, hO.c 1 2, hO.c 1 3, hO.c 1 5⟩ fun hHeld => ?_
   clear hK K
   refine rdO 11 fun K hK => ?_
   go_simp
   go_at_call 65
   refine (str_fc z3 f4 v4 (Cod.str_ok.up q4 hO.below) s4).mono ?_
   rintro e z4 ⟨A4, c4, rfl, hF4, hbq⟩
   dsimp only
   replace hF4 := rf_lo hF4 hz
   replace hF5 := rf_up hF5 hbq
   replace hF1 := rf_up hF1 hbq
   replace hF2 := rf_up hF2 hbq
   replace hF3 := rf_up hF3 hbq
   replace hO := hO.kept hbq
   have hz_ := hz
   replace hz := Nat.le_trans hz hbq.size
   refine hkO hK ⟨hO.c 1 0, hO.c 1 1, hO.c 1 2, hO.c 1 3, hO.c 1 5⟩ fun hHeld => ?_
   clear hK K
   refine rdO 13 fun K hK => ?_
   go_simp
   go_at_call 39
   refine (seq_any _ _ _ _).mono ?_
   rintro e z5 ⟨rfl, hbq⟩
   dsimp only
   replace hF5 := rf_up hF5 hbq
   replace hF1 := rf_up hF1 hbq
   replace hF2 := rf_up hF2 hbq
   replace hF3 := rf_up hF3 hbq
   replace hF4 := rf_up hF4 hbq
   replace hO := hO.kept hbq
   have hz_ := hz
   replace hz := Nat.le_trans hz hbq.size
   refine hkO hK ⟨hO.c 1 0, hO.c 1 1, hO.c 1 2, hO.c 1 3, hO.c 1 5⟩ fun hHeld => ?_
   clear hK K
   refine rdO 16 fun K hK => ?_
   go_simp
   go_at_call 115
   refine (strs_fc z5 f6 v6 (Cod.strs_ok.up q6 hO.below) s6).mono ?_
   rintro e z6 ⟨A6, c6, rfl, hF6, hbq⟩
   dsimp only
   replace hF6 := rf_lo hF6 hz
   replace hF1 := rf_up hF1 hbq
   replace hF2 := rf_up hF2 hbq
   replace hF3 := rf_up hF3 hbq
   replace hF4 := rf_up hF4 hbq
   replace hF5 := rf_up hF5 hbq
   replace hO := hO.kept hbq
   have hz_ := hz
   replace hz := Nat.le_trans hz hbq.size
   refine hkO hK ⟨hO.c 1 0, hO.c 1 1, hO.c 1 2, hO.c 1 3, hO.c 1 5⟩ fun hHeld => ?_
   clear hK K
   refine rdO 17 fun K hK => ?_
   go_simp
   generalize hx_ : World.alloc z6 _ = z7
   have hbq : Below z6.heap.size z6 z7 := by rw [← hx_]; exact (Below.refl _ _).alloc (Nat.le_refl _) _
   have hC : CellsAt z7 z6.heap.size (fC f1 A1 c1 ++ (fC f2 A2 c2 ++ (fC f3 A3 c3 ++ (fC f4 A4 c4 ++ ([.int .i64 2, .int .i64 0, .string ⟨#[]⟩, .slice A' m.length c'] ++ (fC f6 A6 c6 ++ ([]))))))) := by rw [← hx_]; exact CellsAt.new z6 _ _
   clear hx_
   replace hF1 := rf_up hF1 hbq
   replace hF2 := rf_up hF2 hbq
   replace hF3 := rf_up hF3 hbq
   replace hF4 := rf_up hF4 hbq
   replace hF5 := rf_up hF5 hbq
   replace hF6 := rf_up hF6 hbq
   replace hO := hO.kept hbq
   have hz_ := hz
   replace hz := Nat.le_trans hz hbq.size
   have hL := rl_cons hF1 (rl_cons hF2 (rl_cons hF3 (rl_cons hF4 (rl_cons hF5 (rl_cons hF6 (rl_nil))))))
   have hFR := seq_of hC hz_ hL (n := 6) rfl
   clear hC hL hF1 hF2 hF3 hF4 hF5 hF6
   refine hkO hK ⟨hO.c 1 0, hO.c 1 1, hO.c 1 2, hO.c 1 3, hO.c 1 5⟩ fun hHeld => ?_
   clear hK K
   refine rdO 18 fun K hK => ?_
   go_simp
   go_at_call 39
   refine (seq_any _ _ _ _).mono ?_
   rintro e z8 ⟨rfl, hbq⟩
   dsimp only
   replace hFR := rf_up hFR hbq
   replace hO := hO.kept hbq
   have hz_ := hz
   replace hz := Nat.le_trans hz hbq.size
   refine hkO hK ⟨hO.c 1 0, hO.c 1 1, hO.c 1 2, hO.c 1 3, hO.c 1 5⟩ fun hHeld => ?_
   clear hK K
   refine rdO 19 fun K hK => ?_
   have y0 := hO.c 0 0
   have y1 := hO.c 0 1
   have y2 := hO.c 0 2
   have y3 := hO.c 0 3
   have yf := hO.fr 0
   go_simp
   clear y0 y1 y2 y3 yf
   have hO9 := (((hO.store 0 rfl 0 (.int .i64 2)).store 0 rfl 1 (.int .i64 0)).store 0 rfl 2 (.string ⟨#[]⟩)).store 0 rfl 3 (.slice (some ⟨z6.heap.size, 0, none⟩) 6 6)
   have h9 := far4g z8 (w.heap.size + 1) (.int .i64 2) (.int .i64 0) (.string ⟨#[]⟩) (.slice (some ⟨z6.heap.size, 0, none⟩) 6 6)
   generalize World.setCell (World.setCell (World.setCell (World.setCell z8 _ _) _ _) _ _) _ _ = w9 at *
   refine hkO hK ⟨hO9.c 1 0, hO9.c 1 1, hO9.c 1 2, hO9.c 1 3, hO9.c 1 5⟩ fun hHeld => ?_
   clear hK K
   refine wpAnyH_done (by kernel_rfl) ?_ _
   clear hHeld
   have y0 := hO9.c 0 0
   have y1 := hO9.c 0 1
   have y2 := hO9.c 0 2
   have y3 := hO9.c 0 3
   replace hFR := rf_far (w := w) hFR hlt1 (Nat.le_of_lt (Nat.lt_of_succ_lt hlt1)) h9
   repeat' (first | go_skip | go_guarded | go_step)
   refine bodyPost_ret (v := .agg #[.int .i64 2, .int .i64 0, .string ⟨#[]⟩, .slice (some ⟨z6.heap.size, 0, none⟩) 6 6]) (by simp only [results, Tryz.results112]; go_simp; first | done | exact ⟨rfl, rfl, rfl⟩ | rfl) rfl ?_
   exact ⟨some ⟨z6.heap.size, 0, none⟩, 6, rfl, hFR, hO9.below⟩
theorem value_fall : ∀ n, FormS 112 (Cod.val n)
 | 0 => fun _ _ _ hr => hr.elim
 | n + 1 => value_fn n (value_fall n)
theorem value_fc : FormS 112 Cod.value := fun w f cs hr hs => by
 obtain ⟨n, hr⟩ := hr
 exact value_fall n w f cs hr hs
theorem vars_fc : Form1 67 (Cod.list Cod.vari) := by
 intro w f v hr hs
 obtain ⟨m, A, c, rfl, h, hR⟩ := hr
 injection h with h
 subst h
 rw [fsz_fL] at hs
 have hm := lsz_length m
 go_enter Tryz.func67, Tryz.ntmps67
 go_upto_region 1 with (fail)
 generalize hx_ : World.alloc w _ = wo1
 have hP1 : OwnB w wo1 [(w.heap.size, [.int .i64 0, .int .i64 0, .string ⟨#[]⟩, .slice none 0 0])] := by rw [← hx_]; exact (OwnB.refl w).new #[.int .i64 0, .int .i64 0, .string ⟨#[]⟩, .slice none 0 0] _ (g := w.heap.size)
 have hbn : Below w.heap.size w wo1 := by rw [← hx_]; exact (Below.refl _ _).alloc (Nat.le_refl _) _
 have zwo1 : wo1.heap.size = w.heap.size + 1 := by rw [← hx_]; simp
 clear hx_
 have c0_0 := hP1.c 0 0
 have c0_1 := hP1.c 0 1
 have c0_2 := hP1.c 0 2
 have c0_3 := hP1.c 0 3
 have cf0 := hP1.fr 0
 clear hbn
 clear zwo1
 have hb0 := hP1.below
 have hz0 : w.heap.size < wo1.heap.size := hP1.lt 0
 have hR0 := OwnR.nil (r := rFB wo1.heap.size) (sz := 4) wo1 fldT
 replace hR := Lib.hid hR
 repeat' (first | go_skip | go_guarded | go_step)
 go_loopw [3, 4] (fun u3 u4 wr => ∃ (i : Nat) (A' : Option Addr) (n' c' : Nat), i ≤ m.length ∧ u4 = .int .i64 (i : Int) ∧ u3 = .slice A' n' c' ∧ n' = (m.take i).length ∧ OwnR (rFB wo1.heap.size) 4 wo1 wr fldT (.slice A' n' c') (m.take i)) (fun _ u4 _ => m.length - (intOf u4).toNat)
 case atStart => exact ⟨0, none, 0, 0, Nat.zero_le _, rfl, rfl, rfl, hR0⟩
 case round =>
  clear hR0
  obtain ⟨i, A', n', c', hi, rfl, rfl, hn', hL⟩ := hrel
  replace hn' := Lib.hid hn'
  have hbr := hL.bel
  have hP2 : OwnB w wr [(w.heap.size, [.int .i64 0, .int .i64 0, .string ⟨#[]⟩, .slice none 0 0])] := hP1.kept hbr
  clear c0_0 c0_1 c0_2 c0_3 cf0 hP1
  have c0_0 := hP2.c 0 0
  have c0_1 := hP2.c 0 1
  have c0_2 := hP2.c 0 2
  have c0_3 := hP2.c 0 3
  have cf0 := hP2.fr 0
  by_cases hlt : i < m.length
  ·obtain ⟨x, hx⟩ : ∃ x, m[i]? = some x := ⟨_, List.getElem?_eq_getElem hlt⟩
   obtain ⟨b, o', k1, rfl, hb, hkl, hrx, hat⟩ := hR.out.at_ hx
   have hbw : Below w.heap.size w wr := hb0.trans (hbr.mono hb0.size)
   have hbW : b < wr.heap.size := Nat.lt_of_lt_of_le hb hbw.size
   have hb1 : b < wo1.heap.size := Nat.lt_trans hb hz0
   have hsx : fsz x ≤ 1000000000 := by have := fsz_mem (List.mem_of_getElem? hx); omega
   have i1 : (0 : Int) ≤ (i : Int) := by omega
   have i2 : (i : Int) < (m.length : Int) := by omega
   obtain ⟨fs, rfl, hr⟩ := hrx
   rw [fsz_fL] at hsx
   have hat' : wr.rangeAt b (o' + i * 7) k1 := fun j u hu => (hbw.cell (p := ⟨b, o' + i * 7 + j, none⟩) hb).trans (hat j u hu)
   clear hat
   obtain ⟨f1, r1, k1, d1, rfl, rfl, q1, hr⟩ := hr
   obtain ⟨f2, r2, k2, d2, rfl, rfl, q2, hr⟩ := hr
   obtain ⟨rfl, rfl⟩ := hr
   obtain ⟨s1, s2, -⟩ := szs (N := 1000000000) (l := [f1, f2]) (by omega)
   obtain ⟨v1, rfl⟩ := one_list (Cod.str_ok.len q1)
   have e1 : wr.cell? ⟨b, o' + i * 7, none⟩ = some (v1) := hat' 0 _ rfl
   have a2 : wr.rangeAt b (o' + i * 7 + 1) k2 := (At.right (w := wr) (b := b) (o := o' + i * 7) (c1 := [v1]) hat' (by rfl)).left
   clear hat'
   go_upto_region 5 with (fail)
   have hbc : Below wr.heap.size wr wr.drew := (Below.refl _ _).drew
   have hz := hbc.size
   refine wp_region_held_drew (S := (fun w' => w'.cell? ⟨b, o' + i * 7, none⟩ = some (v1) ∧ w'.rangeAt b (o' + i * 7 + 1) k2)) (by kernel_rfl) ?_ (fun hHeld => ?_)
   ·(try dsimp only)
    exact ⟨CT hbc hbW e1, at_up a2 hbc hbW⟩
   generalize World.drew wr = vd at *
   refine tkQ 0 ?_
   refine tkQ 1 ?_
   refine tkQ 2 ?_
   refine tkQ 3 ?_
   refine tkQ 4 ?_
   refine tkQ 5 ?_
   refine tkQ 7 ?_
   refine tkQ 8 ?_
   refine tkQ 9 ?_
   refine tkQ 10 ?_
   refine tkV 11 (v := .agg k2.toArray) rfl (yieldsIf_load_mid (by rfl) 75 _ rfl b (o' + i * 7 + 1) rfl k2 _ (fun v h => h.2) Tryz.underlying75 rfl (by rw [Cod.value_ok.len q2]; kernel_rfl)) ?_
   refine rdO 6 fun K hK => ?_
   go_simp
   go_at_call 65
   refine (str_fc vd f1 v1 (Cod.str_ok.up q1 (hbw.trans (hbc.mono hbw.size))) s1).mono ?_
   rintro e z1 ⟨A1, c1, rfl, hF1, hbq⟩
   dsimp only
   replace hF1 := rf_lo hF1 hz
   replace hbc := hbc.trans (hbq.mono hbc.size)
   have hz_ := hz
   replace hz := hbc.size
   refine hkO hK (⟨CT hbc hbW e1, at_up a2 hbc hbW⟩) fun hHeld => ?_
   clear hK K
   refine rdO 12 fun K hK => ?_
   go_simp
   go_at_call 112
   refine (value_fc z1 f2 k2 (Cod.value_ok.up q2 (hbw.trans (hbc.mono hbw.size))) s2).mono ?_
   rintro e z2 ⟨A2, c2, rfl, hF2, hbq⟩
   dsimp only
   replace hF2 := rf_lo hF2 hz
   replace hF1 := rf_up hF1 hbq
   replace hbc := hbc.trans (hbq.mono hbc.size)
   have hz_ := hz
   replace hz := hbc.size
   refine hkO hK (⟨CT hbc hbW e1, at_up a2 hbc hbW⟩) fun hHeld => ?_
   clear hK K
   refine rdO 13 fun K hK => ?_
   go_simp
   generalize hx_ : World.alloc z2 _ = z3
   have hbq : Below z2.heap.size z2 z3 := by rw [← hx_]; exact (Below.refl _ _).alloc (Nat.le_refl _) _
   have hC : CellsAt z3 z2.heap.size (fC f1 A1 c1 ++ (fC f2 A2 c2 ++ ([]))) := by rw [← hx_]; exact CellsAt.new z2 _ _
   clear hx_
   replace hF1 := rf_up hF1 hbq
   replace hF2 := rf_up hF2 hbq
   replace hbc := hbc.trans (hbq.mono hbc.size)
   have hz_ := hz
   replace hz := hbc.size
   have hL := rl_cons hF1 (rl_cons hF2 (rl_nil))
   have hFR := seq_of hC hz_ hL (n := 2) rfl
   clear hC hL hF1 hF2
   refine hkO hK (⟨CT hbc hbW e1, at_up a2 hbc hbW⟩) fun hHeld => ?_
   clear hK K
   refine rdO 14 fun K hK => ?_
   go_simp
   go_at_call 39
   refine (seq_any _ _ _ _).mono ?_
   rintro e z4 ⟨rfl, hbq⟩
   dsimp only
   replace hFR := rf_up hFR hbq
   replace hbc := hbc.trans (hbq.mono hbc.size)
   have hz_ := hz
   replace hz := hbc.size
   refine hkO hK (⟨CT hbc hbW e1, at_up a2 hbc hbW⟩) fun hHeld => ?_
   clear hK K
   refine rdO 15 fun K hK => ?_
   go_simp
   generalize hx_ : World.alloc z4 _ = z5
   have hbq : Below z4.heap.size z4 z5 := by rw [← hx_]; exact (Below.refl _ _).alloc (Nat.le_refl _) _
   have hC : CellsAt z5 z4.heap.size ([.int .i64 2, .int .i64 0, .string ⟨#[]⟩, .slice (some ⟨z2.heap.size, 0, none⟩) 2 2]) := by rw [← hx_]; exact CellsAt.new z4 _ _
   clear hx_
   replace hFR := rf_up hFR hbq
   replace hbc := hbc.trans (hbq.mono hbc.size)
   have hz_ := hz
   replace hz := hbc.size
   have hX := box_rs hL hC hz_ hFR hbr.size
   replace hX := Lib.hid hX
   clear hC hFR
   refine hkO hK (⟨CT hbc hbW e1, at_up a2 hbc hbW⟩) fun hHeld => ?_
   clear hK K
   refine rdO 16 fun K hK => ?_
   refine step_appRS (rFB_ok _) (rFB_one _) (hL.below (rFB_ok _) hbc) hX.out fld_und fld_info (by rw [List.length_take]; omega) ?_
   intro v5 z9 hL5 hg5
   clear hX hg5
   refine hkO hK (⟨(same_at hL.bel hL5.bel (p := ⟨b, _, none⟩) hb1).trans e1, fun j v hj => (same_at hL.bel hL5.bel (p := ⟨b, _, none⟩) hb1).trans (a2 j v hj)⟩) fun hHeld => ?_
   clear hK K
   refine tkQ 17 ?_
   refine wpAnyH_done (by kernel_rfl) ?_ _
   clear hHeld
   obtain ⟨A5, c5, rfl⟩ := hL5.form
   generalize hnn : (m.take i ++ [fL [f1, f2]]).length = n5 at *
   replace hnn := Lib.hid hnn
   have i3 : IntKind.i64.wrap ((i : Int) + 1) = (i : Int) + 1 := IntWalk.i64_in _ (by omega)
   repeat' (first | go_skip | go_guarded | go_step)
   go_roundw
   case rel =>
    have e5 : m.take (i + 1) = m.take i ++ [fL [f1, f2]] := by rw [List.take_add_one, hx]; rfl
    refine ⟨i + 1, A5, n5, c5, by omega, by congr 1, rfl, by rw [e5]; exact hnn.out.symm, by rw [e5]; exact hL5⟩
   case measure => simp [intOf]; omega
  ·obtain rfl : i = m.length := by omega
   have hn2 := hn'.out
   rw [List.take_length] at hL hn2
   subst hn2
   clear hn'
   repeat' (first | go_skip | go_guarded | go_step)
   refine (seq_any A' m.length c' wr).mono ?_
   rintro e w2 ⟨rfl, hb2⟩
   dsimp only
   have hF := ownR_fl (hL.below (rFB_ok _) hb2) (Nat.le_refl _)
   have zw2 := hb2.size
   have hP3 : OwnB w w2 [(w.heap.size, [.int .i64 0, .int .i64 0, .string ⟨#[]⟩, .slice none 0 0])] := hP2.kept hb2
   clear c0_0 c0_1 c0_2 c0_3 cf0 hP2
   have c0_0 := hP3.c 0 0
   have c0_1 := hP3.c 0 1
   have c0_2 := hP3.c 0 2
   have c0_3 := hP3.c 0 3
   have cf0 := hP3.fr 0
   clear zw2
   repeat' ((fail_if_success at_builtin); first | go_skip | go_guarded | go_step)
   have hO9 := (((hP3.store 0 rfl 0 (.int .i64 2)).store 0 rfl 1 (.int .i64 0)).store 0 rfl 2 (.string ⟨#[]⟩)).store 0 rfl 3 (.slice A' m.length c')
   have h9 := far4g w2 w.heap.size (.int .i64 2) (.int .i64 0) (.string ⟨#[]⟩) (.slice A' m.length c')
   generalize World.setCell (World.setCell (World.setCell (World.setCell w2 _ _) _ _) _ _) _ _ = w9 at *
   have y0 := hO9.c 0 0
   have y1 := hO9.c 0 1
   have y2 := hO9.c 0 2
   have y3 := hO9.c 0 3
   replace hF := rf_far (w := w) hF hz0 (Nat.le_of_lt hz0) h9
   refine bodyPost_ret (v := .agg #[.int .i64 2, .int .i64 0, .string ⟨#[]⟩, .slice A' m.length c']) (by simp only [results, Tryz.results67]; go_simp; first | done | exact ⟨rfl, rfl, rfl⟩ | rfl) rfl ?_
   have e9 := ofL_length m
   exact ⟨A', c', by show _ = Ending.returned (.agg #[.int .i64 2, .int .i64 0, .string ⟨#[]⟩, .slice A' (ofL m).length c']); rw [e9], by show rF _ _ _ [.int .i64 2, .int .i64 0, .string ⟨#[]⟩, .slice A' (ofL m).length c']; rw [e9]; exact hF, hO9.below⟩
end Go.Proofs.YtgdapkglofchjaaGreatDoor
