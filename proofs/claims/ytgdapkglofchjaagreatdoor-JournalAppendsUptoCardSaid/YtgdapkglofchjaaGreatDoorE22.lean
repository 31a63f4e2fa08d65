/- Joined: JnG JnG2 JnG3 JnG4. -/
import Derived.Test.YtgdapkglofchjaaGreatDoorE21
set_option maxRecDepth 100000
set_option maxHeartbeats 4000000
set_option linter.unusedVariables false
namespace Go.Proofs.YtgdapkglofchjaaGreatDoor
open Go.RowKit
abbrev fC (f : FV) (A : Option Addr) (c : Nat) : List Value := [.int .i64 f.1, .int .i64 f.2.1, .string f.2.2.1, .slice A f.2.2.2.length c]
def RetF (w : World) (f : FV) (e : Ending) (w' : World) : Prop := ∃ A c, e = .returned (.agg #[.int .i64 f.1, .int .i64 f.2.1, .string f.2.2.1, .slice A f.2.2.2.length c]) ∧ rF w' (Fresh w w') f (fC f A c) ∧ Below w.heap.size w w'
theorem rf_up {w z z' : World} {f : FV} {cs : List Value} (h : rF z (Fresh w z) f cs) (hb : Below z.heap.size z z') : rF z' (Fresh w z') f cs := rF_ok _ _ _ _ _ _ (fun p hp => hb.cell hp.2) (fun b hp => ⟨hp.1, Nat.lt_of_lt_of_le hp.2 hb.size⟩) h
theorem rf_lo {w z z' : World} {f : FV} {cs : List Value} (h : rF z' (Fresh z z') f cs) (hz : w.heap.size ≤ z.heap.size) : rF z' (Fresh w z') f cs := rF_ok _ _ _ _ _ _ (fun _ _ => rfl) (fun b hp => ⟨Nat.le_trans hz hp.1, hp.2⟩) h
theorem Cod.Ok.up {C : Cod} (hC : C.Ok) {w z : World} {f : FV} {cs : List Value} (h : C.rp w (fun b => b < w.heap.size) f cs) (hb : Below w.heap.size w z) : C.rp z (fun b => b < z.heap.size) f cs := hC.map _ _ _ _ _ _ (fun p hp => hb.cell hp) (fun b hp => Nat.lt_of_lt_of_le hp hb.size) h
theorem seq_of {w z : World} {g n : Nat} {l : List FV} {cs : List Value} (h : CellsAt z g cs) (hg : w.heap.size ≤ g) (hl : RList rF 4 z (Fresh w z) l cs) (hn : l.length = n) : rF z (Fresh w z) (fL l) [.int .i64 2, .int .i64 0, .string ⟨#[]⟩, .slice (some ⟨g, 0, none⟩) n n] := by
 subst hn
 refine ⟨some ⟨g, 0, none⟩, l.length, cs, by show _ = [Value.int .i64 2, Value.int .i64 0, Value.string ⟨#[]⟩, Value.slice _ (ofL l).length _]; rw [ofL_length], ii2, ii0, ⟨⟨?_, fun _ => ⟨g, 0, rfl, ⟨hg, h.lt⟩, fun j u hu => by rw [Nat.zero_add]; exact h.cell j u hu⟩⟩, ?_⟩, rep_of hl⟩
 ·show cs.length = (ofL l).length * 4
  rw [ofL_length]; exact hl.length
 ·show (ofL l).length ≤ _
  rw [ofL_length]; exact Nat.le_refl _
theorem rl_nil {z : World} {S : Nat → Prop} : RList rF 4 z S [] [] := rfl
theorem rl_cons {z : World} {S : Nat → Prop} {f : FV} {l : List FV} {c1 c2 : List Value} (h : rF z S f c1) (hl : RList rF 4 z S l c2) : RList rF 4 z S (f :: l) (c1 ++ c2) := ⟨c1, c2, rfl, rF_len h, h, hl⟩
def Form1 (F : FuncId) (C : Cod) : Prop := ∀ (w : World) (f : FV) (v : Value), C.rp w (fun b => b < w.heap.size) f [v] → fsz f ≤ 1000000000 → Calls Tryz.prog F #[v] w (RetF w f)
def FormS (F : FuncId) (C : Cod) : Prop := ∀ (w : World) (f : FV) (cs : List Value), C.rp w (fun b => b < w.heap.size) f cs → fsz f ≤ 1000000000 → Calls Tryz.prog F #[.agg cs.toArray] w (RetF w f)
theorem num_any (x : Int) (hx : IsInt x) (w : World) : Calls Tryz.prog 64 #[.int .i64 x] w (RetF w (fI x)) := by
 go_enter Tryz.func64, Tryz.ntmps64
 go_upto_region 1 with (fail)
 generalize hx_ : World.alloc w _ = wo1
 have hO1 : OwnB w wo1 [(w.heap.size, [.int .i64 0, .int .i64 0, .string ⟨#[]⟩, .slice none 0 0])] := by rw [← hx_]; exact (OwnB.refl w).new #[.int .i64 0, .int .i64 0, .string ⟨#[]⟩, .slice none 0 0] _ (g := w.heap.size)
 have hbn : Below w.heap.size w wo1 := by rw [← hx_]; exact (Below.refl _ _).alloc (Nat.le_refl _) _
 have zwo1 : wo1.heap.size = w.heap.size + 1 := by rw [← hx_]; simp
 clear hx_
 have c0_0 := hO1.c 0 0
 have c0_1 := hO1.c 0 1
 have c0_2 := hO1.c 0 2
 have c0_3 := hO1.c 0 3
 have cf0 := hO1.fr 0
 clear hbn
 repeat' ((fail_if_success at_builtin); first | go_skip | go_guarded | go_step)
 have hO2 := (((hO1.store 0 rfl 0 (.int .i64 0)).store 0 rfl 1 (.int .i64 x)).store 0 rfl 2 (.string ⟨#[]⟩)).store 0 rfl 3 (.slice none 0 0)
 generalize World.setCell (World.setCell (World.setCell (World.setCell wo1 _ _) _ _) _ _) _ _ = w9 at *
 have y0 := hO2.c 0 0
 have y1 := hO2.c 0 1
 have y2 := hO2.c 0 2
 have y3 := hO2.c 0 3
 refine bodyPost_ret (v := .agg #[.int .i64 0, .int .i64 x, .string ⟨#[]⟩, .slice none 0 0]) (by simp only [results, Tryz.results64]; go_simp; first | done | exact ⟨rfl, rfl, rfl⟩ | rfl) rfl ?_
 exact ⟨none, 0, rfl, rd_int hx, hO2.below⟩
theorem str_any (s : ByteArray) (w : World) : Calls Tryz.prog 65 #[.string s] w (RetF w (fS s)) := by
 go_enter Tryz.func65, Tryz.ntmps65
 go_upto_region 1 with (fail)
 generalize hx_ : World.alloc w _ = wo1
 have hO1 : OwnB w wo1 [(w.heap.size, [.int .i64 0, .int .i64 0, .string ⟨#[]⟩, .slice none 0 0])] := by rw [← hx_]; exact (OwnB.refl w).new #[.int .i64 0, .int .i64 0, .string ⟨#[]⟩, .slice none 0 0] _ (g := w.heap.size)
 have hbn : Below w.heap.size w wo1 := by rw [← hx_]; exact (Below.refl _ _).alloc (Nat.le_refl _) _
 have zwo1 : wo1.heap.size = w.heap.size + 1 := by rw [← hx_]; simp
 clear hx_
 have c0_0 := hO1.c 0 0
 have c0_1 := hO1.c 0 1
 have c0_2 := hO1.c 0 2
 have c0_3 := hO1.c 0 3
 have cf0 := hO1.fr 0
 clear hbn
 repeat' ((fail_if_success at_builtin); first | go_skip | go_guarded | go_step)
 have hO2 := (((hO1.store 0 rfl 0 (.int .i64 1)).store 0 rfl 1 (.int .i64 0)).store 0 rfl 2 (.string s)).store 0 rfl 3 (.slice none 0 0)
 generalize World.setCell (World.setCell (World.setCell (World.setCell wo1 _ _) _ _) _ _) _ _ = w9 at *
 have y0 := hO2.c 0 0
 have y1 := hO2.c 0 1
 have y2 := hO2.c 0 2
 have y3 := hO2.c 0 3
 refine bodyPost_ret (v := .agg #[.int .i64 1, .int .i64 0, .string s, .slice none 0 0]) (by simp only [results, Tryz.results65]; go_simp; first | done | exact ⟨rfl, rfl, rfl⟩ | rfl) rfl ?_
 exact ⟨none, 0, rfl, rd_str s, hO2.below⟩
theorem seq_any (A : Option Addr) (n c : Nat) (w : World) : Calls Tryz.prog 39 #[.slice A n c] w fun e w' => e = .returned (.agg #[.int .i64 2, .int .i64 0, .string ⟨#[]⟩, .slice A n c]) ∧ Below w.heap.size w w' := by
 go_enter Tryz.func39, Tryz.ntmps39
 go_upto_region 1 with (fail)
 generalize hx_ : World.alloc w _ = wo1
 have hO1 : OwnB w wo1 [(w.heap.size, [.int .i64 0, .int .i64 0, .string ⟨#[]⟩, .slice none 0 0])] := by rw [← hx_]; exact (OwnB.refl w).new #[.int .i64 0, .int .i64 0, .string ⟨#[]⟩, .slice none 0 0] _ (g := w.heap.size)
 have hbn : Below w.heap.size w wo1 := by rw [← hx_]; exact (Below.refl _ _).alloc (Nat.le_refl _) _
 have zwo1 : wo1.heap.size = w.heap.size + 1 := by rw [← hx_]; simp
 clear hx_
 have c0_0 := hO1.c 0 0
 have c0_1 := hO1.c 0 1
 have c0_2 := hO1.c 0 2
 have c0_3 := hO1.c 0 3
 have cf0 := hO1.fr 0
 clear hbn
 repeat' ((fail_if_success at_builtin); first | go_skip | go_guarded | go_step)
 have hO2 := (((hO1.store 0 rfl 0 (.int .i64 2)).store 0 rfl 1 (.int .i64 0)).store 0 rfl 2 (.string ⟨#[]⟩)).store 0 rfl 3 (.slice A n c)
 generalize World.setCell (World.setCell (World.setCell (World.setCell wo1 _ _) _ _) _ _) _ _ = w9 at *
 have y0 := hO2.c 0 0
 have y1 := hO2.c 0 1
 have y2 := hO2.c 0 2
 have y3 := hO2.c 0 3
 refine bodyPost_ret (v := .agg #[.int .i64 2, .int .i64 0, .string ⟨#[]⟩, .slice A n c]) (by simp only [results, Tryz.results39]; go_simp; first | done | exact ⟨rfl, rfl, rfl⟩ | rfl) rfl ?_
 exact ⟨rfl, hO2.below⟩
theorem num_fc : Form1 64 Cod.int := by
 intro w f v hr hs
 obtain ⟨x, hx, rfl, h⟩ := hr
 injection h with h
 subst h
 exact num_any x hx w
theorem str_fc : Form1 65 Cod.str := by
 intro w f v hr hs
 obtain ⟨s, rfl, h⟩ := hr
 injection h with h
 subst h
 exact str_any s w
def rFB (B : Nat) : Rd FV := fun w S f cs => rF w (fun b => B ≤ b ∧ S b) f cs
theorem rFB_ok (B : Nat) : RdOk (rFB B) := fun w w' S S' x cs hk hS h => rF_ok _ _ _ _ _ _ (fun p hp => hk p hp.2) (fun b hb => ⟨hb.1, hS b hb.2⟩) h
theorem rFB_one (B : Nat) : RdOne (rFB B) := fun w S x cs h => rF_one _ _ _ _ h
theorem rFB_of {B : Nat} {w1 wr w2 : World} {v : Value} {l : List FV} {e : TypeId} {f : FV} {cs : List Value} (H : OwnR (rFB B) 4 w1 wr e v l) (hF : rF w2 (Fresh wr w2) f cs) (hB : B ≤ wr.heap.size) : rFB B w2 (Beh w2 v) f cs :=
 rF_ok _ _ _ _ _ _ (fun _ _ => rfl) (fun b hb => ⟨Nat.le_trans hB hb.1, beh_lo H hb.1 hb.2⟩) hF
theorem rl_conv {B : Nat} {z : World} {S : Nat → Prop} : ∀ {l : List FV} {cs : List Value}, RList (rFB B) 4 z S l cs → RList rF 4 z (fun b => B ≤ b ∧ S b) l cs
 | [], _, h => h
 | _ :: _, _, ⟨c1, c2, h1, h2, h3, h4⟩ => ⟨c1, c2, h1, h2, h3, rl_conv h4⟩
theorem far4g (w : World) (g : Nat) (u0 u1 u2 u3 : Value) : (∀ p : Addr, p.block ≠ g → ((((w.setCell ⟨g, 0, none⟩ u0).setCell ⟨g, 1, none⟩ u1).setCell ⟨g, 2, none⟩ u2).setCell ⟨g, 3, none⟩ u3).cell? p = w.cell? p) ∧ ((((w.setCell ⟨g, 0, none⟩ u0).setCell ⟨g, 1, none⟩ u1).setCell ⟨g, 2, none⟩ u2).setCell ⟨g, 3, none⟩ u3).heap.size = w.heap.size :=
 ⟨fun p hp => by rw [World.cell?_setCell_far _ _ _ _ (fun e => hp e.symm), World.cell?_setCell_far _ _ _ _ (fun e => hp e.symm), World.cell?_setCell_far _ _ _ _ (fun e => hp e.symm), World.cell?_setCell_far _ _ _ _ (fun e => hp e.symm)], by simp [World.setCell]⟩
theorem rf_far {w w1 z z9 : World} {g : Nat} {f : FV} {cs : List Value} (h : rF z (Fresh w1 z) f cs) (hg : g < w1.heap.size) (hw : w.heap.size ≤ w1.heap.size) (h9 : (∀ p : Addr, p.block ≠ g → z9.cell? p = z.cell? p) ∧ z9.heap.size = z.heap.size) : rF z9 (Fresh w z9) f cs :=
 rF_ok _ _ _ _ _ _ (fun p hp => h9.1 p (fun e => by have := hp.1; omega)) (fun b hb => ⟨Nat.le_trans hw hb.1, by rw [h9.2]; exact hb.2⟩) h
theorem ownR_fl {w w1 z : World} {A : Option Addr} {c : Nat} {l : List FV} {e : TypeId} (H : OwnR (rFB w1.heap.size) 4 w1 z e (.slice A l.length c) l) (hw : w.heap.size ≤ w1.heap.size) : rF z (Fresh w z) (fL l) [.int .i64 2, .int .i64 0, .string ⟨#[]⟩, .slice A l.length c] := by
 obtain ⟨cs, hO, hL⟩ := H
 refine ⟨A, c, cs, by show _ = [Value.int .i64 2, Value.int .i64 0, Value.string ⟨#[]⟩, Value.slice _ (ofL l).length _]; rw [ofL_length], ii2, ii0, ⟨⟨?_, ?_⟩, ?_⟩, rep_of (RList.map (fun x c hc => rF_ok _ _ _ _ _ _ (fun _ _ => rfl) (fun b hb => ⟨Nat.le_trans hw hb.1, hb.2.1⟩) hc) (rl_conv hL))⟩
 ·show cs.length = (ofL l).length * 4
  rw [ofL_length]; exact hO.1.1
 ·show 0 < (ofL l).length → _
  rw [ofL_length]
  intro h0
  obtain ⟨r, h1, h2, h3, h4, _⟩ := hO.head h0
  exact ⟨r, 0, h1, ⟨Nat.le_trans hw h2, h3⟩, fun j u hu => by rw [Nat.zero_add]; exact h4 j u hu⟩
 ·show (ofL l).length ≤ c
  rw [ofL_length]; exact hO.cap_le
theorem flag_fc : Form1 111 Cod.flag := by
 intro w f v hr hs
 obtain ⟨b, rfl, h⟩ := hr
 injection h with h
 subst h
 cases b with
 | true =>
  go_enter Tryz.func111, Tryz.ntmps111
  go_upto_region 1 with (fail)
  generalize hx_ : World.alloc w _ = wo1
  have hO1 : OwnB w wo1 [(w.heap.size, [.int .i64 0, .int .i64 0, .string ⟨#[]⟩, .slice none 0 0])] := by rw [← hx_]; exact (OwnB.refl w).new #[.int .i64 0, .int .i64 0, .string ⟨#[]⟩, .slice none 0 0] _ (g := w.heap.size)
  have hbn : Below w.heap.size w wo1 := by rw [← hx_]; exact (Below.refl _ _).alloc (Nat.le_refl _) _
  have zwo1 : wo1.heap.size = w.heap.size + 1 := by rw [← hx_]; simp
  clear hx_
  have c0_0 := hO1.c 0 0
  have c0_1 := hO1.c 0 1
  have c0_2 := hO1.c 0 2
  have c0_3 := hO1.c 0 3
  have cf0 := hO1.fr 0
  clear hbn
  have hlt0 : w.heap.size < wo1.heap.size := hO1.lt 0
  repeat' (first | go_skip | go_guarded | go_step)
  refine (num_any 1 ii1 wo1).mono ?_
  rintro e w2 ⟨A, c, rfl, hF, hb2⟩
  dsimp only at hF ⊢
  have zw2 := hb2.size
  have hO2 : OwnB w w2 [(w.heap.size, [.int .i64 0, .int .i64 0, .string ⟨#[]⟩, .slice none 0 0])] := hO1.kept hb2
  clear c0_0 c0_1 c0_2 c0_3 cf0 hO1
  have c0_0 := hO2.c 0 0
  have c0_1 := hO2.c 0 1
  have c0_2 := hO2.c 0 2
  have c0_3 := hO2.c 0 3
  have cf0 := hO2.fr 0
  repeat' ((fail_if_success at_builtin); first | go_skip | go_guarded | go_step)
  have hO9 := (((hO2.store 0 rfl 0 (.int .i64 0)).store 0 rfl 1 (.int .i64 1)).store 0 rfl 2 (.string ByteArray.empty)).store 0 rfl 3 (.slice A (Flds.length .nil) c)
  have h9 := far4g w2 w.heap.size (.int .i64 0) (.int .i64 1) (.string ByteArray.empty) (.slice A (Flds.length .nil) c)
  generalize World.setCell (World.setCell (World.setCell (World.setCell w2 _ _) _ _) _ _) _ _ = w9 at *
  have y0 := hO9.c 0 0
  have y1 := hO9.c 0 1
  have y2 := hO9.c 0 2
  have y3 := hO9.c 0 3
  replace hF := rf_far (w := w) hF hlt0 (Nat.le_of_lt hlt0) h9
  refine bodyPost_ret (v := .agg #[.int .i64 0, .int .i64 1, .string ByteArray.empty, .slice A (Flds.length .nil) c]) (by simp only [results, Tryz.results111]; go_simp; first | done | exact ⟨rfl, rfl, rfl⟩ | rfl) rfl ?_
  exact ⟨A, c, rfl, hF, hO9.below⟩
 | false =>
  go_enter Tryz.func111, Tryz.ntmps111
  go_upto_region 1 with (fail)
  generalize hx_ : World.alloc w _ = wo1
  have hO1 : OwnB w wo1 [(w.heap.size, [.int .i64 0, .int .i64 0, .string ⟨#[]⟩, .slice none 0 0])] := by rw [← hx_]; exact (OwnB.refl w).new #[.int .i64 0, .int .i64 0, .string ⟨#[]⟩, .slice none 0 0] _ (g := w.heap.size)
  have hbn : Below w.heap.size w wo1 := by rw [← hx_]; exact (Below.refl _ _).alloc (Nat.le_refl _) _
  have zwo1 : wo1.heap.size = w.heap.size + 1 := by rw [← hx_]; simp
  clear hx_
  have c0_0 := hO1.c 0 0
  have c0_1 := hO1.c 0 1
  have c0_2 := hO1.c 0 2
  have c0_3 := hO1.c 0 3
  have cf0 := hO1.fr 0
  clear hbn
  have hlt0 : w.heap.size < wo1.heap.size := hO1.lt 0
  repeat' (first | go_skip | go_guarded | go_step)
  refine (num_any 0 ii0 wo1).mono ?_
  rintro e w2 ⟨A, c, rfl, hF, hb2⟩
  dsimp only at hF ⊢
  have zw2 := hb2.size
  have hO2 : OwnB w w2 [(w.heap.size, [.int .i64 0, .int .i64 0, .string ⟨#[]⟩, .slice none 0 0])] := hO1.kept hb2
  clear c0_0 c0_1 c0_2 c0_3 cf0 hO1
  have c0_0 := hO2.c 0 0
  have c0_1 := hO2.c 0 1
  have c0_2 := hO2.c 0 2
  have c0_3 := hO2.c 0 3
  have cf0 := hO2.fr 0
  repeat' ((fail_if_success at_builtin); first | go_skip | go_guarded | go_step)
  have hO9 := (((hO2.store 0 rfl 0 (.int .i64 0)).store 0 rfl 1 (.int .i64 0)).store 0 rfl 2 (.string ByteArray.empty)).store 0 rfl 3 (.slice A (Flds.length .nil) c)
  have h9 := far4g w2 w.heap.size (.int .i64 0) (.int .i64 0) (.string ByteArray.empty) (.slice A (Flds.length .nil) c)
  generalize World.setCell (World.setCell (World.setCell (World.setCell w2 _ _) _ _) _ _) _ _ = w9 at *
  have y0 := hO9.c 0 0
  have y1 := hO9.c 0 1
  have y2 := hO9.c 0 2
  have y3 := hO9.c 0 3
  replace hF := rf_far (w := w) hF hlt0 (Nat.le_of_lt hlt0) h9
  refine bodyPost_ret (v := .agg #[.int .i64 0, .int .i64 0, .string ByteArray.empty, .slice A (Flds.length .nil) c]) (by simp only [results, Tryz.results111]; go_simp; first | done | exact ⟨rfl, rfl, rfl⟩ | rfl) rfl ?_
  exact ⟨A, c, rfl, hF, hO9.below⟩
theorem strs_fc : Form1 115 (Cod.list Cod.str) := by
 intro w f v hr hs
 obtain ⟨m, A, c, rfl, h, hR⟩ := hr
 injection h with h
 subst h
 rw [fsz_fL] at hs
 have hm := lsz_length m
 go_enter Tryz.func115, Tryz.ntmps115
 go_upto_region 1 with (fail)
 generalize hx_ : World.alloc w _ = wo1
 have hO1 : OwnB w wo1 [(w.heap.size, [.int .i64 0, .int .i64 0, .string ⟨#[]⟩, .slice none 0 0])] := by rw [← hx_]; exact (OwnB.refl w).new #[.int .i64 0, .int .i64 0, .string ⟨#[]⟩, .slice none 0 0] _ (g := w.heap.size)
 have hbn : Below w.heap.size w wo1 := by rw [← hx_]; exact (Below.refl _ _).alloc (Nat.le_refl _) _
 have zwo1 : wo1.heap.size = w.heap.size + 1 := by rw [← hx_]; simp
 clear hx_
 have c0_0 := hO1.c 0 0
 have c0_1 := hO1.c 0 1
 have c0_2 := hO1.c 0 2
 have c0_3 := hO1.c 0 3
 have cf0 := hO1.fr 0
 clear hbn
 have hb0 := hO1.below
 have hz0 : w.heap.size < wo1.heap.size := hO1.lt 0
 have hR0 := OwnR.nil (r := rFB wo1.heap.size) (sz := 4) wo1 fldT
 replace hR := Lib.hid hR
 repeat' (first | go_skip | go_guarded | go_step)
 go_loopw [3, 4] (fun u3 u4 wr => ∃ (i : Nat) (A' : Option Addr) (n' c' : Nat), i ≤ m.length ∧ u4 = .int .i64 (i : Int) ∧ u3 = .slice A' n' c' ∧ n' = (m.take i).length ∧ OwnR (rFB wo1.heap.size) 4 wo1 wr fldT (.slice A' n' c') (m.take i)) (fun _ u4 _ => m.length - (intOf u4).toNat)
 case atStart => exact ⟨0, none, 0, 0, Nat.zero_le _, rfl, rfl, rfl, hR0⟩
 case round =>
  clear hR0
  obtain ⟨i, A', n', c', hi, rfl, rfl, hn', hL⟩ := hrel
  replace hn' := Lib.hid hn'
  have hbr := hL.bel
  have hO2 : OwnB w wr [(w.heap.size, [.int .i64 0, .int .i64 0, .string ⟨#[]⟩, .slice none 0 0])] := hO1.kept hbr
  clear c0_0 c0_1 c0_2 c0_3 cf0 hO1
  have c0_0 := hO2.c 0 0
  have c0_1 := hO2.c 0 1
  have c0_2 := hO2.c 0 2
  have c0_3 := hO2.c 0 3
  have cf0 := hO2.fr 0
  by_cases hlt : i < m.length
  ·obtain ⟨x, hx⟩ : ∃ x, m[i]? = some x := ⟨_, List.getElem?_eq_getElem hlt⟩
   obtain ⟨b, o', k1, rfl, hb, hkl, hrx, hat⟩ := hR.out.at_ hx
   obtain ⟨vx, rfl⟩ := one_list hkl
   have hbw : Below w.heap.size w wr := hb0.trans (hbr.mono hb0.size)
   have e1 := (hbw.cell (p := ⟨b, o' + i * 1 + 0, none⟩) hb).trans (hat 0 _ rfl)
   rw [Nat.add_zero, Nat.mul_one] at e1
   have f1 : (0 : Int) ≤ (i : Int) := by omega
   have f2 : (i : Int) < (m.length : Int) := by omega
   have hsx : fsz x ≤ 1000000000 := by have := fsz_mem (List.mem_of_getElem? hx); omega
   repeat' (first | go_skip | go_guarded | go_step)
   refine (str_fc wr x vx (Cod.str_ok.up hrx hbw) hsx).mono ?_
   rintro e w2 ⟨A2, c2, rfl, hF, hb2⟩
   dsimp only
   have hx2 := rFB_of hL hF hbr.size
   clear hF
   have f3 : IntKind.i64.wrap ((i : Int) + 1) = (i : Int) + 1 := IntWalk.i64_in _ (by omega)
   replace hx2 := Lib.hid hx2
   repeat' ((fail_if_success at_builtin); first | go_skip | go_guarded | go_step)
   refine wp_appR1 (rFB_ok _) hL hb2 hx2.out fld_und fld_info (by rw [List.length_take]; omega) ?_
   intro v5 w5 hL5
   clear hL hx2
   obtain ⟨A5, c5, rfl⟩ := hL5.form
   generalize hnn : (m.take i ++ [x]).length = n5 at *
   replace hnn := Lib.hid hnn
   repeat' (first | go_skip | go_guarded | go_step)
   go_roundw
   case rel =>
    have e5 : m.take (i + 1) = m.take i ++ [x] := by rw [List.take_add_one, hx]; rfl
    refine ⟨i + 1, A5, n5, c5, by omega, by congr 1, rfl, by rw [e5]; exact hnn.out.symm, by rw [e5]; exact hL5⟩
   case measure => simp [intOf]; omega
  ·obtain rfl : i = m.length := by omega
   have hn2 := hn'.out
   rw [List.take_length] at hL hn2
   subst hn2
   clear hn'
   repeat' (first | go_skip | go_guarded | go_step)
   refine (seq_any A' m.length c' wr).mono ?_
   rintro e w2 ⟨rfl, hb2⟩
   dsimp only
   have hF := ownR_fl (hL.below (rFB_ok _) hb2) (Nat.le_refl _)
   have zw2 := hb2.size
   have hO3 : OwnB w w2 [(w.heap.size, [.int .i64 0, .int .i64 0, .string ⟨#[]⟩, .slice none 0 0])] := hO2.kept hb2
   clear c0_0 c0_1 c0_2 c0_3 cf0 hO2
   have c0_0 := hO3.c 0 0
   have c0_1 := hO3.c 0 1
   have c0_2 := hO3.c 0 2
   have c0_3 := hO3.c 0 3
   have cf0 := hO3.fr 0
   repeat' ((fail_if_success at_builtin); first | go_skip | go_guarded | go_step)
   have hO9 := (((hO3.store 0 rfl 0 (.int .i64 2)).store 0 rfl 1 (.int .i64 0)).store 0 rfl 2 (.string ⟨#[]⟩)).store 0 rfl 3 (.slice A' m.length c')
   have h9 := far4g w2 w.heap.size (.int .i64 2) (.int .i64 0) (.string ⟨#[]⟩) (.slice A' m.length c')
   generalize World.setCell (World.setCell (World.setCell (World.setCell w2 _ _) _ _) _ _) _ _ = w9 at *
   have y0 := hO9.c 0 0
   have y1 := hO9.c 0 1
   have y2 := hO9.c 0 2
   have y3 := hO9.c 0 3
   replace hF := rf_far (w := w) hF hz0 (Nat.le_of_lt hz0) h9
   refine bodyPost_ret (v := .agg #[.int .i64 2, .int .i64 0, .string ⟨#[]⟩, .slice A' m.length c']) (by simp only [results, Tryz.results115]; go_simp; first | done | exact ⟨rfl, rfl, rfl⟩ | rfl) rfl ?_
   have e9 := ofL_length m
   exact ⟨A', c', by show _ = Ending.returned (.agg #[.int .i64 2, .int .i64 0, .string ⟨#[]⟩, .slice A' (ofL m).length c']); rw [e9], by show rF _ _ _ [.int .i64 2, .int .i64 0, .string ⟨#[]⟩, .slice A' (ofL m).length c']; rw [e9]; exact hF, hO9.below⟩
theorem ints_fc : Form1 116 (Cod.list Cod.int) := by
 intro w f v hr hs
 obtain ⟨m, A, c, rfl, h, hR⟩ := hr
 injection h with h
 subst h
 rw [fsz_fL] at hs
 have hm := lsz_length m
 go_enter Tryz.func116, Tryz.ntmps116
 go_upto_region 1 with (fail)
 generalize hx_ : World.alloc w _ = wo1
 have hO1 : OwnB w wo1 [(w.heap.size, [.int .i64 0, .int .i64 0, .string ⟨#[]⟩, .slice none 0 0])] := by rw [← hx_]; exact (OwnB.refl w).new #[.int .i64 0, .int .i64 0, .string ⟨#[]⟩, .slice none 0 0] _ (g := w.heap.size)
 have hbn : Below w.heap.size w wo1 := by rw [← hx_]; exact (Below.refl _ _).alloc (Nat.le_refl _) _
 have zwo1 : wo1.heap.size = w.heap.size + 1 := by rw [← hx_]; simp
 clear hx_
 have c0_0 := hO1.c 0 0
 have c0_1 := hO1.c 0 1
 have c0_2 := hO1.c 0 2
 have c0_3 := hO1.c 0 3
 have cf0 := hO1.fr 0
 clear hbn
 have hb0 := hO1.below
 have hz0 : w.heap.size < wo1.heap.size := hO1.lt 0
 have hR0 := OwnR.nil (r := rFB wo1.heap.size) (sz := 4) wo1 fldT
 replace hR := Lib.hid hR
 repeat' (first | go_skip | go_guarded | go_step)
 go_loopw [3, 4] (fun u3 u4 wr => ∃ (i : Nat) (A' : Option Addr) (n' c' : Nat), i ≤ m.length ∧ u4 = .int .i64 (i : Int) ∧ u3 = .slice A' n' c' ∧ n' = (m.take i).length ∧ OwnR (rFB wo1.heap.size) 4 wo1 wr fldT (.slice A' n' c') (m.take i)) (fun _ u4 _ => m.length - (intOf u4).toNat)
 case atStart => exact ⟨0, none, 0, 0, Nat.zero_le _, rfl, rfl, rfl, hR0⟩
 case round =>
  clear hR0
  obtain ⟨i, A', n', c', hi, rfl, rfl, hn', hL⟩ := hrel
  replace hn' := Lib.hid hn'
  have hbr := hL.bel
  have hO2 : OwnB w wr [(w.heap.size, [.int .i64 0, .int .i64 0, .string ⟨#[]⟩, .slice none 0 0])] := hO1.kept hbr
  clear c0_0 c0_1 c0_2 c0_3 cf0 hO1
  have c0_0 := hO2.c 0 0
  have c0_1 := hO2.c 0 1
  have c0_2 := hO2.c 0 2
  have c0_3 := hO2.c 0 3
  have cf0 := hO2.fr 0
  by_cases hlt : i < m.length
  ·obtain ⟨x, hx⟩ : ∃ x, m[i]? = some x := ⟨_, List.getElem?_eq_getElem hlt⟩
   obtain ⟨b, o', k1, rfl, hb, hkl, hrx, hat⟩ := hR.out.at_ hx
   obtain ⟨vx, rfl⟩ := one_list hkl
   have hbw : Below w.heap.size w wr := hb0.trans (hbr.mono hb0.size)
   have e1 := (hbw.cell (p := ⟨b, o' + i * 1 + 0, none⟩) hb).trans (hat 0 _ rfl)
   rw [Nat.add_zero, Nat.mul_one] at e1
   have f1 : (0 : Int) ≤ (i : Int) := by omega
   have f2 : (i : Int) < (m.length : Int) := by omega
   have hsx : fsz x ≤ 1000000000 := by have := fsz_mem (List.mem_of_getElem? hx); omega
   repeat' (first | go_skip | go_guarded | go_step)
   refine (num_fc wr x vx (Cod.int_ok.up hrx hbw) hsx).mono ?_
   rintro e w2 ⟨A2, c2, rfl, hF, hb2⟩
   dsimp only
   have hx2 := rFB_of hL hF hbr.size
   clear hF
   have f3 : IntKind.i64.wrap ((i : Int) + 1) = (i : Int) + 1 := IntWalk.i64_in _ (by omega)
   replace hx2 := Lib.hid hx2
   repeat' ((fail_if_success at_builtin); first | go_skip | go_guarded | go_step)
   refine wp_appR1 (rFB_ok _) hL hb2 hx2.out fld_und fld_info (by rw [List.length_take]; omega) ?_
   intro v5 w5 hL5
   clear hL hx2
   obtain ⟨A5, c5, rfl⟩ := hL5.form
   generalize hnn : (m.take i ++ [x]).length = n5 at *
   replace hnn := Lib.hid hnn
   repeat' (first | go_skip | go_guarded | go_step)
   go_roundw
   case rel =>
    have e5 : m.take (i + 1) = m.take i ++ [x] := by rw [List.take_add_one, hx]; rfl
    refine ⟨i + 1, A5, n5, c5, by omega, by congr 1, rfl, by rw [e5]; exact hnn.out.symm, by rw [e5]; exact hL5⟩
   case measure => simp [intOf]; omega
  ·obtain rfl : i = m.length := by omega
   have hn2 := hn'.out
   rw [List.take_length] at hL hn2
   subst hn2
   clear hn'
   repeat' (first | go_skip | go_guarded | go_step)
   refine (seq_any A' m.length c' wr).mono ?_
   rintro e w2 ⟨rfl, hb2⟩
   dsimp only
   have hF := ownR_fl (hL.below (rFB_ok _) hb2) (Nat.le_refl _)
   have zw2 := hb2.size
   have hO3 : OwnB w w2 [(w.heap.size, [.int .i64 0, .int .i64 0, .string ⟨#[]⟩, .slice none 0 0])] := hO2.kept hb2
   clear c0_0 c0_1 c0_2 c0_3 cf0 hO2
   have c0_0 := hO3.c 0 0
   have c0_1 := hO3.c 0 1
   have c0_2 := hO3.c 0 2
   have c0_3 := hO3.c 0 3
   have cf0 := hO3.fr 0
   repeat' ((fail_if_success at_builtin); first | go_skip | go_guarded | go_step)
   have hO9 := (((hO3.store 0 rfl 0 (.int .i64 2)).store 0 rfl 1 (.int .i64 0)).store 0 rfl 2 (.string ⟨#[]⟩)).store 0 rfl 3 (.slice A' m.length c')
   have h9 := far4g w2 w.heap.size (.int .i64 2) (.int .i64 0) (.string ⟨#[]⟩) (.slice A' m.length c')
   generalize World.setCell (World.setCell (World.setCell (World.setCell w2 _ _) _ _) _ _) _ _ = w9 at *
   have y0 := hO9.c 0 0
   have y1 := hO9.c 0 1
   have y2 := hO9.c 0 2
   have y3 := hO9.c 0 3
   replace hF := rf_far (w := w) hF hz0 (Nat.le_of_lt hz0) h9
   refine bodyPost_ret (v := .agg #[.int .i64 2, .int .i64 0, .string ⟨#[]⟩, .slice A' m.length c']) (by simp only [results, Tryz.results116]; go_simp; first | done | exact ⟨rfl, rfl, rfl⟩ | rfl) rfl ?_
   have e9 := ofL_length m
   exact ⟨A', c', by show _ = Ending.returned (.agg #[.int .i64 2, .int .i64 0, .string ⟨#[]⟩, .slice A' (ofL m).length c']); rw [e9], by show rF _ _ _ [.int .i64 2, .int .i64 0, .string ⟨#[]⟩, .slice A' (ofL m).length c']; rw [e9]; exact hF, hO9.below⟩
theorem origin_fc : FormS 66 Cod.origin := by
 intro w f cs hr hs
 obtain ⟨fs, rfl, hr⟩ := hr
 obtain ⟨f1, r1, k1, d1, rfl, rfl, q1, hr⟩ := hr
 obtain ⟨f2, r2, k2, d2, rfl, rfl, q2, hr⟩ := hr
 obtain ⟨f3, r3, k3, d3, rfl, rfl, q3, hr⟩ := hr
 obtain ⟨rfl, rfl⟩ := hr
 rw [fsz_fL] at hs
 have s1 : fsz f1 ≤ 1000000000 := by have := fsz_mem (l := [f1, f2, f3]) (f := f1) (by simp); omega
 have s2 : fsz f2 ≤ 1000000000 := by have := fsz_mem (l := [f1, f2, f3]) (f := f2) (by simp); omega
 have s3 : fsz f3 ≤ 1000000000 := by have := fsz_mem (l := [f1, f2, f3]) (f := f3) (by simp); omega
 obtain ⟨v1, rfl⟩ := one_list (Cod.str_ok.len q1)
 obtain ⟨v2, rfl⟩ := one_list (Cod.str_ok.len q2)
 obtain ⟨v3, rfl⟩ := one_list (Cod.flag_ok.len q3)
 show Calls _ _ #[.agg #[v1, v2, v3]] _ _
 go_enter Tryz.func66, Tryz.ntmps66
 go_upto_region 1 with (fail)
 generalize hx_ : World.alloc (World.alloc w _) _ = wo1
 have hP1 : OwnB w wo1 [(w.heap.size + 1, [.int .i64 0, .int .i64 0, .string ⟨#[]⟩, .slice none 0 0]), (w.heap.size, [v1, v2, v3])] := by rw [← hx_]; exact ((OwnB.refl w).new #[v1, v2, v3] _ (g := w.heap.size)).new #[.int .i64 0, .int .i64 0, .string ⟨#[]⟩, .slice none 0 0] _ (g := w.heap.size + 1)
 have hbn : Below w.heap.size w wo1 := by rw [← hx_]; exact ((Below.refl _ _).alloc (Nat.le_refl _) _).alloc (by simp) _
 have zwo1 : wo1.heap.size = w.heap.size + 2 := by rw [← hx_]; simp
 clear hx_
 have c0_0 := hP1.c 0 0
 have c0_1 := hP1.c 0 1
 have c0_2 := hP1.c 0 2
 have c0_3 := hP1.c 0 3
 have cf0 := hP1.fr 0
 have c1_0 := hP1.c 1 0
 have c1_1 := hP1.c 1 1
 have c1_2 := hP1.c 1 2
 have cf1 := hP1.fr 1
 clear hbn
 have hz : wo1.heap.size ≤ wo1.heap.size := Nat.le_refl _
 have hlt1 : w.heap.size + 1 < wo1.heap.size := hP1.lt 0
 clear zwo1
 have hO := hP1.drew
 have hz : wo1.heap.size ≤ wo1.drew.heap.size := Nat.le_refl _
 refine wp_region_held_drew (S := (fun w' => w'.cell? ⟨w.heap.size, 0, none⟩ = some (v1) ∧ w'.cell? ⟨w.heap.size, 1, none⟩ = some (v2) ∧ w'.cell? ⟨w.heap.size, 2, none⟩ = some (v3))) (by kernel_rfl) ?_ (fun hHeld => ?_)
 ·(try dsimp only)
  exact ⟨hO.c 1 0, hO.c 1 1, hO.c 1 2⟩
 generalize World.drew wo1 = vd at *
 refine tkY 0 (v := ?v1) rfl (.inl ⟨by rfl, ?hy1⟩) ?hr1
 case hy1 => (intro w hSw; (try dsimp only at hSw); go_simp; try with_reducible rfl)
 simp only [Act.put, Z1, Z2, Z4, Z5, Z6]
 refine tkY 1 (v := ?v2) rfl (.inl ⟨by rfl, ?hy2⟩) ?hr2
 case hy2 => (intro w hSw; (try dsimp only at hSw); go_simp; try with_reducible rfl)
 simp only [Act.put, Z1, Z2, Z3, Z4, Z5, Z6]
 refine tkY 3 (v := ?v3) rfl (.inl ⟨by rfl, ?hy3⟩) ?hr3
 case hy3 => (intro w hSw; (try dsimp only at hSw); go_simp; try with_reducible rfl)
 simp only [Act.put, Z1, Z2, Z3, Z4, Z5, Z6]
 refine tkY 4 (v := ?v4) rfl (.inl ⟨by rfl, ?hy4⟩) ?hr4
 case hy4 => (intro w hSw; (try dsimp only at hSw); go_simp; try with_reducible rfl)
 simp only [Act.put, Z1, Z2, Z3, Z4, Z5, Z6]
 refine tkY 6 (v := ?v5) rfl (.inl ⟨by rfl, ?hy5⟩) ?hr5
 case hy5 => (intro w hSw; (try dsimp only at hSw); go_simp; try with_reducible rfl)
 simp only [Act.put, Z1, Z2, Z3, Z4, Z5, Z6]
 refine tkY 7 (v := ?v6) rfl (.inl ⟨by rfl, ?hy6⟩) ?hr6
 case hy6 => (intro w hSw; (try dsimp only at hSw); go_simp; try with_reducible rfl)
 simp only [Act.put, Z1, Z2, Z3, Z4, Z5, Z6]
 refine wpAnyH_ready (rs := [2]) (by kernel_rfl) (by simp) ?_
 refine AllReadyH.cons rfl (fun K hK => ?_) AllReadyH.nil
 go_simp
 go_at_call 65
 refine (str_fc vd f1 v1 (Cod.str_ok.up q1 hO.below) s1).mono ?_
 rintro e z1 ⟨A1, c1, rfl, hF1, hbq⟩
 dsimp only
 replace hF1 := rf_lo hF1 hz
 replace hO := hO.kept hbq
 have hz_ := hz
 replace hz := Nat.le_trans hz hbq.size
 refine hK.out _ _ ?_ (fun hHeld => ?_)
 ·(try dsimp only)
  exact ⟨hO.c 1 0, hO.c 1 1, hO.c 1 2⟩
 clear hK K
 try simp only [Act.put, Z1, Z2, Z3, Z4, Z5, Z6]
 refine wpAnyH_ready (rs := [5]) (by kernel_rfl) (by simp) ?_
 refine AllReadyH.cons rfl (fun K hK => ?_) AllReadyH.nil
 go_simp
 go_at_call 65
 refine (str_fc z1 f2 v2 (Cod.str_ok.up q2 hO.below) s2).mono ?_
 rintro e z2 ⟨A2, c2, rfl, hF2, hbq⟩
 dsimp only
 replace hF2 := rf_lo hF2 hz
 replace hF1 := rf_up hF1 hbq
 replace hO := hO.kept hbq
 have hz_ := hz
 replace hz := Nat.le_trans hz hbq.size
 refine hK.out _ _ ?_ (fun hHeld => ?_)
 ·(try dsimp only)
  exact ⟨hO.c 1 0, hO.c 1 1, hO.c 1 2⟩
 clear hK K
 try simp only [Act.put, Z1, Z2, Z3, Z4, Z5, Z6]
 refine wpAnyH_ready (rs := [8]) (by kernel_rfl) (by simp) ?_
 refine AllReadyH.cons rfl (fun K hK => ?_) AllReadyH.nil
 go_simp
 go_at_call 111
 refine (flag_fc z2 f3 v3 (Cod.flag_ok.up q3 hO.below) s3).mono ?_
 rintro e z3 ⟨A3, c3, rfl, hF3, hbq⟩
 dsimp only
 replace hF3 := rf_lo hF3 hz
 replace hF1 := rf_up hF1 hbq
 replace hF2 := rf_up hF2 hbq
 replace hO := hO.kept hbq
 have hz_ := hz
 replace hz := Nat.le_trans hz hbq.size
 refine hK.out _ _ ?_ (fun hHeld => ?_)
 ·(try dsimp only)
  exact ⟨hO.c 1 0, hO.c 1 1, hO.c 1 2⟩
 clear hK K
 try simp only [Act.put, Z1, Z2, Z3, Z4, Z5, Z6]
 refine wpAnyH_ready (rs := [9]) (by kernel_rfl) (by simp) ?_
 refine AllReadyH.cons rfl (fun K hK => ?_) AllReadyH.nil
 go_simp
 generalize hx_ : World.alloc z3 _ = z4
 have hbq : Below z3.heap.size z3 z4 := by rw [← hx_]; exact (Below.refl _ _).alloc (Nat.le_refl _) _
 have hC : CellsAt z4 z3.heap.size (fC f1 A1 c1 ++ (fC f2 A2 c2 ++ (fC f3 A3 c3 ++ ([])))) := by rw [← hx_]; exact CellsAt.new z3 _ _
 clear hx_
 replace hF1 := rf_up hF1 hbq
 replace hF2 := rf_up hF2 hbq
 replace hF3 := rf_up hF3 hbq
 replace hO := hO.kept hbq
 have hz_ := hz
 replace hz := Nat.le_trans hz hbq.size
 have hL := rl_cons hF1 (rl_cons hF2 (rl_cons hF3 (rl_nil)))
 have hFR := seq_of hC hz_ hL (n := 3) rfl
 clear hC hL hF1 hF2 hF3
 refine hK.out _ _ ?_ (fun hHeld => ?_)
 ·(try dsimp only)
  exact ⟨hO.c 1 0, hO.c 1 1, hO.c 1 2⟩
 clear hK K
 try simp only [Act.put, Z1, Z2, Z3, Z4, Z5, Z6]
 refine wpAnyH_ready (rs := [10]) (by kernel_rfl) (by simp) ?_
 refine AllReadyH.cons rfl (fun K hK => ?_) AllReadyH.nil
 go_simp
 go_at_call 39
 refine (seq_any _ _ _ _).mono ?_
 rintro e z5 ⟨rfl, hbq⟩
 dsimp only
 replace hFR := rf_up hFR hbq
 replace hO := hO.kept hbq
 have hz_ := hz
 replace hz := Nat.le_trans hz hbq.size
 refine hK.out _ _ ?_ (fun hHeld => ?_)
 ·(try dsimp only)
  exact ⟨hO.c 1 0, hO.c 1 1, hO.c 1 2⟩
 clear hK K
 try simp only [Act.put, Z1, Z2, Z3, Z4, Z5, Z6]
 refine wpAnyH_ready (rs := [11]) (by kernel_rfl) (by simp) ?_
 refine AllReadyH.cons rfl (fun K hK => ?_) AllReadyH.nil
 have y0 := hO.c 0 0
 have y1 := hO.c 0 1
 have y2 := hO.c 0 2
 have y3 := hO.c 0 3
 have yf := hO.fr 0
 go_simp
 clear y0 y1 y2 y3 yf
 have hO9 := (((hO.store 0 rfl 0 (.int .i64 2)).store 0 rfl 1 (.int .i64 0)).store 0 rfl 2 (.string ⟨#[]⟩)).store 0 rfl 3 (.slice (some ⟨z3.heap.size, 0, none⟩) 3 3)
 have h9 := far4g z5 (w.heap.size + 1) (.int .i64 2) (.int .i64 0) (.string ⟨#[]⟩) (.slice (some ⟨z3.heap.size, 0, none⟩) 3 3)
 generalize World.setCell (World.setCell (World.setCell (World.setCell z5 _ _) _ _) _ _) _ _ = w9 at *
 refine hK.out _ _ ?_ (fun hHeld => ?_)
 ·(try dsimp only)
  exact ⟨hO9.c 1 0, hO9.c 1 1, hO9.c 1 2⟩
 clear hK K
 try simp only [Act.put, Z1, Z2, Z3, Z4, Z5, Z6]
 refine wpAnyH_done (by kernel_rfl) ?_ _
 clear hHeld
 have y0 := hO9.c 0 0
 have y1 := hO9.c 0 1
 have y2 := hO9.c 0 2
 have y3 := hO9.c 0 3
 replace hFR := rf_far (w := w) hFR hlt1 (Nat.le_of_lt (Nat.lt_of_succ_lt hlt1)) h9
 repeat' (first | go_skip | go_guarded | go_step)
 refine bodyPost_ret (v := .agg #[.int .i64 2, .int .i64 0, .string ⟨#[]⟩, .slice (some ⟨z3.heap.size, 0, none⟩) 3 3]) (by simp only [results, Tryz.results66]; go_simp; first | done | exact ⟨rfl, rfl, rfl⟩ | rfl) rfl ?_
 exact ⟨some ⟨z3.heap.size, 0, none⟩, 3, rfl, hFR, hO9.below⟩
theorem box_rs {B : Nat} {w1 wr z : World} {v : Value} {l : List FV} {e : TypeId} {f : FV} {cs : List Value} {bx : Nat} (H : OwnR (rFB B) 4 w1 wr e v l) (hc : CellsAt z bx cs) (hb : wr.heap.size ≤ bx) (hF : rF z (Fresh wr z) f cs) (hB : B ≤ wr.heap.size) : RSlice (rFB B) 4 z (Beh z v) (some ⟨bx, 0, none⟩) 1 1 [f] :=
 ⟨rfl, Nat.le_refl _, (fun h => by cases h), cs, ⟨rF_len hF, fun _ => ⟨bx, 0, rfl, beh_lo H hb hc.lt, fun j u hu => by rw [Nat.zero_add]; exact hc.cell j u hu⟩⟩, RList.one (rFB_of H hF hB) (rF_len hF)⟩
theorem at_up {w z : World} {b o : Nat} {cs : List Value} (h : w.rangeAt b o cs) (hb : Below w.heap.size w z) (hl : b < w.heap.size) : z.rangeAt b o cs := fun j v hj => (hb.cell (p := ⟨b, o + j, none⟩) hl).trans (h j v hj)
theorem step_appRS {α : Type} {r : Rd α} {l m : List α} {P : Program} {ops : Array Oper} {o : Oper} {a : Act} {K : Act → World → Prop} {Q : Exit → Act → World → Prop} {E : Prop} {w w0 : World} {e : TypeId} {sz c : Nat} {v : Value} {A : Option Addr} (hr : RdOk r) (h1 : RdOne r) (H : OwnR r sz w0 w e v l) {k : Nat} (hx : RSlice r sz w (Beh w v) A k c m) {t : TypeId} {z : Value} {bytes : Nat} (ht : P.underlying t = some (.slice e)) (hi : Info P e z sz bytes)
  (hbytes : (l.length + k) * bytes ≤ 140737488355328)
  (h : ∀ v' w', OwnR r sz w0 w' e v' (l ++ m) → Grew w w' v v' → K (a.put o.dst v') w')
  {s y : Operand} (hgd : o.guard = none := by rfl) (ho : o.op = .call { callee := .builtin .append, args := #[s, y], argTypes := #[t, t] } := by rfl)
  (hs : a.eval s = v := by rfl) (hy : a.eval y = .slice A k c := by rfl) (hzs : z.cells.size = sz := by rfl) (hsz : 0 < sz := by decide) (hby : 0 < bytes := by decide) :
  if Region.wanted o (yielded ops a.tmps) = true then Oper.wp P o a w K Q else E := by
 obtain ⟨ds, H1, H2⟩ := H
 obtain ⟨rfl, hc, hn, cs, hseq, hlist⟩ := hx
 refine step_appS (B := w.heap.size) H1 ht hi (hseq.imp fun b hb => hb.1) (RList.one_cell (fun x c hc => h1 _ _ x c hc) hlist) hbytes (fun v' w' hO hg => ?_) hgd ho hs hy hzs hsz hby
 obtain ⟨ds2, J1, J2⟩ := (show OwnR r sz w0 w e v l from ⟨ds, H1, H2⟩).below hr (Below.refl _ _)
 exact h v' w' (OwnR.grew hr (wa := w) (by rw [List.length_append]; exact hO) hg H2 hlist) hg
theorem times_fc : Form1 68 (Cod.list Cod.timing) := by
 intro w f v hr hs
 obtain ⟨m, A, c, rfl, h, hR⟩ := hr
 injection h with h
 subst h
 rw [fsz_fL] at hs
 have hm := lsz_length m
 go_enter Tryz.func68, Tryz.ntmps68
 go_upto_region 1 with (fail)
 generalize hx_ : World.alloc w _ = wo1
 have hP1 : OwnB w wo1 [(w.heap.size, [.int .i64 0, .int .i64 0, .string ⟨#[]⟩, .slice none 0 0])] := by rw [← hx_]; exact (OwnB.refl w).new #[.int .i64 0, .int .i64 0, .string ⟨#[]⟩, .slice none 0 0] _ (g := w.heap.size)
 have hbn : Below w.heap.size w wo1 := by rw [← hx_]; exact (Below.refl _ _).alloc (Nat.le_refl _) _
 have zwo1 : wo1.heap.size = w.heap.size + 1 := by rw [← hx_]; simp
 clear hx_
 have c0_0 := hP1.c 0 0
 have c0_1 := hP1.c 0 1
 have c0_2 := hP1.c 0 2
 have c0_3 := hP1.c 0 3
 have cf0 := hP1.fr 0
 clear hbn
 clear zwo1
 have hb0 := hP1.below
 have hz0 : w.heap.size < wo1.heap.size := hP1.lt 0
 have hR0 := OwnR.nil (r := rFB wo1.heap.size) (sz := 4) wo1 fldT
 replace hR := Lib.hid hR
 repeat' (first | go_skip | go_guarded | go_step)
 go_loopw [3, 4] (fun u3 u4 wr => ∃ (i : Nat) (A' : Option Addr) (n' c' : Nat), i ≤ m.length ∧ u4 = .int .i64 (i : Int) ∧ u3 = .slice A' n' c' ∧ n' = (m.take i).length ∧ OwnR (rFB wo1.heap.size) 4 wo1 wr fldT (.slice A' n' c') (m.take i)) (fun _ u4 _ => m.length - (intOf u4).toNat)
 case atStart => exact ⟨0, none, 0, 0, Nat.zero_le _, rfl, rfl, rfl, hR0⟩
 case round =>
  clear hR0
  obtain ⟨i, A', n', c', hi, rfl, rfl, hn', hL⟩ := hrel
  replace hn' := Lib.hid hn'
  have hbr := hL.bel
  have hP2 : OwnB w wr [(w.heap.size, [.int .i64 0, .int .i64 0, .string ⟨#[]⟩, .slice none 0 0])] := hP1.kept hbr
  clear c0_0 c0_1 c0_2 c0_3 cf0 hP1
  have c0_0 := hP2.c 0 0
  have c0_1 := hP2.c 0 1
  have c0_2 := hP2.c 0 2
  have c0_3 := hP2.c 0 3
  have cf0 := hP2.fr 0
  by_cases hlt : i < m.length
  ·obtain ⟨x, hx⟩ : ∃ x, m[i]? = some x := ⟨_, List.getElem?_eq_getElem hlt⟩
   obtain ⟨b, o', k1, rfl, hb, hkl, hrx, hat⟩ := hR.out.at_ hx
   have hbw : Below w.heap.size w wr := hb0.trans (hbr.mono hb0.size)
   have hbW : b < wr.heap.size := Nat.lt_of_lt_of_le hb hbw.size
   have hb1 : b < wo1.heap.size := Nat.lt_trans hb hz0
   have hsx : fsz x ≤ 1000000000 := by have := fsz_mem (List.mem_of_getElem? hx); omega
   have i1 : (0 : Int) ≤ (i : Int) := by omega
   have i2 : (i : Int) < (m.length : Int) := by omega
   obtain ⟨fs, rfl, hr⟩ := hrx
   rw [fsz_fL] at hsx
   have hat' : wr.rangeAt b (o' + i * 2) k1 := fun j u hu => (hbw.cell (p := ⟨b, o' + i * 2 + j, none⟩) hb).trans (hat j u hu)
   clear hat
   obtain ⟨f1, r1, k1, d1, rfl, rfl, q1, hr⟩ := hr
   obtain ⟨f2, r2, k2, d2, rfl, rfl, q2, hr⟩ := hr
   obtain ⟨rfl, rfl⟩ := hr
   have s1 : fsz f1 ≤ 1000000000 := by have := fsz_mem (l := [f1, f2]) (f := f1) (by simp); omega
   have s2 : fsz f2 ≤ 1000000000 := by have := fsz_mem (l := [f1, f2]) (f := f2) (by simp); omega
   obtain ⟨v1, rfl⟩ := one_list (Cod.str_ok.len q1)
   obtain ⟨v2, rfl⟩ := one_list (Cod.int_ok.len q2)
   have e1 : wr.cell? ⟨b, o' + i * 2, none⟩ = some (v1) := hat' 0 _ rfl
   have e2 : wr.cell? ⟨b, o' + i * 2 + 1, none⟩ = some (v2) := hat' 1 _ rfl
   clear hat'
   go_upto_region 5 with (fail)
   have hbc : Below wr.heap.size wr wr.drew := (Below.refl _ _).drew
   have hz := hbc.size
   refine wp_region_held_drew (S := (fun w' => w'.cell? ⟨b, o' + i * 2, none⟩ = some (v1) ∧ w'.cell? ⟨b, o' + i * 2 + 1, none⟩ = some (v2))) (by kernel_rfl) ?_ (fun hHeld => ?_)
   ·(try dsimp only)
    exact ⟨CT hbc hbW e1, CT hbc hbW e2⟩
   generalize World.drew wr = vd at *
   refine tkY 0 (v := ?v1) rfl (.inl ⟨by rfl, ?hy1⟩) ?hr1
   case hy1 => (intro w hSw; (try dsimp only at hSw); go_simp; try with_reducible rfl)
   simp only [Act.put, Z1, Z2, Z4, Z5, Z6]
   refine tkY 1 (v := ?v2) rfl (.inl ⟨by rfl, ?hy2⟩) ?hr2
   case hy2 => (intro w hSw; (try dsimp only at hSw); go_simp; try with_reducible rfl)
   simp only [Act.put, Z1, Z2, Z3, Z4, Z5, Z6]
   refine tkY 2 (v := ?v3) rfl (.inl ⟨by rfl, ?hy3⟩) ?hr3
   case hy3 => (intro w hSw; (try dsimp only at hSw); go_simp; try with_reducible rfl)
   simp only [Act.put, Z1, Z2, Z3, Z4, Z5, Z6]
   refine tkY 3 (v := ?v4) rfl (.inl ⟨by rfl, ?hy4⟩) ?hr4
   case hy4 => (intro w hSw; (try dsimp only at hSw); go_simp; try with_reducible rfl)
   simp only [Act.put, Z1, Z2, Z3, Z4, Z5, Z6]
   refine tkY 4 (v := ?v5) rfl (.inl ⟨by rfl, ?hy5⟩) ?hr5
   case hy5 => (intro w hSw; (try dsimp only at hSw); go_simp; try with_reducible rfl)
   simp only [Act.put, Z1, Z2, Z3, Z4, Z5, Z6]
   refine tkY 5 (v := ?v6) rfl (.inl ⟨by rfl, ?hy6⟩) ?hr6
   case hy6 => (intro w hSw; (try dsimp only at hSw); go_simp; try with_reducible rfl)
   simp only [Act.put, Z1, Z2, Z3, Z4, Z5, Z6]
   refine tkY 7 (v := ?v7) rfl (.inl ⟨by rfl, ?hy7⟩) ?hr7
   case hy7 => (intro w hSw; (try dsimp only at hSw); go_simp; try with_reducible rfl)
   simp only [Act.put, Z1, Z2, Z3, Z4, Z5, Z6]
   refine tkY 8 (v := ?v8) rfl (.inl ⟨by rfl, ?hy8⟩) ?hr8
   case hy8 => (intro w hSw; (try dsimp only at hSw); go_simp; try with_reducible rfl)
   simp only [Act.put, Z1, Z2, Z3, Z4, Z5, Z6]
   refine tkY 9 (v := ?v9) rfl (.inl ⟨by rfl, ?hy9⟩) ?hr9
   case hy9 => (intro w hSw; (try dsimp only at hSw); go_simp; try with_reducible rfl)
   simp only [Act.put, Z1, Z2, Z3, Z4, Z5, Z6]
   refine tkY 10 (v := ?v10) rfl (.inl ⟨by rfl, ?hy10⟩) ?hr10
   case hy10 => (intro w hSw; (try dsimp only at hSw); go_simp; try with_reducible rfl)
   simp only [Act.put, Z1, Z2, Z3, Z4, Z5, Z6]
   refine tkY 11 (v := ?v11) rfl (.inl ⟨by rfl, ?hy11⟩) ?hr11
   case hy11 => (intro w hSw; (try dsimp only at hSw); go_simp; try with_reducible rfl)
   simp only [Act.put, Z1, Z2, Z3, Z4, Z5, Z6]
   refine wpAnyH_ready (rs := [6]) (by kernel_rfl) (by simp) ?_
   refine AllReadyH.cons rfl (fun K hK => ?_) AllReadyH.nil
   go_simp
   go_at_call 65
   refine (str_fc vd f1 v1 (Cod.str_ok.up q1 (hbw.trans (hbc.mono hbw.size))) s1).mono ?_
   rintro e z1 ⟨A1, c1, rfl, hF1, hbq⟩
   dsimp only
   replace hF1 := rf_lo hF1 hz
   replace hbc := hbc.trans (hbq.mono hbc.size)
   have hz_ := hz
   replace hz := hbc.size
   refine hK.out _ _ ?_ (fun hHeld => ?_)
   ·(try dsimp only)
    exact ⟨CT hbc hbW e1, CT hbc hbW e2⟩
   clear hK K
   try simp only [Act.put, Z1, Z2, Z3, Z4, Z5, Z6]
   refine wpAnyH_ready (rs := [12]) (by kernel_rfl) (by simp) ?_
   refine AllReadyH.cons rfl (fun K hK => ?_) AllReadyH.nil
   go_simp
   go_at_call 64
   refine (num_fc z1 f2 v2 (Cod.int_ok.up q2 (hbw.trans (hbc.mono hbw.size))) s2).mono ?_
   rintro e z2 ⟨A2, c2, rfl, hF2, hbq⟩
   dsimp only
   replace hF2 := rf_lo hF2 hz
   replace hF1 := rf_up hF1 hbq
   replace hbc := hbc.trans (hbq.mono hbc.size)
   have hz_ := hz
   replace hz := hbc.size
   refine hK.out _ _ ?_ (fun hHeld => ?_)
   ·(try dsimp only)
    exact ⟨CT hbc hbW e1, CT hbc hbW e2⟩
   clear hK K
   try simp only [Act.put, Z1, Z2, Z3, Z4, Z5, Z6]
   refine wpAnyH_ready (rs := [13]) (by kernel_rfl) (by simp) ?_
   refine AllReadyH.cons rfl (fun K hK => ?_) AllReadyH.nil
   go_simp
   generalize hx_ : World.alloc z2 _ = z3
   have hbq : Below z2.heap.size z2 z3 := by rw [← hx_]; exact (Below.refl _ _).alloc (Nat.le_refl _) _
   have hC : CellsAt z3 z2.heap.size (fC f1 A1 c1 ++ (fC f2 A2 c2 ++ ([]))) := by rw [← hx_]; exact CellsAt.new z2 _ _
   clear hx_
   replace hF1 := rf_up hF1 hbq
   replace hF2 := rf_up hF2 hbq
   replace hbc := hbc.trans (hbq.mono hbc.size)
   have hz_ := hz
   replace hz := hbc.size
   have hL := rl_cons hF1 (rl_cons hF2 (rl_nil))
   have hFR := seq_of hC hz_ hL (n := 2) rfl
   clear hC hL hF1 hF2
   refine hK.out _ _ ?_ (fun hHeld => ?_)
   ·(try dsimp only)
    exact ⟨CT hbc hbW e1, CT hbc hbW e2⟩
   clear hK K
   try simp only [Act.put, Z1, Z2, Z3, Z4, Z5, Z6]
   refine wpAnyH_ready (rs := [14]) (by kernel_rfl) (by simp) ?_
   refine AllReadyH.cons rfl (fun K hK => ?_) AllReadyH.nil
   go_simp
   go_at_call 39
   refine (seq_any _ _ _ _).mono ?_
   rintro e z4 ⟨rfl, hbq⟩
   dsimp only
   replace hFR := rf_up hFR hbq
   replace hbc := hbc.trans (hbq.mono hbc.size)
   have hz_ := hz
   replace hz := hbc.size
   refine hK.out _ _ ?_ (fun hHeld => ?_)
   ·(try dsimp only)
    exact ⟨CT hbc hbW e1, CT hbc hbW e2⟩
   clear hK K
   try simp only [Act.put, Z1, Z2, Z3, Z4, Z5, Z6]
   refine wpAnyH_ready (rs := [15]) (by kernel_rfl) (by simp) ?_
   refine AllReadyH.cons rfl (fun K hK => ?_) AllReadyH.nil
   go_simp
   generalize hx_ : World.alloc z4 _ = z5
   have hbq : Below z4.heap.size z4 z5 := by rw [← hx_]; exact (Below.refl _ _).alloc (Nat.le_refl _) _
   have hC : CellsAt z5 z4.heap.size ([.int .i64 2, .int .i64 0, .string ⟨#[]⟩, .slice (some ⟨z2.heap.size, 0, none⟩) 2 2]) := by rw [← hx_]; exact CellsAt.new z4 _ _
   clear hx_
   replace hFR := rf_up hFR hbq
   replace hbc := hbc.trans (hbq.mono hbc.size)
   have hz_ := hz
   replace hz := hbc.size
   have hX := box_rs hL hC hz_ hFR hbr.size
   replace hX := Lib.hid hX
   clear hC hFR
   refine hK.out _ _ ?_ (fun hHeld => ?_)
   ·(try dsimp only)
    exact ⟨CT hbc hbW e1, CT hbc hbW e2⟩
   clear hK K
   try simp only [Act.put, Z1, Z2, Z3, Z4, Z5, Z6]
   refine wpAnyH_ready (rs := [16]) (by kernel_rfl) (by simp) ?_
   refine AllReadyH.cons rfl (fun K hK => ?_) AllReadyH.nil
   refine step_appRS (rFB_ok _) (rFB_one _) (hL.below (rFB_ok _) hbc) hX.out fld_und fld_info (by rw [List.length_take]; omega) ?_
   intro v5 z9 hL5 hg5
   clear hX hg5
   refine hK.out _ _ ?_ (fun hHeld => ?_)
   ·(try dsimp only)
    exact ⟨(same_at hL.bel hL5.bel (p := ⟨b, _, none⟩) hb1).trans e1, (same_at hL.bel hL5.bel (p := ⟨b, _, none⟩) hb1).trans e2⟩
   clear hK K
   try simp only [Act.put, Z1, Z2, Z3, Z4, Z5, Z6]
   refine tkY 17 (v := ?v12) rfl (.inl ⟨by rfl, ?hy12⟩) ?hr12
   case hy12 => (intro w hSw; (try dsimp only at hSw); go_simp; try with_reducible rfl)
   simp only [Act.put, Z1, Z2, Z3, Z4, Z5, Z6]
   refine wpAnyH_done (by kernel_rfl) ?_ _
   clear hHeld
   obtain ⟨A5, c5, rfl⟩ := hL5.form
   generalize hnn : (m.take i ++ [fL [f1, f2]]).length = n5 at *
   replace hnn := Lib.hid hnn
   have i3 : IntKind.i64.wrap ((i : Int) + 1) = (i : Int) + 1 := IntWalk.i64_in _ (by omega)
   repeat' (first | go_skip | go_guarded | go_step)
   go_roundw
   case rel =>
    have e5 : m.take (i + 1) = m.take i ++ [fL [f1, f2]] := by rw [List.take_add_one, hx]; rfl
    refine ⟨i + 1, A5, n5, c5, by omega, by congr 1, rfl, by rw [e5]; exact hnn.out.symm, by rw [e5]; exact hL5⟩
   case measure => simp [intOf]; omega
  ·obtain rfl : i = m.length := by omega
   have hn2 := hn'.out
   rw [List.take_length] at hL hn2
   subst hn2
   clear hn'
   repeat' (first | go_skip | go_guarded | go_step)
   refine (seq_any A' m.length c' wr).mono ?_
   rintro e w2 ⟨rfl, hb2⟩
   dsimp only
   have hF := ownR_fl (hL.below (rFB_ok _) hb2) (Nat.le_refl _)
   have zw2 := hb2.size
   have hP3 : OwnB w w2 [(w.heap.size, [.int .i64 0, .int .i64 0, .string ⟨#[]⟩, .slice none 0 0])] := hP2.kept hb2
   clear c0_0 c0_1 c0_2 c0_3 cf0 hP2
   have c0_0 := hP3.c 0 0
   have c0_1 := hP3.c 0 1
   have c0_2 := hP3.c 0 2
   have c0_3 := hP3.c 0 3
   have cf0 := hP3.fr 0
   clear zw2
   repeat' ((fail_if_success at_builtin); first | go_skip | go_guarded | go_step)
   have hO9 := (((hP3.store 0 rfl 0 (.int .i64 2)).store 0 rfl 1 (.int .i64 0)).store 0 rfl 2 (.string ⟨#[]⟩)).store 0 rfl 3 (.slice A' m.length c')
   have h9 := far4g w2 w.heap.size (.int .i64 2) (.int .i64 0) (.string ⟨#[]⟩) (.slice A' m.length c')
   generalize World.setCell (World.setCell (World.setCell (World.setCell w2 _ _) _ _) _ _) _ _ = w9 at *
   have y0 := hO9.c 0 0
   have y1 := hO9.c 0 1
   have y2 := hO9.c 0 2
   have y3 := hO9.c 0 3
   replace hF := rf_far (w := w) hF hz0 (Nat.le_of_lt hz0) h9
   refine bodyPost_ret (v := .agg #[.int .i64 2, .int .i64 0, .string ⟨#[]⟩, .slice A' m.length c']) (by simp only [results, Tryz.results68]; go_simp; first | done | exact ⟨rfl, rfl, rfl⟩ | rfl) rfl ?_
   have e9 := ofL_length m
   exact ⟨A', c', by show _ = Ending.returned (.agg #[.int .i64 2, .int .i64 0, .string ⟨#[]⟩, .slice A' (ofL m).length c']); rw [e9], by show rF _ _ _ [.int .i64 2, .int .i64 0, .string ⟨#[]⟩, .slice A' (ofL m).length c']; rw [e9]; exact hF, hO9.below⟩
end Go.Proofs.YtgdapkglofchjaaGreatDoor
