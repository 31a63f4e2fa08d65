/- Joined: Val Val2 Write Rec Hk JnA. -/
import Derived.Deep.QuietTactic
import Derived.BigQuiet
import Derived.Deep.RegionHeld3
import Derived.Test.YtgdapkglofchjaaGreatDoorF2
set_option maxRecDepth 100000
set_option maxHeartbeats 400000
set_option linter.unusedVariables false
namespace Go.Proofs.YtgdapkglofchjaaGreatDoor
open Go.RowKit
abbrev fcells (k x : Int) (s : ByteArray) (A : Option Addr) (n c : Nat) : Array Value := #[.int .i64 k, .int .i64 x, .string s, .slice A n c]
theorem clean_any (k x : Int) (s : ByteArray) (A : Option Addr) (c : Nat) (sub : Flds) (w : World) :
  Calls Tryz.prog 133 #[.agg (fcells k x s A sub.length c)] w fun e w' => e = .returned (.bool (clean k x s sub)) ∧ Below w.heap.size w w' := by
 go_enter Tryz.func133, Tryz.ntmps133
 repeat' (first | go_skip | go_guarded | go_step)
 all_goals
  go_ret
  refine ⟨ret_b ?_, (Below.refl _ _).alloc (Nat.le_refl _) _⟩
 all_goals (unfold clean; simp_all)
def ValOK (F : FuncId) (k x : Int) (s : ByteArray) (sub : Flds) : Prop :=
 ∀ (A : Option Addr) (c : Nat) (csub : List Value) (w : World) (B d : Nat), B ≤ w.heap.size → Seq w B 4 A sub.length csub → RepF w B sub csub → sub.size ≤ 1000000000 → d ≤ 129 →
  Calls Tryz.prog F #[.agg (fcells k x s A sub.length c), .int .i64 (d : Int)] w fun e w' => e = .returned (.int .i64 (vone d k x s sub : Int)) ∧ Below w.heap.size w w'
theorem valid_body (k x : Int) (s : ByteArray) (sub : Flds) (ih : ∀ i k' x' s' sub', sub.get? i = some (k', x', s', sub') → ValOK 101 k' x' s' sub') : ValOK 101 k x s sub := by
 intro A c csub w B d hB hseq hrep hsz hd
 have hlen := Flds.length_le_size sub
 have Ih := Lib.hid ih; clear ih
 by_cases h1 : 128 < d
 ·go_enter Tryz.func101, Tryz.ntmps101
  repeat' (first | go_skip | go_guarded | go_step)
  go_ret
  exact ⟨ret_i (by unfold vone; rw [if_pos h1]; rfl), (Below.refl _ _).alloc (Nat.le_refl _) _⟩
 ·by_cases h2 : clean k x s sub = false
  ·go_enter Tryz.func101, Tryz.ntmps101
   repeat' (first | (go_at_call 133; refine (clean_any k x s A c sub _).mono ?_; rintro e w1 ⟨rfl, hb1⟩; obtain ⟨hc1, hf1⟩ := bcell hb1; dsimp only) | go_skip | go_guarded | go_step)
   go_ret
   exact ⟨ret_i (by unfold vone; rw [if_neg h1, if_pos h2]; rfl), ((Below.refl _ _).alloc (Nat.le_refl _) _).trans (hb1.mono (by simp))⟩
  ·have h2 : clean k x s sub = true := by simpa using h2
   go_enter Tryz.func101, Tryz.ntmps101
   repeat' (first | (go_at_call 133; refine (clean_any k x s A c sub _).mono ?_; rintro e w1 ⟨rfl, hb1⟩; obtain ⟨hc1, hf1⟩ := bcell hb1; dsimp only) | go_skip | go_guarded | go_step)
   have hb1 := ((Below.refl w.heap.size w).alloc (Nat.le_refl _) (.cells (fcells k x s A sub.length c) 98)).trans (hb1.mono (by simp))
   clear hc1 hf1
   go_loopw [18] (fun u18 wr => ∃ i : Nat, i ≤ sub.length ∧ u18 = .int .i64 (i : Int) ∧ Below w.heap.size w wr ∧ vld (d + 1) (sub.drop i) = vld (d + 1) sub) (fun u18 _ => sub.length - (intOf u18).toNat)
   case atStart => exact ⟨0, by omega, rfl, hb1, by rw [Flds.drop_zero]⟩
   case round =>
    obtain ⟨i, hi, rfl, hbr, hv⟩ := hrel
    clear hb1
    have Hv := Lib.hid hv; clear hv
    by_cases hlt : i < sub.length
    ·obtain ⟨⟨k', x', s', sub'⟩, hg⟩ := Flds.get?_lt sub i hlt
     obtain ⟨b, o, rfl, hbB, hcell⟩ := hseq.2 (by omega)
     obtain ⟨A', c', csub', g1, g2, g3, g4, hk', hx', hseq', hrep'⟩ := hrep.at_ hg
     have hcell' := fun j u hu => (hbr.cell (p := ⟨b, o + j, none⟩) (by simp; omega)).trans (hcell j u hu)
     have e1 := hcell' _ _ g1
     have e2 := hcell' _ _ g2
     rw [← Nat.add_assoc] at e2
     have e3 := hcell' _ _ g3
     rw [← Nat.add_assoc] at e3
     have e4 := hcell' _ _ g4
     rw [← Nat.add_assoc] at e4
     clear hcell hcell' g1 g2 g3 g4
     have hv13 := vone_le (d + 1) k' x' s' sub'
     have hsz' := Flds.get?_size sub i hg
     have hba := fun cs => hbr.alloc hbr.size (.cells cs 98)
     have hBa := fun cs => (hba cs).size
     have C := fun cs => Ih.out i k' x' s' sub' hg A' c' csub' _ B (d + 1) (Nat.le_trans hB (hBa cs)) (hseq'.below ((hba cs).mono hB)) (hrep'.below ((hba cs).mono hB)) (by omega) (by omega)
     have Hc := Lib.hid C; clear C hBa
     have hbn := fun cs (w1 : World) h => (hba cs).trans (Below.mono (B := (wr.alloc (.cells cs 98)).heap.size) (w' := w1) h (hba cs).size)
     have Hbn := Lib.hid hbn; clear hbn hba
     have Hv1 := Lib.hid (vld_at (d := d + 1) hg)
     have Hg := Lib.hid hg; clear hg
     have He : Hid (vone (d + 1) k' x' s' sub' = 0 ↔ ((vone (d + 1) k' x' s' sub' : Int) != 0) = false) := by unfold Hid; simp
     generalize vone (d + 1) k' x' s' sub' = E at *
     rcases Bool.eq_false_or_eq_true ((E : Int) != 0) with e0 | e0
     ·repeat' (first | (go_at_call 101; refine (Hc.out _).mono ?_; rintro e w1 ⟨rfl, hb1⟩; have hb1 := Hbn.out _ _ hb1; dsimp only) | go_skip | go_guarded | go_step)
      go_ret
      refine ⟨ret_i ?_, hb1⟩
      have hne : ¬ E = 0 := by rw [He.out, e0]; simp
      have := Hv.out
      rw [Hv1.out, if_neg hne] at this
      unfold vone
      rw [if_neg h1, if_neg (by simp [h2]), ← this]
     ·repeat' (first | (go_at_call 101; refine (Hc.out _).mono ?_; rintro e w1 ⟨rfl, hb1⟩; have hb1 := Hbn.out _ _ hb1; dsimp only) | go_skip | go_guarded | go_step)
      go_roundw
      case rel =>
       refine ⟨i + 1, by omega, by go_num, hb1, ?_⟩
       rw [← Hv.out, Hv1.out, if_pos (He.out.2 e0)]
      case measure => simp [intOf]; omega
    ·repeat' (first | go_skip | go_guarded | go_step)
     go_ret
     refine ⟨ret_i ?_, hbr⟩
     have := Hv.out
     rw [Flds.drop_end _ _ (by omega)] at this
     unfold vone
     rw [if_neg h1, if_neg (by simp [h2]), ← this]
     rfl
theorem valid_all : ∀ (f : Flds) (i : Nat) (k x : Int) (s : ByteArray) (sub : Flds), f.get? i = some (k, x, s, sub) → ValOK 101 k x s sub
 | .nil, i, _, _, _, _, h => by simp [Flds.get?] at h
 | .cons k x s sub r, 0, _, _, _, _, h => by
  simp only [Flds.get?, Option.some.injEq, Prod.mk.injEq] at h
  obtain ⟨rfl, rfl, rfl, rfl⟩ := h
  exact valid_body k x s sub (valid_all sub)
 | .cons _ _ _ _ r, i + 1, k, x, s, sub, h => valid_all r i k x s sub h
theorem valid_any (k x : Int) (s : ByteArray) (sub : Flds) : ValOK 101 k x s sub := valid_body k x s sub (valid_all sub)
theorem Valid_any (k x : Int) (s : ByteArray) (sub : Flds) (A : Option Addr) (c : Nat) (csub : List Value) (w : World) (B : Nat) (hB : B ≤ w.heap.size) (hseq : Seq w B 4 A sub.length csub) (hrep : RepF w B sub csub) (hsz : sub.size ≤ 1000000000) :
  Calls Tryz.prog 58 #[.agg (fcells k x s A sub.length c)] w fun e w' => e = .returned (.int .i64 (vone 1 k x s sub : Int)) ∧ Below w.heap.size w w' := by
 have hba := (Below.refl w.heap.size w).alloc (Nat.le_refl _) (.cells (fcells k x s A sub.length c) 98)
 have C := valid_any k x s sub A c csub _ B 1 (Nat.le_trans hB hba.size) (hseq.below (hba.mono hB)) (hrep.below (hba.mono hB)) hsz (by omega)
 have Hc := Lib.hid C; clear C
 go_enter Tryz.func58, Tryz.ntmps58
 repeat' (first | (go_at_call 101; refine Hc.out.mono ?_; rintro e w1 ⟨rfl, hb1⟩; dsimp only) | go_skip | go_guarded | go_step)
 go_ret
 exact ⟨rfl, hba.trans (hb1.mono hba.size)⟩
def WriteOK (f : Flds) : Prop :=
 ∀ (A : Option Addr) (c : Nat) (cs : List Value) (w : World) (B d : Nat), B ≤ w.heap.size → Seq w B 4 A f.length cs → RepF w B f cs → f.size ≤ 1000000000 → Fine d f →
  Calls Tryz.prog 59 #[.slice A f.length c] w (RetBytes w (Lib.uvarint f.length ++ encs f))
theorem write_body (f : Flds) (ih : ∀ i k x s sub, f.get? i = some (k, x, s, sub) → WriteOK sub) : WriteOK f := by
 intro A c cs w B d hB hseq hrep hsz hfine
 have Ih := Lib.hid ih; clear ih
 have hlen := Flds.length_le_size f
 have hel := encs_le hrep (by omega)
 have hul := Lib.uvarint_length64 (x := f.length) (by omega)
 have Hel := Lib.hid hel; clear hel
 have Hul := Lib.hid hul; clear hul
 have hn : IntKind.u64.wrap (f.length : Int) = (f.length : Int) := IntWalk.u64_in _ (by omega)
 go_enter Tryz.func59, Tryz.ntmps59
 repeat' (first | go_skip | go_guarded | go_step)
 refine (putUint_any f.length _ (U64.mk (by omega))).mono ?_
 rintro e w1 ⟨A1, c1, rfl, h⟩
 dsimp only
 repeat' (first | go_skip | go_guarded | go_step)
 go_loopw [3, 12] (fun u3 u12 wr => ∃ i : Nat, i ≤ f.length ∧ u12 = .int .i64 (i : Int) ∧ Bytes w wr u3 (Lib.uvarint f.length ++ encs (f.take i))) (fun _ u12 _ => f.length - (intOf u12).toNat)
 case atStart => exact ⟨0, by omega, rfl, by rw [take_zero]; simpa [encs] using h⟩
 case round =>
  obtain ⟨i, hi, rfl, hown⟩ := hrel
  clear h
  by_cases hlt : i < f.length
  ·obtain ⟨⟨k, x, s, sub⟩, hg⟩ := Flds.get?_lt f i hlt
   obtain ⟨b, o, rfl, hbB, hcell⟩ := hseq.2 (by omega)
   obtain ⟨A', c', csub', g1, g2, g3, g4, hk', hx', hseq', hrep'⟩ := hrep.at_ hg
   have hcell' := fun j u hu => (hown.2.cell (p := ⟨b, o + j, none⟩) (by simp; omega)).trans (hcell j u hu)
   have e1 := hcell' _ _ g1
   have e2 := hcell' _ _ g2
   rw [← Nat.add_assoc] at e2
   have e3 := hcell' _ _ g3
   rw [← Nat.add_assoc] at e3
   have e4 := hcell' _ _ g4
   rw [← Nat.add_assoc] at e4
   clear hcell hcell' g1 g2 g3 g4
   have hsz' := Flds.get?_size f i hg
   have hvf := vone_fine (hfine.one hg)
   have hkk := clean_kind hvf.2.1
   have Hvf := Lib.hid hvf; clear hvf
   have Hx' := Lib.hid hx'; clear hx' hk'
   have Hsub := Lib.hid (Ih.out i k x s sub hg)
   have Htake := Lib.hid (encs_take hg)
   have Hg := Lib.hid hg; clear hg
   have hb : ((Lib.uvarint f.length ++ encs (f.take i)).length + 1) * 1 ≤ 140737488355328 := by
    have h1 := Hul.out
    have h2 := Hel.out
    have h3 := encs_take_le f i
    rw [List.length_append]; omega
   have Hb := Lib.hid hb; clear hb
   have Hkk := Lib.hid hkk; clear hkk
   rcases Hkk.out with rfl | rfl | rfl
   ·repeat' ((fail_if_success at_builtin); first | go_skip | go_guarded | go_step)
    refine wp_app1 (hown.alloc _) Tryz.underlying47 u8_info Hb.out ?_
    intro v2 w2 hown2 hg2
    obtain ⟨hc2, hf2⟩ := hown.far hg2 (b := wr.heap.size) (Nat.le_refl _) (by simp; omega)
    have hown2 : Bytes w w2 v2 ((Lib.uvarint f.length ++ encs (f.take i)) ++ [0]) := Bytes.snoc hown2 rfl
    repeat' (first | go_skip | go_guarded | go_step)
    refine (putInt_any x _ Hx'.out.1 Hx'.out.2).mono ?_
    rintro e w3 ⟨A3, c3, rfl, h3⟩
    dsimp only
    repeat' ((fail_if_success at_builtin); first | go_skip | go_guarded | go_step)
    refine wp_appS (hown2.below h3.2) Tryz.underlying47 u8_info (h3.seq) (bv_one _) ?_ ?_
    ·have h1 := Hul.out
     have h2 := Hel.out
     have h4 := encs_take_le f (i + 1)
     rw [Htake.out] at h4
     unfold enc1 at h4
     simp only [List.length_append, List.length_cons, List.length_nil, ↓reduceIte] at h1 h2 h4 ⊢
     omega
    intro v4 w4 hown4 _
    repeat' (first | go_skip | go_guarded | go_step)
    go_roundw
    case rel =>
     refine ⟨i + 1, by omega, by go_num, ?_⟩
     rw [Htake.out]
     have := Bytes.app hown4 rfl
     unfold enc1
     simpa only [↓reduceIte, Int.reduceEq, List.append_assoc, List.cons_append, List.nil_append] using this
    case measure => simp [intOf]; omega
   ·repeat' ((fail_if_success at_builtin); first | go_skip | go_guarded | go_step)
    refine wp_app1 (hown.alloc _) Tryz.underlying47 u8_info Hb.out ?_
    intro v2 w2 hown2 hg2
    obtain ⟨hc2, hf2⟩ := hown.far hg2 (b := wr.heap.size) (Nat.le_refl _) (by simp; omega)
    have hown2 : Bytes w w2 v2 ((Lib.uvarint f.length ++ encs (f.take i)) ++ [1]) := Bytes.snoc hown2 rfl
    repeat' (first | go_skip | go_guarded | go_step)
    refine (putStr_any s _ (by omega)).mono ?_
    rintro e w3 ⟨A3, c3, rfl, h3⟩
    dsimp only
    repeat' ((fail_if_success at_builtin); first | go_skip | go_guarded | go_step)
    refine wp_appS (hown2.below h3.2) Tryz.underlying47 u8_info (h3.seq) (bv_one _) ?_ ?_
    ·have h1 := Hul.out
     have h2 := Hel.out
     have h4 := encs_take_le f (i + 1)
     rw [Htake.out] at h4
     unfold enc1 at h4
     simp only [List.length_append, List.length_cons, List.length_nil, ↓reduceIte, Int.reduceEq] at h1 h2 h4 ⊢
     omega
    intro v4 w4 hown4 _
    repeat' (first | go_skip | go_guarded | go_step)
    go_roundw
    case rel =>
     refine ⟨i + 1, by omega, by go_num, ?_⟩
     rw [Htake.out]
     have := Bytes.app hown4 rfl
     unfold enc1
     simpa only [↓reduceIte, Int.reduceEq, List.append_assoc, List.cons_append, List.nil_append] using this
    case measure => simp [intOf]; omega
   ·repeat' ((fail_if_success at_builtin); first | go_skip | go_guarded | go_step)
    refine wp_app1 (hown.alloc _) Tryz.underlying47 u8_info Hb.out ?_
    intro v2 w2 hown2 hg2
    obtain ⟨hc2, hf2⟩ := hown.far hg2 (b := wr.heap.size) (Nat.le_refl _) (by simp; omega)
    have hown2 : Bytes w w2 v2 ((Lib.uvarint f.length ++ encs (f.take i)) ++ [2]) := Bytes.snoc hown2 rfl
    repeat' (first | go_skip | go_guarded | go_step)
    refine (Hsub.out A' c' csub' _ B (d + 1) ?_ ?_ ?_ (by omega) Hvf.out.2.2).mono ?_
    ·exact Nat.le_trans hB hown2.2.size
    ·exact hseq'.below (hown2.2.mono hB)
    ·exact hrep'.below (hown2.2.mono hB)
    rintro e w3 ⟨A3, c3, rfl, h3⟩
    dsimp only
    repeat' ((fail_if_success at_builtin); first | go_skip | go_guarded | go_step)
    refine wp_appS (hown2.below h3.2) Tryz.underlying47 u8_info (h3.seq) (bv_one _) ?_ ?_
    ·have h1 := Hul.out
     have h2 := Hel.out
     have h4 := encs_take_le f (i + 1)
     rw [Htake.out] at h4
     unfold enc1 at h4
     simp only [List.length_append, List.length_cons, List.length_nil, ↓reduceIte, Int.reduceEq] at h1 h2 h4 ⊢
     omega
    intro v4 w4 hown4 _
    repeat' (first | go_skip | go_guarded | go_step)
    go_roundw
    case rel =>
     refine ⟨i + 1, by omega, by go_num, ?_⟩
     rw [Htake.out]
     have := Bytes.app hown4 rfl
     unfold enc1
     simpa only [↓reduceIte, Int.reduceEq, List.append_assoc, List.cons_append, List.nil_append] using this
    case measure => simp [intOf]; omega
  ·repeat' (first | go_skip | go_guarded | go_step)
   go_ret
   rw [take_all f i (by omega)] at hown
   exact hown.ret
theorem write_sub : ∀ (f : Flds) (i : Nat) (k x : Int) (s : ByteArray) (sub : Flds), f.get? i = some (k, x, s, sub) → WriteOK sub
 | .nil, i, _, _, _, _, h => by simp [Flds.get?] at h
 | .cons k x s sub r, 0, _, _, _, _, h => by
  simp only [Flds.get?, Option.some.injEq, Prod.mk.injEq] at h
  obtain ⟨rfl, rfl, rfl, rfl⟩ := h
  exact write_body sub (write_sub sub)
 | .cons _ _ _ _ r, i + 1, k, x, s, sub, h => write_sub r i k x s sub h
theorem write_any (f : Flds) : WriteOK f := write_body f (write_sub f)
theorem fld_info : Info Tryz.prog 98 (.agg #[.int .i64 0, .int .i64 0, .string ByteArray.empty, .slice none 0 0]) 4 56 := by unfold Info; kernel_rfl
def RetFlds (w : World) (n : Nat) (cs : List Value) (e : Ending) (w' : World) : Prop := ∃ A c, e = .returned (.slice A n c) ∧ Own w w' 98 4 (.slice A n c) n cs
theorem clone_any (A : Option Addr) (n c : Nat) (cs : List Value) (w : World) (B : Nat) (hnil : A = none → c = 0) (hs : Seq w B 4 A n cs) (h1 : ∀ u ∈ cs, u.oneCell' = true) (hn : n ≤ 1000000000) (hB : B ≤ w.heap.size) :
  Calls Tryz.prog 57 #[.slice A n c] w (RetFlds w n cs) := by
 rcases A with _ | ad
 ·obtain rfl := hnil rfl
  obtain rfl : n = 0 := by
   rcases Nat.eq_zero_or_pos n with h | h
   ·exact h
   ·obtain ⟨_, _, h, _⟩ := hs.2 h
    cases h
  obtain rfl : cs = [] := List.eq_nil_of_length_eq_zero (by simpa using hs.1)
  have hq := Lib.run_eql_slice_nil (P := Tryz.prog) w 79 98 none 0 0 0 0 Tryz.underlying79
  go_enter Tryz.func57, Tryz.ntmps57
  repeat' (first | go_skip | go_guarded | go_step)
  go_ret
  exact ⟨none, 0, rfl, Own.nil_ _ _ _⟩
 ·have hq := Lib.run_eql_slice_nil (P := Tryz.prog) w 79 98 (some ad) n c 0 0 Tryz.underlying79
  go_enter Tryz.func57, Tryz.ntmps57
  repeat' ((fail_if_success at_builtin); first | go_skip | go_guarded | go_step)
  have hba := (Below.refl w.heap.size w).alloc (Nat.le_refl _) (.cells #[] 98)
  refine wp_appS (Own.empty_lit w 98 4) Tryz.underlying79 fld_info (hs.below (hba.mono hB)) h1 (by omega) ?_
  intro v w1 hown _
  repeat' (first | go_skip | go_guarded | go_step)
  go_ret
  rw [Nat.zero_add, List.nil_append] at hown
  obtain ⟨A, c, rfl⟩ := hown.slice_form
  exact ⟨A, c, rfl, hown⟩
theorem record_any (f : Flds) (A : Option Addr) (c : Nat) (cs : List Value) (w : World) (B : Nat) (hnil : A = none → c = 0) (hB : B ≤ w.heap.size) (hseq : Seq w B 4 A f.length cs) (hrep : RepF w B f cs) (hsz : f.size ≤ 1000000000) :
  Calls Tryz.prog 27 #[.slice A f.length c] w (RetBytes w (Lib.uvarint f.length ++ encs (f.fix f.length))) := by
 have hlen := Flds.length_le_size f
 go_enter Tryz.func27, Tryz.ntmps27
 repeat' (first | go_skip | go_guarded | go_step)
 refine (clone_any A f.length c cs w B hnil hseq (repF_one hrep) (by omega) hB).mono ?_
 rintro e w1 ⟨A1, c1, rfl, h⟩
 dsimp only
 repeat' ((fail_if_success at_builtin); first | go_skip | go_guarded | go_step)
 have hrep1 := hrep.below (h.2.mono hB)
 go_loopw [9] (fun u9 wr => ∃ (i : Nat) (cs' : List Value), i ≤ f.length ∧ u9 = .int .i64 (i : Int) ∧ Own w wr 98 4 (.slice A1 f.length c1) f.length cs' ∧ RepF wr B (f.fix i) cs') (fun u9 _ => f.length - (intOf u9).toNat)
 case atStart => exact ⟨0, cs, by omega, rfl, h, by rw [fix_zero]; exact hrep1⟩
 case round =>
  obtain ⟨i, cs', hi, rfl, hown, hr⟩ := hrel
  clear h hrep1
  by_cases hlt : i < f.length
  ·obtain ⟨⟨k, x, s, sub⟩, hg⟩ := Flds.get?_lt f i hlt
   have hg' := hg
   rw [← fix_get f i i (Nat.le_refl _)] at hg'
   obtain ⟨b, rfl, hgW, hgw, hcell, hfro⟩ := hown.head (by omega)
   obtain ⟨A', c', csub', g1, g2, g3, g4, hk', hx', hseq', hrep'⟩ := hr.at_ hg'
   have e1 := hcell _ _ g1
   have e2 := hcell _ _ g2
   have e3 := hcell _ _ g3
   have e4 := hcell _ _ g4
   clear hcell
   have hsz' := Flds.get?_size f i hg
   have He : Hid (vone 1 k x s sub = 0 ↔ ((vone 1 k x s sub : Int) != 0) = false) := by unfold Hid; simp
   have C := Valid_any k x s sub A' c' csub' wr B (Nat.le_trans hB hown.2.size) hseq' hrep' (by omega)
   have Hc := Lib.hid C; clear C
   have Hg := Lib.hid hg; clear hg hg'
   rcases Bool.eq_false_or_eq_true ((vone 1 k x s sub : Int) != 0) with e0 | e0
   all_goals
    repeat' (first | (go_at_call 58; refine Hc.out.mono ?_; rintro e w1 ⟨rfl, hb1⟩; obtain ⟨hc1, hf1⟩ := bcell hb1; dsimp only) | go_skip | go_guarded | go_step)
   ·have hne : vone 1 k x s sub ≠ 0 := by
     have := He.out
     rw [e0] at this
     simpa using this
    have hBb : B ≤ b := Nat.le_trans hB hgW
    have hown1 := ((((hown.below hb1).store hgW (i * 4) (.int .i64 0)).store hgW (i * 4 + 1) (.int .i64 0)).store hgW (i * 4 + 2) (.string ByteArray.empty)).store hgW (i * 4 + 3) (.slice none 0 0)
    have hr1 := (repF_zero f i (hr.below (hb1.mono (Nat.le_trans hB hown.2.size))) Hg.out hne).below (((((Below.refl B w1).setCell (p := ⟨b, i * 4, none⟩) hBb (.int .i64 0)).setCell (p := ⟨b, i * 4 + 1, none⟩) hBb (.int .i64 0)).setCell (p := ⟨b, i * 4 + 2, none⟩) hBb (.string ByteArray.empty)).setCell (p := ⟨b, i * 4 + 3, none⟩) hBb (.slice none 0 0))
    go_roundw
    case rel => exact ⟨i + 1, _, by omega, by go_num, hown1, hr1⟩
    case measure => simp [intOf]; omega
   ·have he : vone 1 k x s sub = 0 := He.out.2 e0
    go_roundw
    case rel =>
     refine ⟨i + 1, _, by omega, by go_num, hown.below hb1, ?_⟩
     rw [fix_keep f i Hg.out he]
     exact hr.below (hb1.mono (Nat.le_trans hB hown.2.size))
    case measure => simp [intOf]; omega
  ·repeat' (first | go_skip | go_guarded | go_step)
   obtain rfl : i = f.length := by omega
   have hl := fix_length f f.length
   have hs := fix_size f f.length
   have W := write_any (f.fix f.length) A1 c1 cs' wr wr.heap.size 1 (Nat.le_refl _) (by rw [hl]; exact hown.seq) (hr.more (Nat.le_trans hB hown.2.size)) (by omega) (fix_fine f f.length (Nat.le_refl _))
   rw [hl] at W
   refine W.mono ?_
   rintro e w2 ⟨A2, c2, rfl, h2⟩
   dsimp only
   repeat' (first | go_skip | go_guarded | go_step)
   go_ret
   exact ⟨A2, c2, rfl, h2.up hown.2⟩
section
variable {P : Program} {ops : Array Oper} {Q : Exit → Act → World → Prop} {md : Region.Mode} {S : World → Prop}
theorem tkY (i : Nat) {oi : Oper} {v : Value} {fuel : Nat} {listed : Array Bool} {a : Act} {w : World} (hi : ops[i]? = some oi)
  (hy : YieldsIf P ops S oi v a)
  (h : wpAnyH P md ops Q S fuel (listed.setIfInBounds i true) (a.put oi.dst v) w) (hs : Region.noSelect ops = true := by kernel_rfl) (hf : Region.free md ops listed i = true := by kernel_rfl)
  (hr : (Region.ready md ops listed).contains i = true := by kernel_rfl) (hQ : ∀ c a w, Q (.panic c) (a.put oi.dst v) w → Q (.panic c) a w := by exact fun _ _ _ h => h) (hS : S w := by assumption) : wpAnyH P md ops Q S (fuel + 1) listed a w :=
 wpAnyH_take hi hs hf hr hQ hy hS h
theorem tkN (i : Nat) {oi : Oper} {fuel : Nat} {listed : Array Bool} {a : Act} {w : World} (hi : ops[i]? = some oi)
  (h : wpAnyH P md ops Q S fuel (listed.setIfInBounds i true) (a.put oi.dst undef) w) (hy : YieldsIf P ops S oi undef a := by exact Or.inr ⟨by rfl, rfl⟩) (hs : Region.noSelect ops = true := by kernel_rfl) (hf : Region.free md ops listed i = true := by kernel_rfl)
  (hr : (Region.ready md ops listed).contains i = true := by kernel_rfl) (hQ : ∀ c a w, Q (.panic c) (a.put oi.dst undef) w → Q (.panic c) a w := by exact fun _ _ _ h => h) (hS : S w := by assumption) : wpAnyH P md ops Q S (fuel + 1) listed a w :=
 wpAnyH_take hi hs hf hr hQ hy hS h
end
theorem Own.grown {w0 w w' : World} {e : TypeId} {sz n : Nat} {v : Value} {xs : List Value} {row : Option Nat} (H : Own w0 w e sz v n xs) (hg : w.grownBy w' row) (hne : ∀ g, v.ownBlock = some g → row ≠ some g) (hr : ∀ k, row = some k → w0.heap.size ≤ k) : Own w0 w' e sz v n xs := by
 refine ⟨H.1.kept hg ?_, H.2.grown hg H.2.size hr⟩
 cases hv : v.ownBlock with
 | none => cases row <;> simp
 | some g => exact .inr fun e => hne g hv e.symm
theorem setCell_grown (w : World) (g o : Nat) (u : Value) : w.grownBy (w.setCell ⟨g, o, none⟩ u) (some g) := Lib.grownBy_setB (World.grownBy.refl _ _) o u
theorem grown_trans {w w1 w2 : World} {row : Option Nat} (h1 : w.grownBy w1 row) (h2 : w1.grownBy w2 row) : w.grownBy w2 row :=
 ⟨h2.os.trans h1.os, h2.tape.trans h1.tape, h2.output.trans h1.output, Nat.le_trans h1.size h2.size, fun k hk hr => (h2.block k (Nat.lt_of_lt_of_le hk h1.size) hr).trans (h1.block k hk hr)⟩
theorem step_appS {P : Program} {ops : Array Oper} {o : Oper} {a : Act} {K : Act → World → Prop} {Q : Exit → Act → World → Prop} {E : Prop} {w W0 : World} {e : TypeId} {size n : Nat} {v : Value} {xs : List Value} (H : Own W0 w e size v n xs) {t : TypeId} {z : Value} {bytes : Nat} (ht : P.underlying t = some (.slice e)) (hi : Info P e z size bytes)
  {A : Option Addr} {m c B : Nat} {news : List Value} (hr : Seq w B size A m news) (h1 : ∀ u ∈ news, u.oneCell' = true)
  (hbytes : (n + m) * bytes ≤ 140737488355328)
  (h : ∀ v' w', Own W0 w' e size v' (n + m) (xs ++ news) → Grew w w' v v' → K (a.put o.dst v') w')
  {s x : Operand} (hgd : o.guard = none := by rfl) (ho : o.op = .call { callee := .builtin .append, args := #[s, x], argTypes := #[t, t] } := by rfl)
  (hs : a.eval s = v := by rfl) (hx : a.eval x = .slice A m c := by rfl) (hzs : z.cells.size = size := by rfl) (hsz : 0 < size := by decide) (hby : 0 < bytes := by decide) :
  if Region.wanted o (yielded ops a.tmps) = true then Oper.wp P o a w K Q else E := by
 rw [if_pos (by simp [Region.wanted, hgd])]
 obtain ⟨hown, hB⟩ := H
 have hn := Nat.le_trans (Nat.le_mul_of_pos_right (n + m) hby) hbytes
 obtain ⟨i, hi1, hi2, hi3, hi4⟩ := info_parts hi
 rcases A with _ | ad
 ·have hm : m = 0 := by
   rcases Nat.eq_zero_or_pos m with h0 | h0
   ·exact h0
   ·obtain ⟨_, _, h, _⟩ := hr.2 h0
    cases h
  have hnw : news = [] := List.eq_nil_of_length_eq_zero (by rw [hr.1, hm]; simp)
  subst hm hnw
  have hr' := run_append_of_nil (P := P) (t := t) (ty := o.type) ht hi1 hown c
  unfold Oper.wp execOp
  simp only [ho, resolve, invoke, builtin, Sem.run_bind, Sem.run_pure, Result.andThen_ok, List.map_toArray, List.map_cons, List.map_nil, hs, hx, hr']
  exact h v w ⟨by simpa using hown, hB⟩ ⟨World.grownBy.refl _ _, .inl rfl⟩
 ·obtain ⟨v', w', hr2, h2, h3, h4, h5⟩ := run_append_own_at (P := P) w W0.heap.size t o.type e i z size bytes ht hi1 hi2 hi3 hi4 hzs hsz v n xs hown ad m c news hr.1
   (by
    intro j u hu
    rcases Nat.eq_zero_or_pos m with h0 | h0
    ·have : news = [] := List.eq_nil_of_length_eq_zero (by rw [hr.1, h0]; simp)
     subst this
     simp at hu
    ·obtain ⟨b, o', hA, _, hc⟩ := hr.2 h0
     injection hA with hA
     subst hA
     rw [Addr.add_lit]
     exact hc j u hu) h1 (by unfold maxLen; omega) hbytes hB.size
  unfold Oper.wp execOp
  simp only [ho, resolve, invoke, builtin, Sem.run_bind, Sem.run_pure, Result.andThen_ok, List.map_toArray, List.map_cons, List.map_nil, hs, hx, hr2]
  exact h v' w' ⟨h2, hB.grown h3 hB.size (fun k hk => (hown.lt k hk).1)⟩ ⟨h3, h5⟩
abbrev fldT : TypeId := 98
theorem fld_und : Tryz.prog.underlying 79 = some (.slice fldT) := Tryz.underlying79
abbrev Bhd (w : World) (v : Value) (g b : Nat) : Prop := b < w.heap.size ∧ some b ≠ v.ownBlock ∧ b ≠ g
abbrev Bhw (W0 w : World) (v : Value) (g b : Nat) : Prop := W0.heap.size ≤ b ∧ Bhd w v g b
structure Mid (W0 w : World) (g : Nat) (gc : List Value) (v : Value) (n : Nat) (xs : List Value) (m : List FV) (ds : List Value) : Prop where
 own : Own W0 w fldT 4 v n xs
 cel : CellsAt w g gc
 ge : W0.heap.size ≤ g
 ne : v.ownBlock ≠ some g
 con : RList rF 4 w (Bhw W0 w v g) m ds
section
variable {W0 w w' : World} {g n : Nat} {gc : List Value} {v : Value} {xs : List Value} {m : List FV} {ds : List Value}
theorem Mid.below (h : Mid W0 w g gc v n xs m ds) (hb : Below w.heap.size w w') : Mid W0 w' g gc v n xs m ds :=
 ⟨h.own.below hb, h.cel.kept hb, h.ge, h.ne, RList.map (fun x c hc => rF_ok _ _ _ _ x c (fun p hp => hb.cell hp.2.1) (fun b hp => ⟨hp.1, Nat.lt_of_lt_of_le hp.2.1 hb.size, hp.2.2⟩) hc) h.con⟩
theorem Mid.drew (h : Mid W0 w g gc v n xs m ds) : Mid W0 w.drew g gc v n xs m ds := h.below (Below.refl _ _).drew
theorem Mid.bel (h : Mid W0 w g gc v n xs m ds) : Below W0.heap.size W0 w := h.own.2
theorem Mid.grew {n' : Nat} {xs' : List Value} {v' : Value} (h : Mid W0 w g gc v n xs m ds) (hO : Own W0 w' fldT 4 v' n' xs') (hg : Grew w w' v v') : Mid W0 w' g gc v' n' xs' m ds := by
 have hlt := h.cel.lt
 have hne : some g ≠ v.ownBlock := fun e => h.ne e.symm
 refine ⟨hO, ⟨Nat.lt_of_lt_of_le hlt hg.by_.size, fun j u hu => (hg.cell (p := ⟨g, j, none⟩) hlt hne).trans (h.cel.cell j u hu), fun j => (hg.frozen (p := ⟨g, j, none⟩) hlt hne).trans (h.cel.fr j)⟩, h.ge, fun e => hg.ne hlt hne e.symm, ?_⟩
 exact RList.map (fun x c hc => rF_ok _ _ _ _ x c (fun p hp => hg.cell hp.2.1 hp.2.2.1) (fun b hb => ⟨hb.1, Nat.lt_of_lt_of_le hb.2.1 hg.by_.size, hg.ne hb.2.1 hb.2.2.1, hb.2.2.2⟩) hc) h.con
theorem Mid.row {r c : Nat} (h : Mid W0 w g gc (.slice (some ⟨r, 0, none⟩) n c) n xs m ds) (hr : W0.heap.size ≤ r) (j : Nat) (u : Value) : Mid W0 (w.setCell ⟨r, j, none⟩ u) g gc (.slice (some ⟨r, 0, none⟩) n c) n (xs.set j u) m ds := by
 have hne : g ≠ r := fun e => h.ne (by rw [e]; rfl)
 refine ⟨h.own.store hr j u, h.cel.grow (setCell_grown w r j u) hne, h.ge, h.ne, ?_⟩
 exact RList.map (fun x c hc => rF_ok _ _ _ _ x c (fun p hp => World.cell?_setCell_far w ⟨r, j, none⟩ p u (fun e => hp.2.2.1 (by rw [← e]; rfl))) (fun b hb => ⟨hb.1, by simpa [World.setCell] using hb.2.1, hb.2.2⟩) hc) h.con
theorem Mid.set (h : Mid W0 w g gc v n xs m ds) (j : Nat) (u : Value) : Mid W0 (w.setCell ⟨g, j, none⟩ u) g (gc.set j u) v n xs m ds := by
 refine ⟨h.own.grown (setCell_grown w g j u) (fun b hb e => h.ne (by rw [hb, ← e])) (fun k hk => by injection hk with hk; rw [← hk]; exact h.ge), h.cel.set j u, h.ge, h.ne, ?_⟩
 exact RList.map (fun x c hc => rF_ok _ _ _ _ x c (fun p hp => World.cell?_setCell_far w ⟨g, j, none⟩ p u (fun e => hp.2.2.2 e.symm)) (fun b hb => ⟨hb.1, by simpa [World.setCell] using hb.2.1, hb.2.2⟩) hc) h.con
theorem Mid.add {f : FV} {fs : List Value} (h : Mid W0 w g gc v n xs m ds) (hf : rF w (Bhw W0 w v g) f fs) : Mid W0 w g gc v n xs (m ++ [f]) (ds ++ fs) := ⟨h.own, h.cel, h.ge, h.ne, h.con.append (RList.one hf (rF_len hf))⟩
theorem Mid.lo (h : Mid W0 w g gc v n xs m ds) {b : Nat} (hb : b < W0.heap.size) : Bhd w v g b := ⟨Nat.lt_of_lt_of_le hb h.bel.size, h.own.old hb, fun e => by have := h.ge; omega⟩
theorem Mid.hi (h : Mid W0 w g gc v n xs m ds) (hb : Below w.heap.size w w') {b : Nat} (h1 : w.heap.size ≤ b) (h2 : b < w'.heap.size) : Bhd w' v g b := ⟨h2, h.own.lt h1, fun e => by have := h.cel.lt; omega⟩
end
def CW (W0 w : World) (g : Nat) (l : List FV) : Prop := ∃ A c cs, Mid W0 w g [.slice A l.length c, .bool false, .bool false] (.slice A l.length c) l.length cs l cs
section
variable {W0 w w' : World} {g : Nat} {l : List FV}
theorem CW.bel (h : CW W0 w g l) : Below W0.heap.size W0 w := by
 obtain ⟨A, c, cs, h⟩ := h
 exact h.bel
theorem CW.below (h : CW W0 w g l) (hb : Below w.heap.size w w') : CW W0 w' g l := by
 obtain ⟨A, c, cs, h⟩ := h
 exact ⟨A, c, cs, h.below hb⟩
theorem CW.lt (h : CW W0 w g l) : g < w.heap.size := by
 obtain ⟨A, c, cs, h⟩ := h
 exact h.cel.lt
theorem CW.ge (h : CW W0 w g l) : W0.heap.size ≤ g := by
 obtain ⟨A, c, cs, h⟩ := h
 exact h.ge
theorem CW.c1 (h : CW W0 w g l) : w.cell? ⟨g, 1, none⟩ = some (.bool false) := by
 obtain ⟨A, c, cs, h⟩ := h
 exact h.cel.cell 1 _ rfl
end
theorem set4 (cs : List Value) (n : Nat) (hn : cs.length = n * 4) (z0 z1 z2 z3 a b c d : Value) : ((((cs ++ [z0, z1, z2, z3]).set (n * 4) a).set (n * 4 + 1) b).set (n * 4 + 2) c).set (n * 4 + 3) d = cs ++ [a, b, c, d] := by
 rw [← hn]
 simp
end Go.Proofs.YtgdapkglofchjaaGreatDoor
