/- Joined: Rd OpnS Put OctPure Num Str Val2 JnO JnZe RRec JnK JnU0 JnT. -/
import Derived.Test.YtgdapkglofchjaaGreatDoorF23
set_option maxRecDepth 100000
set_option maxHeartbeats 400000
set_option linter.unusedVariables false
namespace Go.Proofs.YtgdapkglofchjaaGreatDoor
open Go.ChangeShapes Go.WideShapes Go.ChangeAt Go.RowKit
section
variable {α : Type} {r : Rd α} {sz : Nat} {w w' : World} {S S' : Nat → Prop}
end
section
variable {H : Type} {enc : TypeId × Value → H} {P : Program} {W : World} {spare : Nat → Bool} {held : Bool}
theorem cells_of {ad : Addr} {n : Nat} {cs : List Value} (h : W.cells? 0 ad n = some cs) : cs.length = n ∧ ∀ j u, cs[j]? = some u → W.cell? (ad.add j) = some u := by
 obtain ⟨_, hl, hat⟩ := World.cells?_some h
 refine ⟨hl, fun j u hu => ?_⟩
 have hj : j < n := by have := (List.getElem?_eq_some_iff.1 hu).1; omega
 rw [hat j hj]; exact hu
theorem slice_val {t e : TypeId} {n : Nat} {v : Value} {y : DataW H × List MemPlace} (ht : P.underlying t = some (.slice e)) (h : DataW.trod enc P W 0 spare held n t [v] = some y) : ∃ A len cap, v = .slice A len cap := by
 rcases DataW.trod_slice ht h with ⟨g, _⟩ | ⟨a, l1, l2, _, _, _, _, g, _⟩
 ·simp only [List.cons.injEq, and_true] at g; exact ⟨_, _, _, g⟩
 ·simp only [List.cons.injEq, and_true] at g; exact ⟨_, _, _, g⟩
theorem int_val {t : TypeId} {k : IntKind} {n : Nat} {v : Value} {y : DataW H × List MemPlace} (ht : P.underlying t = some (.int k)) (h : DataW.trod enc P W 0 spare held n t [v] = some y) :
  ∃ x, v = .int k x ∧ y = (.lit (.int k x), []) ∧ (Lit.int k x).wf = true := by
 obtain ⟨x, e, h1, h2⟩ := DataW.trod_int ht h
 simp only [List.cons.injEq, and_true] at e
 exact ⟨x, e, h1, h2⟩
theorem str_val {t : TypeId} {n : Nat} {v : Value} {y : DataW H × List MemPlace} (ht : P.underlying t = some .string) (h : DataW.trod enc P W 0 spare held n t [v] = some y) :
  ∃ s : ByteArray, v = .string s ∧ y = (.lit (.string s.data.toList), []) ∧ s.size ≤ maxLen := by
 obtain ⟨x, e, h1, h2⟩ := DataW.trod_string ht h
 simp only [List.cons.injEq, and_true] at e
 exact ⟨x, e, h1, h2⟩
theorem addr_add_add (a : Addr) (i j : Nat) : (a.add i).add j = a.add (i + j) := by
 unfold Addr.add
 by_cases hi : i = 0 <;> by_cases hj : j = 0 <;> simp [hi, hj, Nat.add_assoc]
theorem open_list {α : Type} {r : Rd α} {sz : Nat} {bulk : α → Nat} {t e : TypeId} {fuel : Nat} {A : Option Addr} {len cap : Nat} {x : DataW H × List MemPlace} (ht : P.underlying t = some (.slice e)) (hC : P.cellsOf e = sz) (hsz : 0 < sz)
  (hel : ∀ n cs y, n + 1 = fuel → cs.length = sz → DataW.trod enc P W 0 spare held n e cs = some y → ∃ a, r W (fun b => b < W.heap.size) a cs ∧ bulk a ≤ Rows.uptoBulk y.1)
  (h : DataW.trod enc P W 0 spare held fuel t [.slice A len cap] = some x) :
  ∃ l : List α, RSlice r sz W (fun b => b < W.heap.size) A len cap l ∧ cap ≤ maxLen ∧ (l.map bulk).sum + 1 ≤ Rows.uptoBulk x.1 := by
 rcases DataW.trod_slice ht h with ⟨h0, h1⟩ | ⟨a, len', cap', elems, rest, n, hfu, hcs, hx, _, hl, hm, hlen, hel', _, _⟩
 ·simp at h0
  obtain ⟨rfl, rfl, rfl⟩ := h0
  subst h1
  exact ⟨[], ⟨rfl, Nat.le_refl _, fun _ => rfl, [], SeqP.nil_, rfl⟩, Nat.zero_le _, by simp [Rows.uptoBulk]⟩
 ·simp at hcs
  obtain ⟨rfl, rfl, rfl⟩ := hcs
  subst hx
  have key : ∀ k, k ≤ len → ∃ (l : List α) (cs : List Value), l.length = len - k ∧ RList r sz W (fun b => b < W.heap.size) l cs ∧ (∀ j u, cs[j]? = some u → W.cell? (a.add (k * sz + j)) = some u) ∧
    (l.map bulk).sum ≤ Rows.uptoBulkAll ((elems.drop k).map (·.1)) := by
   intro k hk
   obtain ⟨m, hm'⟩ : ∃ m, m = len - k := ⟨_, rfl⟩
   induction m generalizing k with
   | zero => exact ⟨[], [], by simp; omega, rfl, fun j u hu => by simp at hu, by simp⟩
   | succ m ih =>
    obtain ⟨l, cs, g1, g2, g3, g4⟩ := ih (k + 1) (by omega) (by omega)
    have he := hel' k (by omega)
    have hy : elems[k]? = some (elems[k]'(by omega)) := List.getElem?_eq_getElem (by omega)
    rw [hy, hC] at he
    obtain ⟨c1, hc1, ht1⟩ := Option.bind_eq_some_iff.1 he
    obtain ⟨hc1l, hc1c⟩ := cells_of hc1
    obtain ⟨x1, hr1, hb1⟩ := hel n c1 _ hfu.symm hc1l ht1
    refine ⟨x1 :: l, c1 ++ cs, by simp [g1]; omega, ⟨c1, cs, rfl, hc1l, hr1, g2⟩, fun j u hu => ?_, ?_⟩
    ·by_cases hj : j < sz
     ·rw [List.getElem?_append_left (by omega)] at hu
      rw [← addr_add_add]
      exact hc1c j u hu
     ·rw [List.getElem?_append_right (by omega), hc1l] at hu
      have := g3 _ u hu
      rw [Nat.add_mul] at this
      rw [← this]
      congr 2
      omega
    ·rw [List.drop_eq_getElem_cons (by omega)]
     simp only [List.map_cons, List.sum_cons, Rows.uptoBulkAll]
     omega
  obtain ⟨l, cs, g1, g2, g3, g4⟩ := key 0 (Nat.zero_le _)
  have hl' : l.length = len := by omega
  refine ⟨l, ⟨hl', hl, (fun h => by cases h), cs, ?_, g2⟩, hm, ?_⟩
  ·refine seq_of_cells (by rw [g2.length, hl']) hsz fun j u hu => ?_
   have := g3 j u hu
   rwa [Nat.zero_mul, Nat.zero_add] at this
  ·rw [List.drop_zero] at g4
   simp only [Rows.uptoBulk]
   omega
end
section
variable {H : Type} {enc : TypeId × Value → H} {P : Program} {W : World} {spare : Nat → Bool} {held : Bool}
theorem field_wide {fs : Array Field} {n : Nat} {cs : List Value} {xs : List (DataW H × List MemPlace)}
  (hf : ∀ (i : Nat) (f : Field), fs[i]? = some f → DataW.trod enc P W 0 spare held n f.type ((cs.drop f.offset).take (P.cellsOf f.type)) = xs[i]?)
  (j : Nat) {t : TypeId} {o k : Nat} {y : DataW H × List MemPlace} (hj : fs[j]?.map (fun f => (f.type, f.offset)) = some (t, o)) (hC : P.cellsOf t = k) (hy : xs[j]? = some y) :
  DataW.trod enc P W 0 spare held n t ((cs.drop o).take k) = some y := by
 obtain ⟨f, hf1, hf2⟩ := Option.map_eq_some_iff.1 hj
 simp only [Prod.mk.injEq] at hf2
 obtain ⟨rfl, rfl⟩ := hf2
 have := hf j f hf1
 rw [hC, hy] at this
 exact this
theorem bool_val {t : TypeId} {n : Nat} {v : Value} {y : DataW H × List MemPlace} (ht : P.underlying t = some .bool) (h : DataW.trod enc P W 0 spare held n t [v] = some y) :
  ∃ b, v = .bool b ∧ y = (.lit (.bool b), []) := by
 obtain ⟨x, e, h1⟩ := DataW.trod_bool ht h
 simp only [List.cons.injEq, and_true] at e
 exact ⟨x, e, h1⟩
end
section
variable {H : Type} {enc : TypeId × Value → H} {W : World} {spare : Nat → Bool} {held : Bool}
end
end Go.Proofs.YtgdapkglofchjaaGreatDoor
namespace Go.Proofs.YtgdapkglofchjaaGreatDoor
open Go.RowKit
theorem U64.wrap_div {m : Nat} (h : U64 m) : IntKind.u64.wrap ((m : Int) / 128) = (m : Int) / 128 := by
 have := h.lt
 exact IntWalk.u64_in _ (by omega)
theorem rPutUint_any (n : Nat) (w : World) (hn : U64 n) :
  Calls Tryz.prog 52 #[.int .u64 (n : Int)] w (RetBytes w (Lib.uvarint n)) := by
 go_enter Tryz.func52, Tryz.ntmps52
 repeat' (first | go_skip | go_guarded | go_step)
 go_loopw [0, 3] (fun u0 u3 wr => ∃ (m : Nat) (pre : List UInt8), U64 m ∧ pre.length + (Lib.uvarint m).length ≤ 10 ∧ u0 = .int .u64 (m : Int) ∧ Bytes w wr u3 pre ∧ pre ++ Lib.uvarint m = Lib.uvarint n) (fun u0 _ _ => (intOf u0).toNat)
 case atStart => exact ⟨n, [], hn, by simpa using Lib.uvarint_length64 (by unfold U64 at hn; exact hn), rfl, Own.nil_ _ _ _, rfl⟩
 case round =>
  obtain ⟨m, pre, hm, hlen, rfl, hown, hpre⟩ := hrel
  have hb : (pre.length + 1) * 1 ≤ 140737488355328 := by have := Lib.uvarint_pos m; omega
  have hw := hm.wrap_div
  have Hpre := Lib.hid hpre; clear hpre
  have Hlen := Lib.hid hlen; clear hlen
  repeat' (first | (at_builtin; go_loud (refine wp_app1 hown Tryz.underlying47 u8_info hb ?_); intro v1 w1 hown1 _) | go_skip | go_guarded | go_step)
  ·have hge : (127 : Int) < m := by assumption
   go_roundw
   case rel =>
    refine ⟨m / 128, pre ++ [(m % 128 + 128).toUInt8], hm.div _, ?_, by go_num, Bytes.snoc hown1 ?_, ?_⟩
    ·have := Hlen.out; rw [Lib.uvarint_big (by omega)] at this; simp at this ⊢; omega
    ·simp only [bv]
     rw [Lib.toUInt8_toNat (by omega)]
     go_num
    ·rw [← Hpre.out, Lib.uvarint_big (x := m) (by omega)]; simp
   case measure => simp [intOf]; omega
  ·have hlt : (m : Int) ≤ 127 := by assumption
   go_ret
   refine Bytes.ret ?_
   rw [← Hpre.out, Lib.uvarint_small (by omega)]
   refine Bytes.snoc hown1 ?_
   simp only [bv]
   rw [Lib.toUInt8_toNat (by omega)]
end Go.Proofs.YtgdapkglofchjaaGreatDoor
namespace Go.Proofs.YtgdapkglofchjaaGreatDoor
theorem zig_neg {x : Int} (h0 : -9223372036854775808 ≤ x) (h : x < 0) :
  IntKind.u64.wrap (IntKind.u64.wrap (2 * IntKind.u64.wrap (RowKit.wrap64 (-RowKit.wrap64 (x + 1)))) + 1) = ((Lib.zigzag x : Nat) : Int) := by
 rw [IntWalk.wrap64_in (x + 1) (by omega), IntWalk.wrap64_in _ (by omega), IntWalk.u64_in (-(x + 1)) (by omega), IntWalk.u64_in (2 * -(x + 1)) (by omega), IntWalk.u64_in _ (by omega)]
 unfold Lib.zigzag
 rw [if_neg (by omega)]
 omega
theorem zig_pos {x : Int} (h : 0 ≤ x) (h1 : x ≤ 9223372036854775807) : IntKind.u64.wrap (2 * IntKind.u64.wrap x) = ((Lib.zigzag x : Nat) : Int) := by
 rw [IntWalk.u64_in x (by omega), IntWalk.u64_in (2 * x) (by omega), Lib.zigzag_nonneg h]
 omega
end Go.Proofs.YtgdapkglofchjaaGreatDoor
namespace Go.Proofs.YtgdapkglofchjaaGreatDoor
open Go.RowKit
theorem rPutInt_any (x : Int) (w : World) (h0 : -9223372036854775808 ≤ x) (h1 : x ≤ 9223372036854775807) :
  Calls Tryz.prog 109 #[.int .i64 x] w (RetBytes w (Lib.uvarint (Lib.zigzag x))) := by
 have H0 := Lib.hid h0; clear h0
 have H1 := Lib.hid h1; clear h1
 go_enter Tryz.func109, Tryz.ntmps109
 repeat' (first | go_skip | go_guarded | go_step)
 ·have h : x < 0 := by assumption
  rw [zig_neg H0.out h]
  refine (rPutUint_any _ _ (U64.mk (Lib.zigzag_lt H0.out H1.out))).mono ?_
  rintro e w1 ⟨A, c, rfl, h⟩
  dsimp only
  repeat' (first | go_skip | go_guarded | go_step)
  go_ret
  exact ⟨A, c, rfl, h⟩
 ·have h : 0 ≤ x := by assumption
  rw [zig_pos h H1.out]
  refine (rPutUint_any _ _ (U64.mk (Lib.zigzag_lt H0.out H1.out))).mono ?_
  rintro e w1 ⟨A, c, rfl, h⟩
  dsimp only
  repeat' (first | go_skip | go_guarded | go_step)
  go_ret
  exact ⟨A, c, rfl, h⟩
theorem rPutStr_any (s : ByteArray) (w : World) (hm : s.size ≤ 1000000000000) :
  Calls Tryz.prog 110 #[.string s] w (RetBytes w (Lib.uvarint s.size ++ s.data.toList)) := by
 have hb := Lib.uvarint_length64 (x := s.size) (by omega)
 have Hb := Lib.hid hb; clear hb
 go_enter Tryz.func110, Tryz.ntmps110
 repeat' (first | go_skip | go_guarded | go_step)
 refine (rPutUint_any _ _ (U64.mk (by omega))).mono ?_
 rintro e w1 ⟨A, c, rfl, h⟩
 dsimp only
 repeat' (first | go_skip | go_guarded | go_step)
 go_loopw [3, 4] (fun u3 u4 wr => ∃ k : Nat, k ≤ s.size ∧ u4 = .int .i64 (k : Int) ∧ Bytes w wr u3 (Lib.uvarint s.size ++ s.data.toList.take k)) (fun _ u4 _ => s.size - (intOf u4).toNat)
 case atStart => exact ⟨0, by omega, rfl, by simpa using h⟩
 case round =>
  obtain ⟨k, hk, rfl, h⟩ := hrel
  have hb : ((Lib.uvarint s.size ++ s.data.toList.take k).length + 1) * 1 ≤ 140737488355328 := by
   have := Hb.out; simp [List.length_take]; omega
  by_cases hlt : k < s.size
  ·repeat' (first | (at_builtin; refine wp_app1 h Tryz.underlying47 u8_info hb ?_; intro v2 w2 h2 _) | go_skip | go_guarded | go_step)
   go_roundw
   case rel =>
    refine ⟨k + 1, by omega, by go_num, ?_⟩
    have hx : s.data.toList.take (k + 1) = s.data.toList.take k ++ [s[k]] := by
     rw [List.take_succ_eq_append_getElem (by simpa using hlt)]; rfl
    rw [hx, ← List.append_assoc]
    exact Bytes.snoc h2 rfl
   case measure => simp [intOf]; omega
  ·repeat' (first | go_skip | go_guarded | go_step)
   go_ret
   obtain rfl : k = s.size := by omega
   rw [List.take_of_length_le (by simp)] at h
   exact Bytes.ret h
theorem rvalid_body (k x : Int) (s : ByteArray) (sub : Flds) (ih : ∀ i k' x' s' sub', sub.get? i = some (k', x', s', sub') → ValOK 108 k' x' s' sub') : ValOK 108 k x s sub := by
  intro A c csub w B d hB hseq hrep hsz hd
  have hlen := Flds.length_le_size sub
  have Ih := Lib.hid ih; clear ih
  by_cases h1 : 128 < d
  · go_enter Tryz.func108, Tryz.ntmps108
    repeat' (first | go_skip | go_guarded | go_step)
    go_ret
    exact ⟨ret_i (by unfold vone; rw [if_pos h1]; rfl), (Below.refl _ _).alloc (Nat.le_refl _) _⟩
  · go_enter Tryz.func108, Tryz.ntmps108
    repeat' (first | go_skip | go_guarded | go_step)
    go_quiet (fail)
    repeat' (first | go_skip | go_guarded | go_step)
    all_goals first
      | (go_ret
         refine ⟨ret_i ?_, ((Below.refl _ _).alloc (Nat.le_refl _) _).trans ⟨rfl, rfl, rfl, Nat.le_refl _, fun _ _ => rfl⟩⟩
         have h2 : clean k x s sub = false := by unfold clean; simp_all; try omega
         unfold vone
         rw [if_neg h1, if_pos h2]
         rfl)
      | skip
    all_goals
      have h2 : clean k x s sub = true := by unfold clean; simp_all; try omega
      go_loopw [8] (fun u8 wr => ∃ i : Nat, i ≤ sub.length ∧ u8 = .int .i64 (i : Int) ∧ w.heap.size < wr.heap.size ∧ wr.cell? ⟨w.heap.size, 3, none⟩ = some (.slice A sub.length c) ∧ Below w.heap.size w wr ∧ vld (d + 1) (sub.drop i) = vld (d + 1) sub) (fun u8 _ => sub.length - (intOf u8).toNat)
      case atStart => exact ⟨0, by omega, rfl, by simp, by simp [go_sem], ((Below.refl _ _).alloc (Nat.le_refl _) _).trans ⟨rfl, rfl, rfl, Nat.le_refl _, fun _ _ => rfl⟩, by rw [Flds.drop_zero]⟩
      case round =>
        obtain ⟨i, hi, rfl, hz, hbox, hbr, hv⟩ := hrel
        have Hv := Lib.hid hv; clear hv
        by_cases hlt : i < sub.length
        · first | (exfalso; omega) | skip
          all_goals
            obtain ⟨⟨k', x', s', sub'⟩, hg⟩ := Flds.get?_lt sub i hlt
            obtain ⟨b, o, hA, hbB, hcell⟩ := hseq.2 (by omega)
            rw [hA] at hbox
            obtain ⟨A', c', csub', g1, g2, g3, g4, hk', hx', hseq', hrep'⟩ := hrep.at_ hg
            have hcell' := fun j u hu => (hbr.cell (p := ⟨b, o + j, none⟩) (by simp; omega)).trans (hcell j u hu)
            have e1 := hcell' _ _ g1
            have e2 := hcell' _ _ g2
            rw [← Nat.add_assoc] at e2
            have e3 := hcell' _ _ g3
            rw [← Nat.add_assoc] at e3
            have e4 := hcell' _ _ g4
            rw [← Nat.add_assoc] at e4
            clear hcell hcell' g1 g2 g3 g4
            have hv13 := vone_le (d + 1) k' x' s' sub'
            have hsz' := Flds.get?_size sub i hg
            have C := Ih.out i k' x' s' sub' hg A' c' csub' wr B (d + 1) (Nat.le_trans hB hbr.size) (hseq'.below (hbr.mono hB)) (hrep'.below (hbr.mono hB)) (by omega) (by omega)
            have Hc := Lib.hid C; clear C
            have Hv1 := Lib.hid (vld_at (d := d + 1) hg)
            have Hg := Lib.hid hg; clear hg
            have HA := Lib.hid hA; clear hA
            have He : Hid (vone (d + 1) k' x' s' sub' = 0 ↔ ((vone (d + 1) k' x' s' sub' : Int) != 0) = false) := by unfold Hid; simp
            generalize vone (d + 1) k' x' s' sub' = E at *
            rcases Bool.eq_false_or_eq_true ((E : Int) != 0) with e0 | e0
            · repeat' (first | (go_at_call 108; refine Hc.out.mono ?_; rintro e w1 ⟨rfl, hb1⟩; dsimp only) | go_skip | go_guarded | go_step)
              go_ret
              refine ⟨ret_i ?_, hbr.trans (hb1.mono hbr.size)⟩
              have hne : ¬ E = 0 := by rw [He.out, e0]; simp
              have := Hv.out
              rw [Hv1.out, if_neg hne] at this
              unfold vone
              rw [if_neg h1, if_neg (by simp [h2]), ← this]
            · repeat' (first | (go_at_call 108; refine Hc.out.mono ?_; rintro e w1 ⟨rfl, hb1⟩; dsimp only) | go_skip | go_guarded | go_step)
              go_roundw
              case rel =>
                refine ⟨i + 1, by omega, by go_num, Nat.lt_of_lt_of_le hz hb1.size, ?_, hbr.trans (hb1.mono hbr.size), ?_⟩
                · rw [hb1.cell (p := ⟨w.heap.size, 3, none⟩) hz, hbox, HA.out]
                · rw [← Hv.out, Hv1.out, if_pos (He.out.2 e0)]
              case measure => simp [intOf]; omega
        · repeat' (first | go_skip | go_guarded | go_step)
          go_ret
          refine ⟨ret_i ?_, hbr⟩
          have := Hv.out
          rw [Flds.drop_end _ _ (by omega)] at this
          unfold vone
          rw [if_neg h1, if_neg (by simp [h2]), ← this]
          rfl
theorem rvalid_all : ∀ (f : Flds) (i : Nat) (k x : Int) (s : ByteArray) (sub : Flds), f.get? i = some (k, x, s, sub) → ValOK 108 k x s sub
 | .nil, i, _, _, _, _, h => by simp [Flds.get?] at h
 | .cons k x s sub r, 0, _, _, _, _, h => by
  simp only [Flds.get?, Option.some.injEq, Prod.mk.injEq] at h
  obtain ⟨rfl, rfl, rfl, rfl⟩ := h
  exact rvalid_body k x s sub (rvalid_all sub)
 | .cons _ _ _ _ r, i + 1, k, x, s, sub, h => rvalid_all r i k x s sub h
theorem rvalid_any (k x : Int) (s : ByteArray) (sub : Flds) : ValOK 108 k x s sub := rvalid_body k x s sub (rvalid_all sub)
theorem rValid_any (k x : Int) (s : ByteArray) (sub : Flds) (A : Option Addr) (c : Nat) (csub : List Value) (w : World) (B : Nat) (hB : B ≤ w.heap.size) (hseq : Seq w B 4 A sub.length csub) (hrep : RepF w B sub csub) (hsz : sub.size ≤ 1000000000) :
  Calls Tryz.prog 62 #[.agg (fcells k x s A sub.length c)] w fun e w' => e = .returned (.int .i64 (vone 1 k x s sub : Int)) ∧ Below w.heap.size w w' := by
 have hba := (Below.refl w.heap.size w).alloc (Nat.le_refl _) (.cells (fcells k x s A sub.length c) 98)
 have C := rvalid_any k x s sub A c csub _ B 1 (Nat.le_trans hB hba.size) (hseq.below (hba.mono hB)) (hrep.below (hba.mono hB)) hsz (by omega)
 have Hc := Lib.hid C; clear C
 go_enter Tryz.func62, Tryz.ntmps62
 repeat' (first | (go_at_call 108; refine Hc.out.mono ?_; rintro e w1 ⟨rfl, hb1⟩; dsimp only) | go_skip | go_guarded | go_step)
 go_ret
 exact ⟨rfl, hba.trans (hb1.mono hba.size)⟩
end Go.Proofs.YtgdapkglofchjaaGreatDoor
namespace Go.Proofs.YtgdapkglofchjaaGreatDoor
open Go.ChangeShapes Go.WideShapes Go.ChangeAt Go.RowKit
theorem cells_ev : Tryz.prog.cellsOf 43 = 42 := by kernel_rfl
theorem RList.convO {α : Type} {r r' : Rd α} {sz : Nat} {w : World} {S : Nat → Prop} (hr : ∀ x cs, r w S x cs → r' w S x cs) : ∀ {l : List α} {cs : List Value}, RList r sz w S l cs → RList r' sz w S l cs
 | [], _, h => h
 | _ :: _, _, ⟨c1, c2, h1, h2, h3, h4⟩ => ⟨c1, c2, h1, h2, hr _ _ h3, RList.convO hr h4⟩
theorem val_up : ∀ {g : Nat} {w : World} {S : Nat → Prop} {f : FV} {cs : List Value}, (Cod.val g).rp w S f cs → (Cod.val (g + 1)).rp w S f cs
 | 0, _, _, _, _, h => h.elim
 | g + 1, w, S, f, cs, ⟨l, h1, f0, r0, a0, b0, e0, x0, h2, f1, r1, a1, b1, e1, x1, h3, f2, r2, a2, b2, e2, x2, h4, f3, r3, a3, b3, e3, x3, h5, f4, r4, a4, b4, e4, x4, ⟨lv, A, c, k1, k2, k3, k4, k5, ds, k6, k7⟩, h7⟩ =>
  ⟨l, h1, f0, r0, a0, b0, e0, x0, h2, f1, r1, a1, b1, e1, x1, h3, f2, r2, a2, b2, e2, x2, h4, f3, r3, a3, b3, e3, x3, h5, f4, r4, a4, b4, e4, x4, ⟨lv, A, c, k1, k2, by rw [Cod.val_sz] at *; exact ⟨k3, k4, k5, ds, k6, RList.convO (fun _ _ hx => val_up hx) k7⟩⟩, h7⟩
def hb (f : FV) : Nat := (fsz f + 2) / 2
theorem lsz_hb : ∀ l : List FV, lsz l ≤ 1 + 2 * (l.map hb).sum
 | [] => by rw [lsz_nil]; omega
 | f :: l => by
  have := lsz_hb l
  rw [lsz_cons, List.map_cons, List.sum_cons]
  unfold hb at this ⊢
  omega
section
variable {H : Type}
def Opn (enc : TypeId × Value → H) (W : World) (spare : Nat → Bool) (held : Bool) (n : Nat) (C : Cod) (t : TypeId) : Prop :=
 ∀ (cs : List Value) (y : DataW H × List MemPlace), cs.length = C.sz → DataW.trod enc Tryz.prog W 0 spare held n t cs = some y → ∃ f, C.rp W (fun b => b < W.heap.size) f cs ∧ fsz f + 1 ≤ 2 * Rows.uptoBulk y.1
variable {enc : TypeId × Value → H} {W : World} {spare : Nat → Bool} {held : Bool} {n : Nat} {t e : TypeId} {C : Cod}
theorem opn_int (ht : Tryz.prog.underlying t = some (.int .i64)) : Opn enc W spare held n .int t := by
 intro cs y hl h
 match cs, hl with
 | [v], _ =>
  obtain ⟨x, rfl, rfl, hw⟩ := int_val ht h
  refine ⟨fI x, ⟨x, by simpa [Lit.wf, IntKind.min, IntKind.max, IntKind.signed, IntKind.bits, IsInt] using hw, rfl, rfl⟩, ?_⟩
  simp only [Rows.uptoBulk]
  exact Nat.le_refl 2
theorem opn_dig (ht : Tryz.prog.underlying t = some (.int .u64)) : Opn enc W spare held n .dig t := by
 intro cs y hl h
 match cs, hl with
 | [v], _ =>
  obtain ⟨x, rfl, rfl, hw⟩ := int_val ht h
  have hx : 0 ≤ x ∧ x ≤ 18446744073709551615 := by simpa [Lit.wf, IntKind.min, IntKind.max, IntKind.signed, IntKind.bits] using hw
  obtain ⟨m, rfl⟩ := Int.eq_ofNat_of_zero_le hx.1
  refine ⟨fI (wrap64 (m : Int)), ⟨m, by omega, rfl, rfl⟩, ?_⟩
  simp only [Rows.uptoBulk]
  exact Nat.le_refl 2
theorem opn_flag (ht : Tryz.prog.underlying t = some .bool) : Opn enc W spare held n .flag t := by
 intro cs y hl h
 match cs, hl with
 | [v], _ =>
  obtain ⟨b, rfl, rfl⟩ := bool_val ht h
  refine ⟨fI (if b then 1 else 0), ⟨b, rfl, rfl⟩, ?_⟩
  simp only [Rows.uptoBulk]
  exact Nat.le_refl 2
theorem opn_str (ht : Tryz.prog.underlying t = some .string) : Opn enc W spare held n .str t := by
 intro cs y hl h
 match cs, hl with
 | [v], _ =>
  obtain ⟨s, rfl, rfl, _⟩ := str_val ht h
  refine ⟨fS s, ⟨s, rfl, rfl⟩, ?_⟩
  simp only [Rows.uptoBulk]
  have h1 : s.data.toList.length = s.size := by simp
  show s.size + 1 + 1 ≤ _
  omega
theorem opn_list (ht : Tryz.prog.underlying t = some (.slice e)) (hC : Tryz.prog.cellsOf e = C.sz) (hs : 0 < C.sz) (hel : ∀ m, m + 1 = n → Opn enc W spare held m C e) : Opn enc W spare held n (.list C) t := by
 intro cs y hl h
 match cs, hl with
 | [v], _ =>
  obtain ⟨A, len, cap, rfl⟩ := slice_val ht h
  obtain ⟨l, g1, _, g3⟩ := open_list (r := C.rp) (sz := C.sz) (bulk := hb) ht hC hs (fun m cs y hm hl hy => by
   obtain ⟨f, k1, k2⟩ := hel m hm cs y hl hy
   exact ⟨f, k1, by unfold hb; omega⟩) h
  obtain rfl : len = l.length := g1.1.symm
  refine ⟨fL l, ⟨l, A, cap, rfl, rfl, g1⟩, ?_⟩
  rw [fsz_fL]
  have := lsz_hb l
  omega
def Fit (enc : TypeId × Value → H) (W : World) (spare : Nat → Bool) (held : Bool) (n : Nat) (fs : Array Field) : Nat → Nat → List (Cod × TypeId) → Prop
 | _, _, [] => True
 | j, o, (C, t) :: r => fs[j]?.map (fun f => (f.type, f.offset)) = some (t, o) ∧ Tryz.prog.cellsOf t = C.sz ∧ Opn enc W spare held n C t ∧ Fit enc W spare held n fs (j + 1) (o + C.sz) r
theorem opn_rec {fs : Array Field} {n : Nat} {cs : List Value} {xs : List (DataW H × List MemPlace)} (hx : xs.length = fs.size)
  (hf : ∀ (i : Nat) (f : Field), fs[i]? = some f → DataW.trod enc Tryz.prog W 0 spare held n f.type ((cs.drop f.offset).take (Tryz.prog.cellsOf f.type)) = xs[i]?) :
  ∀ (Ts : List (Cod × TypeId)) (j o : Nat), Fit enc W spare held n fs j o Ts → cs.length = o + csz (Ts.map Prod.fst) → ∃ l, RecL (Ts.map Prod.fst) W (fun b => b < W.heap.size) l (cs.drop o) ∧ lsz l ≤ 1 + 2 * Rows.uptoBulkAll ((xs.drop j).map (·.1))
 | [], j, o, _, hl => ⟨[], ⟨rfl, by rw [List.drop_of_length_le]; simp [csz] at hl; omega⟩, by rw [lsz_nil]; omega⟩
 | (C, t) :: r, j, o, ⟨h1, h2, h3, h4⟩, hl => by
  have hcz : csz (((C, t) :: r).map Prod.fst) = C.sz + csz (r.map Prod.fst) := by simp [csz]
  rw [hcz] at hl
  obtain ⟨l, g1, g2⟩ := opn_rec hx hf r (j + 1) (o + C.sz) h4 (by omega)
  have hj : j < xs.length := by
   obtain ⟨f, hf1, _⟩ := Option.map_eq_some_iff.1 h1
   have := (Array.getElem?_eq_some_iff.1 hf1).1
   omega
  have hy : xs[j]? = some xs[j] := List.getElem?_eq_getElem hj
  have hw := field_wide hf j h1 h2 hy
  obtain ⟨f, k1, k2⟩ := h3 _ _ (by rw [List.length_take, List.length_drop]; omega) hw
  refine ⟨f :: l, ⟨f, l, (cs.drop o).take C.sz, cs.drop (o + C.sz), rfl, ?_, k1, g1⟩, ?_⟩
  ·rw [← List.drop_drop, List.take_append_drop]
  ·rw [lsz_cons, List.drop_eq_getElem_cons hj]
   simp only [List.map_cons, Rows.uptoBulkAll]
   omega
theorem opn_recd {fs : Array Field} (ht : Tryz.prog.underlying t = some (.struct fs)) (Ts : List (Cod × TypeId)) (hF : ∀ m, m + 1 = n → Fit enc W spare held m fs 0 0 Ts) : Opn enc W spare held n (.recd (Ts.map Prod.fst)) t := by
 intro cs y hl h
 obtain ⟨xs, m, rfl, rfl, _, hxl, hf⟩ := DataW.trod_struct ht h
 obtain ⟨l, g1, g2⟩ := opn_rec hxl hf Ts 0 0 (hF m rfl) (by rw [Nat.zero_add]; exact hl)
 refine ⟨fL l, ⟨l, rfl, g1⟩, ?_⟩
 rw [fsz_fL]
 rw [List.drop_zero] at g2
 simp only [Rows.uptoBulk]
 omega
set_option maxRecDepth 100000
theorem opn_val (n : Nat) : Opn enc W spare held n (.val n) 75 := by
 intro cs y hl h
 rw [Cod.val_sz] at hl
 obtain ⟨f, h1, h2⟩ := opn_recd (n := n) Tryz.underlying75 [(.int, 3), (.flag, 4), (.int, 3), (.str, 9), (.list (.val (n - 1)), 73), (.strs, 30)] (fun m hm => by
  have hV : Opn enc W spare held m (.list (.val (n - 1))) 73 := opn_list Tryz.underlying73 (by rw [Cod.val_sz]; kernel_rfl) (by rw [Cod.val_sz]; omega) (fun k hk => by
   intro cs y hl hy
   rw [Cod.val_sz] at hl
   obtain ⟨f, g1, g2⟩ := opn_val k cs y (by rw [Cod.val_sz]; exact hl) hy
   exact ⟨f, by rw [show n - 1 = k + 1 by omega]; exact val_up g1, g2⟩)
  exact ⟨rfl, by kernel_rfl, opn_int Tryz.underlying3, rfl, by kernel_rfl, opn_flag Tryz.underlying4, rfl, by kernel_rfl, opn_int Tryz.underlying3, rfl, by kernel_rfl, opn_str Tryz.underlying9, rfl, by kernel_rfl, hV, rfl, by kernel_rfl, opn_list Tryz.underlying30 (by kernel_rfl) (by decide) (fun _ _ => opn_str Tryz.underlying9), trivial⟩) cs y hl h
 have hn : 0 < n := by
  obtain ⟨xs, m, hm, _⟩ := DataW.trod_struct Tryz.underlying75 h
  omega
 refine ⟨f, ?_, h2⟩
 obtain ⟨m, rfl⟩ : ∃ m, n = m + 1 := ⟨n - 1, by omega⟩
 exact h1
termination_by n
decreasing_by omega
theorem opn_value : Opn enc W spare held n .value 75 := by
 intro cs y hl h
 obtain ⟨f, h1, h2⟩ := opn_val n cs y (by rw [Cod.val_sz]; exact hl) h
 exact ⟨f, ⟨n, h1⟩, h2⟩
theorem oI : Opn enc W spare held n .int 3 := opn_int Tryz.underlying3
theorem oS : Opn enc W spare held n .str 9 := opn_str Tryz.underlying9
theorem oB : Opn enc W spare held n .flag 4 := opn_flag Tryz.underlying4
theorem oD : Opn enc W spare held n .dig 39 := opn_dig Tryz.underlying39
theorem oSs : Opn enc W spare held n .strs 30 := opn_list Tryz.underlying30 (by kernel_rfl) (by decide) (fun _ _ => oS)
theorem oIs : Opn enc W spare held n .ints 31 := opn_list Tryz.underlying31 (by kernel_rfl) (by decide) (fun _ _ => oI)
theorem cI : Tryz.prog.cellsOf 3 = 1 := by kernel_rfl
theorem cS : Tryz.prog.cellsOf 9 = 1 := by kernel_rfl
theorem cB : Tryz.prog.cellsOf 4 = 1 := by kernel_rfl
theorem cD : Tryz.prog.cellsOf 39 = 1 := by kernel_rfl
theorem cSs : Tryz.prog.cellsOf 30 = 1 := by kernel_rfl
theorem cIs : Tryz.prog.cellsOf 31 = 1 := by kernel_rfl
theorem oOrigin : Opn enc W spare held n .origin 23 := opn_recd Tryz.underlying23 [(.str, 9), (.str, 9), (.flag, 4)] (fun _ _ => ⟨rfl, cS, oS, rfl, cS, oS, rfl, cB, oB, trivial⟩)
theorem oVar : Opn enc W spare held n .vari 77 := opn_recd Tryz.underlying77 [(.str, 9), (.value, 75)] (fun _ _ => ⟨rfl, cS, oS, rfl, by kernel_rfl, opn_value, trivial⟩)
theorem oVars : Opn enc W spare held n (.list .vari) 24 := opn_list Tryz.underlying24 (by kernel_rfl) (by decide) (fun _ _ => oVar)
theorem oTime : Opn enc W spare held n .timing 150 := opn_recd Tryz.underlying150 [(.str, 9), (.int, 3)] (fun _ _ => ⟨rfl, cS, oS, rfl, cI, oI, trivial⟩)
theorem oTimes : Opn enc W spare held n (.list .timing) 25 := opn_list Tryz.underlying25 (by kernel_rfl) (by decide) (fun _ _ => oTime)
theorem oOut : Opn enc W spare held n .output 214 := opn_recd Tryz.underlying214 [(.str, 9), (.dig, 39), (.int, 3)] (fun _ _ => ⟨rfl, cS, oS, rfl, cD, oD, rfl, cI, oI, trivial⟩)
theorem oOuts : Opn enc W spare held n (.list .output) 26 := opn_list Tryz.underlying26 (by kernel_rfl) (by decide) (fun _ _ => oOut)
theorem oTest : Opn enc W spare held n .test 200 := opn_recd Tryz.underlying200 [(.str, 9), (.int, 3), (.int, 3)] (fun _ _ => ⟨rfl, cS, oS, rfl, cI, oI, rfl, cI, oI, trivial⟩)
theorem oTests : Opn enc W spare held n (.list .test) 27 := opn_list Tryz.underlying27 (by kernel_rfl) (by decide) (fun _ _ => oTest)
theorem cOuts : Tryz.prog.cellsOf 26 = 1 := by kernel_rfl
theorem oResult : Opn enc W spare held n .result 29 := opn_recd Tryz.underlying29 [(.int, 3), (.int, 3), (.list .output, 26), (.list .output, 26), (.list .test, 27), (.str, 9)] (fun _ _ => ⟨rfl, cI, oI, rfl, cI, oI, rfl, cOuts, oOuts, rfl, cOuts, oOuts, rfl, by kernel_rfl, oTests, rfl, cS, oS, trivial⟩)
theorem oMachine : Opn enc W spare held n .machine 33 := opn_recd Tryz.underlying33 [(.str, 9), (.strs, 30), (.int, 3), (.int, 3), (.flag, 4), (.int, 3), (.int, 3), (.int, 3), (.ints, 31)] (fun _ _ => ⟨rfl, cS, oS, rfl, cSs, oSs, rfl, cI, oI, rfl, cI, oI, rfl, cB, oB, rfl, cI, oI, rfl, cI, oI, rfl, cI, oI, rfl, cIs, oIs, trivial⟩)
theorem oSecret : Opn enc W spare held n .secret 35 := opn_recd Tryz.underlying35 [(.str, 9), (.str, 9), (.int, 3), (.strs, 30), (.strs, 30)] (fun _ _ => ⟨rfl, cS, oS, rfl, cS, oS, rfl, cI, oI, rfl, cSs, oSs, rfl, cSs, oSs, trivial⟩)
theorem oScope : Opn enc W spare held n .scope 37 := opn_recd Tryz.underlying37 [(.str, 9), (.int, 3), (.str, 9)] (fun _ _ => ⟨rfl, cS, oS, rfl, cI, oI, rfl, cS, oS, trivial⟩)
theorem oEntry : Opn enc W spare held n .entry 41 := opn_recd Tryz.underlying41 [(.scope, 37), (.str, 9), (.dig, 39), (.int, 3), (.int, 3), (.int, 3)] (fun _ _ => ⟨rfl, by kernel_rfl, oScope, rfl, cS, oS, rfl, cD, oD, rfl, cI, oI, rfl, cI, oI, rfl, cI, oI, trivial⟩)
theorem oEvent : Opn enc W spare held n (.recd evC) 43 := opn_recd Tryz.underlying43 [(.int, 3), (.int, 3), (.str, 9), (.str, 9), (.int, 3), (.int, 3), (.int, 3), (.str, 9), (.str, 9), (.origin, 23), (.list .vari, 24), (.list .timing, 25), (.result, 29), (.machine, 33), (.secret, 35), (.entry, 41)]
 (fun _ _ => ⟨rfl, cI, oI, rfl, cI, oI, rfl, cS, oS, rfl, cS, oS, rfl, cI, oI, rfl, cI, oI, rfl, cI, oI, rfl, cS, oS, rfl, cS, oS, rfl, by kernel_rfl, oOrigin, rfl, by kernel_rfl, oVars, rfl, by kernel_rfl, oTimes, rfl, by kernel_rfl, oResult, rfl, by kernel_rfl, oMachine, rfl, by kernel_rfl, oSecret, rfl, by kernel_rfl, oEntry, trivial⟩)
theorem open_event {cs : List Value} {y : DataW H × List MemPlace} (hl : cs.length = 42) (h : DataW.trod enc Tryz.prog W 0 spare held n 43 cs = some y) : ∃ fs, RecL evC W (fun b => b < W.heap.size) fs cs ∧ lsz fs + 1 ≤ 2 * Rows.uptoBulk y.1 := by
 obtain ⟨f, ⟨l, rfl, h1⟩, h2⟩ := oEvent cs y hl h
 exact ⟨l, h1, by rw [fsz_fL] at h2; exact h2⟩
end
end Go.Proofs.YtgdapkglofchjaaGreatDoor
namespace Go.Proofs.YtgdapkglofchjaaGreatDoor
open Go.RowKit
def evD {H : Type} : DataW H := .agg [.lit (.int .i64 0), .lit (.int .i64 0), .lit (.string []), .lit (.string []), .lit (.int .i64 0), .lit (.int .i64 0), .lit (.int .i64 0), .lit (.string []), .lit (.string []),
 .agg [.lit (.string []), .lit (.string []), .lit (.bool false)], .nil, .nil, .agg [.lit (.int .i64 0), .lit (.int .i64 0), .nil, .nil, .nil, .lit (.string [])],
 .agg [.lit (.string []), .nil, .lit (.int .i64 0), .lit (.int .i64 0), .lit (.bool false), .lit (.int .i64 0), .lit (.int .i64 0), .lit (.int .i64 0), .nil],
 .agg [.lit (.string []), .lit (.string []), .lit (.int .i64 0), .nil, .nil], .agg [.agg [.lit (.string []), .lit (.int .i64 0), .lit (.string [])], .lit (.string []), .lit (.int .u64 0), .lit (.int .i64 0), .lit (.int .i64 0), .lit (.int .i64 0)]]
def FieldOK (k x : Int) (s : ByteArray) (sub : Flds) : Prop :=
 ∀ (A : Option Addr) (c : Nat) (csub : List Value) (w : World) (B d : Nat), B ≤ w.heap.size → Seq w B 4 A sub.length csub → RepF w B sub csub → s.size + sub.size ≤ 1000000000 → IsInt x → vone d k x s sub = 0 →
  Calls Tryz.prog 63 #[.agg (fcells k x s A sub.length c)] w (RetBytes w (enc1 k x s sub))
theorem field_body (k x : Int) (s : ByteArray) (sub : Flds) (ih : ∀ i k' x' s' sub', sub.get? i = some (k', x', s', sub') → FieldOK k' x' s' sub') : FieldOK k x s sub := by
 intro A c csub w B d hB hseq hrep hsz hx hfine
 have Ih := Lib.hid ih; clear ih
 have hlen := Flds.length_le_size sub
 have hel := encs_le hrep (by omega)
 have hul := Lib.uvarint_length64 (x := sub.length) (by omega)
 have Hel := Lib.hid hel; clear hel
 have Hul := Lib.hid hul; clear hul
 have hn : IntKind.u64.wrap (sub.length : Int) = (sub.length : Int) := IntWalk.u64_in _ (by omega)
 have hvf := vone_fine hfine
 have hkk := clean_kind hvf.2.1
 have Hvf := Lib.hid hvf; clear hvf hfine
 have Hx := Lib.hid hx; clear hx
 have Hkk := Lib.hid hkk; clear hkk
 have hba := (Below.refl w.heap.size w).alloc (Nat.le_refl _) (.cells (fcells k x s A sub.length c) 98)
 have Hba := Lib.hid hba; clear hba
 have hlit := fun b => Own.lit (cs := #[.int .u8 b]) (e := 5) (sz := 1) (n := 1) (Below.refl _ (w.alloc (.cells (fcells k x s A sub.length c) 98))) rfl (by omega)
 simp only [World.size_alloc] at hlit
 have Hlit := Lib.hid hlit; clear hlit
 rcases Hkk.out with rfl | rfl | rfl
 ·go_enter Tryz.func63, Tryz.ntmps63
  repeat' (first | go_skip | go_guarded | go_step)
  refine (rPutInt_any x _ Hx.out.1 Hx.out.2).mono ?_
  rintro e w3 ⟨A3, c3, rfl, h3⟩
  dsimp only
  repeat' ((fail_if_success at_builtin); first | go_skip | go_guarded | go_step)
  refine wp_appS ((Hlit.out 0).below h3.2) Tryz.underlying47 u8_info h3.seq (bv_one _) ?_ ?_
  ·have := Lib.uvarint_length64 (Lib.zigzag_lt Hx.out.1 Hx.out.2)
   omega
  intro v4 w4 hown4 _
  repeat' (first | go_skip | go_guarded | go_step)
  go_ret
  have := Bytes.app (l := [0]) (m := Lib.uvarint (Lib.zigzag x)) hown4 rfl
  exact Bytes.ret (Own.up Hba.out this)
 ·go_enter Tryz.func63, Tryz.ntmps63
  repeat' (first | go_skip | go_guarded | go_step)
  refine (rPutStr_any s _ (by omega)).mono ?_
  rintro e w3 ⟨A3, c3, rfl, h3⟩
  dsimp only
  repeat' ((fail_if_success at_builtin); first | go_skip | go_guarded | go_step)
  refine wp_appS ((Hlit.out 1).below h3.2) Tryz.underlying47 u8_info h3.seq (bv_one _) ?_ ?_
  ·have h4 : s.data.toList.length = s.size := by simp
   have := Lib.uvarint_length64 (x := s.size) (by omega)
   simp only [List.length_append, h4]
   omega
  intro v4 w4 hown4 _
  repeat' (first | go_skip | go_guarded | go_step)
  go_ret
  have := Bytes.app (l := [1]) (m := Lib.uvarint s.size ++ s.data.toList) hown4 rfl
  exact Bytes.ret (Own.up Hba.out this)
 ·go_enter Tryz.func63, Tryz.ntmps63
  repeat' (first | go_skip | go_guarded | go_step)
  refine (rPutUint_any sub.length _ (U64.mk (by omega))).mono ?_
  rintro e w3 ⟨A3, c3, rfl, h3⟩
  dsimp only
  repeat' ((fail_if_success at_builtin); first | go_skip | go_guarded | go_step)
  refine wp_appS ((Hlit.out 2).below h3.2) Tryz.underlying47 u8_info h3.seq (bv_one _) ?_ ?_
  ·have := Hul.out
   omega
  intro v4 w4 hown4 _
  have h4 := Bytes.app (l := [2]) (m := Lib.uvarint sub.length) hown4 rfl
  clear hown4
  have hc4 := fun o => h4.2.cell (p := ⟨w.heap.size, o, none⟩) (by simp)
  have hbox4 : w4.cell? ⟨w.heap.size, 3, none⟩ = some (.slice A sub.length c) := by rw [hc4]; simp [go_sem]
  clear hc4
  repeat' (first | go_skip | go_guarded | go_step)
  go_loopw [3, 4] (fun u3 u4 wr => ∃ i : Nat, i ≤ sub.length ∧ u4 = .int .i64 (i : Int) ∧ Bytes (w.alloc (.cells (fcells 2 x s A sub.length c) 98)) wr u3 (([2] ++ Lib.uvarint sub.length) ++ encs (sub.take i))) (fun _ u4 _ => sub.length - (intOf u4).toNat)
  case atStart => exact ⟨0, by omega, rfl, by rw [take_zero]; simpa [encs] using h4⟩
  case round =>
   obtain ⟨i, hi, rfl, hown⟩ := hrel
   clear h4 hbox4 h3
   have hcb := fun o => hown.2.cell (p := ⟨w.heap.size, o, none⟩) (by simp)
   have hbox : wr.cell? ⟨w.heap.size, 3, none⟩ = some (.slice A sub.length c) := by rw [hcb]; simp [go_sem]
   clear hcb
   by_cases hlt : i < sub.length
   ·obtain ⟨⟨k', x', s', sub'⟩, hg⟩ := Flds.get?_lt sub i hlt
    obtain ⟨b, o, hA, hbB, hcell⟩ := hseq.2 (by omega)
    rw [hA] at hbox
    obtain ⟨A', c', csub', g1, g2, g3, g4, hk', hx', hseq', hrep'⟩ := hrep.at_ hg
    have hbw := Hba.out.trans (hown.2.mono (by simp))
    have hcell' := fun j u hu => (hbw.cell (p := ⟨b, o + j, none⟩) (by simp; omega)).trans (hcell j u hu)
    have e1 := hcell' _ _ g1
    have e2 := hcell' _ _ g2
    rw [← Nat.add_assoc] at e2
    have e3 := hcell' _ _ g3
    rw [← Nat.add_assoc] at e3
    have e4 := hcell' _ _ g4
    rw [← Nat.add_assoc] at e4
    clear hcell hcell' g1 g2 g3 g4
    have hsz' := Flds.get?_size sub i hg
    have C := Ih.out i k' x' s' sub' hg A' c' csub' wr B (d + 1) (Nat.le_trans hB hbw.size) (hseq'.below (hbw.mono hB)) (hrep'.below (hbw.mono hB)) (by omega) hx' (Hvf.out.2.2.one hg)
    have Hc := Lib.hid C; clear C
    have Htake := Lib.hid (encs_take hg)
    have Hg := Lib.hid hg; clear hg
    have HA := Lib.hid hA; clear hA
    repeat' (first | go_skip | go_guarded | go_step)
    refine Hc.out.mono ?_
    rintro e w5 ⟨A5, c5, rfl, h5⟩
    dsimp only
    repeat' ((fail_if_success at_builtin); first | go_skip | go_guarded | go_step)
    refine wp_appS (hown.below h5.2) Tryz.underlying47 u8_info h5.seq (bv_one _) ?_ ?_
    ·have h1 := Hul.out
     have h2 := Hel.out
     have h4 := encs_take_le sub (i + 1)
     rw [Htake.out] at h4
     simp only [List.length_append, List.length_cons, List.length_nil] at h1 h2 h4 ⊢
     omega
    intro v6 w6 hown6 _
    repeat' (first | go_skip | go_guarded | go_step)
    go_roundw
    case rel =>
     refine ⟨i + 1, by omega, by go_num, ?_⟩
     rw [Htake.out, ← List.append_assoc]
     exact Bytes.app hown6 rfl
    case measure => simp [intOf]; omega
   ·repeat' (first | go_skip | go_guarded | go_step)
    go_ret
    rw [take_all sub i (by omega)] at hown
    exact Bytes.ret (Own.up Hba.out hown)
theorem field_sub : ∀ (f : Flds) (i : Nat) (k x : Int) (s : ByteArray) (sub : Flds), f.get? i = some (k, x, s, sub) → FieldOK k x s sub
 | .nil, i, _, _, _, _, h => by simp [Flds.get?] at h
 | .cons k x s sub r, 0, _, _, _, _, h => by
  simp only [Flds.get?, Option.some.injEq, Prod.mk.injEq] at h
  obtain ⟨rfl, rfl, rfl, rfl⟩ := h
  exact field_body k x s sub (field_sub sub)
 | .cons _ _ _ _ r, i + 1, k, x, s, sub, h => field_sub r i k x s sub h
theorem field_any (k x : Int) (s : ByteArray) (sub : Flds) : FieldOK k x s sub := field_body k x s sub (field_sub sub)
theorem fix_at : ∀ (f : Flds) (n i : Nat) {k x : Int} {s : ByteArray} {sub : Flds}, i < n → f.get? i = some (k, x, s, sub) →
  (f.fix n).get? i = if vone 1 k x s sub = 0 then some (k, x, s, sub) else some (0, 0, ByteArray.empty, .nil)
 | _, 0, i, _, _, _, _, h, _ => by omega
 | .nil, _ + 1, i, _, _, _, _, _, h => by simp [Flds.get?] at h
 | .cons k x s sub r, n + 1, 0, _, _, _, _, _, h => by
  simp only [Flds.get?, Option.some.injEq, Prod.mk.injEq] at h
  obtain ⟨rfl, rfl, rfl, rfl⟩ := h
  simp only [Flds.fix]
  split <;> rfl
 | .cons k x s sub r, n + 1, i + 1, _, _, _, _, hi, h => by
  have := fix_at r n i (by omega) h
  simp only [Flds.fix]
  split <;> simpa only [Flds.get?] using this
theorem enc_fix {f : Flds} {n i : Nat} {k x : Int} {s : ByteArray} {sub : Flds} (hi : i < n) (h : f.get? i = some (k, x, s, sub)) :
  encs ((f.fix n).take (i + 1)) = encs ((f.fix n).take i) ++ (if vone 1 k x s sub = 0 then enc1 k x s sub else [0, 0]) := by
 have := fix_at f n i hi h
 by_cases hv : vone 1 k x s sub = 0
 ·rw [if_pos hv] at this ⊢
  exact encs_take this
 ·rw [if_neg hv] at this ⊢
  rw [encs_take this]
  congr 1
  have h0 : Lib.uvarint (Lib.zigzag 0) = [0] := by
   rw [show Lib.zigzag 0 = 0 from rfl, Lib.uvarint_small (by omega)]; rfl
  unfold enc1
  rw [if_pos rfl, h0]
theorem encs_fix_le {w : World} {B : Nat} : ∀ {f : Flds} {cs : List Value} (n : Nat), RepF w B f cs → f.size < 18446744073709551616 → (encs (f.fix n)).length ≤ 11 * f.size
 | f, _, 0, h, hs => by rw [fix_zero]; exact encs_le h hs
 | .nil, _, _ + 1, _, _ => by simp [Flds.fix, encs]
 | .cons k x s sub r, cs, n + 1, h, hsz => by
  obtain ⟨A, c, cs', csub, rfl, hk, hx, hs, hsub, hr⟩ := h
  simp only [Flds.size] at hsz ⊢
  have hl := Flds.length_le_size sub
  have h1 := encs_le hsub (by omega)
  have h2 := encs_fix_le n hr (by omega)
  have h3 := enc1_le (k := k) (s := s) (sub := sub) hx (by omega) (by omega)
  simp only [Flds.fix]
  split
  ·rw [encs_cons, List.length_append]
   omega
  ·rw [encs_cons, List.length_append]
   have := enc1_le (k := 0) (x := 0) (s := ByteArray.empty) (sub := .nil) ⟨by omega, by omega⟩ (by decide) (by decide)
   have h0 : ByteArray.empty.size = 0 := rfl
   have h0' : (encs .nil).length = 0 := rfl
   rw [h0, h0'] at this
   have := Flds.length_le_size sub
   omega
theorem rRecord_any (f : Flds) (A : Option Addr) (c : Nat) (cs : List Value) (w : World) (B : Nat) (hB : B ≤ w.heap.size) (hseq : Seq w B 4 A f.length cs) (hrep : RepF w B f cs) (hsz : f.size ≤ 1000000000) :
  Calls Tryz.prog 31 #[.slice A f.length c] w (RetBytes w (Lib.uvarint f.length ++ encs (f.fix f.length))) := by
 have hlen := Flds.length_le_size f
 have hel := encs_fix_le f.length hrep (by omega)
 have hul := Lib.uvarint_length64 (x := f.length) (by omega)
 have Hel := Lib.hid hel; clear hel
 have Hul := Lib.hid hul; clear hul
 have hn : IntKind.u64.wrap (f.length : Int) = (f.length : Int) := IntWalk.u64_in _ (by omega)
 obtain ⟨F, hF⟩ : ∃ F, F = f.fix f.length := ⟨_, rfl⟩
 have HF := Lib.hid hF; clear hF
 rw [← HF.out] at Hel ⊢
 go_enter Tryz.func31, Tryz.ntmps31
 repeat' (first | go_skip | go_guarded | go_step)
 refine (rPutUint_any f.length _ (U64.mk (by omega))).mono ?_
 rintro e w1 ⟨A1, c1, rfl, h⟩
 dsimp only
 repeat' (first | go_skip | go_guarded | go_step)
 go_loopw [3, 4] (fun u3 u4 wr => ∃ i : Nat, i ≤ f.length ∧ u4 = .int .i64 (i : Int) ∧ Bytes w wr u3 (Lib.uvarint f.length ++ encs (F.take i))) (fun _ u4 _ => f.length - (intOf u4).toNat)
 case atStart => exact ⟨0, by omega, rfl, by rw [take_zero]; simpa [encs] using h⟩
 case round =>
  obtain ⟨i, hi, rfl, hown⟩ := hrel
  clear h
  by_cases hlt : i < f.length
  ·obtain ⟨⟨k, x, s, sub⟩, hg⟩ := Flds.get?_lt f i hlt
   obtain ⟨b, o, rfl, hbB, hcell⟩ := hseq.2 (by omega)
   obtain ⟨A', c', csub', g1, g2, g3, g4, hk', hx', hseq', hrep'⟩ := hrep.at_ hg
   have hcell' := fun j u hu => (hown.2.cell (p := ⟨b, o + j, none⟩) (by simp; omega)).trans (hcell j u hu)
   have e1 := hcell' _ _ g1
   have e2 := hcell' _ _ g2
   rw [← Nat.add_assoc] at e2
   have e3 := hcell' _ _ g3
   rw [← Nat.add_assoc] at e3
   have e4 := hcell' _ _ g4
   rw [← Nat.add_assoc] at e4
   clear hcell hcell' g1 g2 g3 g4
   have hsz' := Flds.get?_size f i hg
   have hbw : b < wr.heap.size := by have := hown.2.size; omega
   have He : Hid (vone 1 k x s sub = 0 ↔ ((vone 1 k x s sub : Int) != 0) = false) := by unfold Hid; simp
   have C := rValid_any k x s sub A' c' csub' wr B (Nat.le_trans hB hown.2.size) (hseq'.below (hown.2.mono hB)) (hrep'.below (hown.2.mono hB)) (by omega)
   have Hc := Lib.hid C; clear C
   have C2 := fun (w2 : World) (h : Below wr.heap.size wr w2) hv => field_any k x s sub A' c' csub' w2 B 1 (Nat.le_trans (Nat.le_trans hB hown.2.size) h.size) (hseq'.below ((hown.2.trans (h.mono hown.2.size)).mono hB)) (hrep'.below ((hown.2.trans (h.mono hown.2.size)).mono hB)) (by omega) hx' hv
   have Hc2 := Lib.hid C2; clear C2
   have htake := enc_fix (n := f.length) hlt hg
   rw [← HF.out] at htake
   have Htake := Lib.hid htake; clear htake
   have Hx' := Lib.hid hx'; clear hx' hk'
   have Hg := Lib.hid hg; clear hg
   have hb : ∀ m, m ≤ 10 → ((Lib.uvarint f.length ++ encs (F.take i)).length + m) * 1 ≤ 140737488355328 := by
    intro m hm
    have h1 := Hul.out
    have h2 := Hel.out
    have h3 := encs_take_le F i
    rw [List.length_append]; omega
   have Hb := Lib.hid hb; clear hb
   repeat' (first | go_skip | go_guarded | go_step)
   refine Hc.out.mono ?_
   rintro e w2 ⟨rfl, hb2⟩
   obtain ⟨hc2, hf2⟩ := bcell hb2
   dsimp only
   rcases Bool.eq_false_or_eq_true ((vone 1 k x s sub : Int) != 0) with e0 | e0
   ·repeat' ((fail_if_success at_builtin); first | go_skip | go_guarded | go_step)
    refine wp_appL (m := 2) (hown.below hb2) Tryz.underlying47 u8_info (Hb.out 2 (by omega)) ?_
    intro v3 w3 hown3 _
    repeat' (first | go_skip | go_guarded | go_step)
    go_roundw
    case rel =>
     refine ⟨i + 1, by omega, by go_num, ?_⟩
     have hne : vone 1 k x s sub ≠ 0 := by
      have := He.out
      rw [e0] at this
      simpa using this
     rw [Htake.out, if_neg hne, ← List.append_assoc]
     exact Bytes.app (m := [0, 0]) hown3 rfl
    case measure => simp [intOf]; omega
   ·have he : vone 1 k x s sub = 0 := He.out.2 e0
    have Hhe := Lib.hid he; clear he
    repeat' (first | go_skip | go_guarded | go_step)
    refine (Hc2.out w2 hb2 Hhe.out).mono ?_
    rintro e w4 ⟨A4, c4, rfl, h4⟩
    dsimp only
    repeat' ((fail_if_success at_builtin); first | go_skip | go_guarded | go_step)
    refine wp_appS ((hown.below hb2).below h4.2) Tryz.underlying47 u8_info h4.seq (bv_one _) ?_ ?_
    ·have h1 := Hul.out
     have h2 := Hel.out
     have h4 := encs_take_le F (i + 1)
     rw [Htake.out, if_pos Hhe.out] at h4
     simp only [List.length_append] at h1 h2 h4 ⊢
     omega
    intro v5 w5 hown5 _
    repeat' (first | go_skip | go_guarded | go_step)
    go_roundw
    case rel =>
     refine ⟨i + 1, by omega, by go_num, ?_⟩
     rw [Htake.out, if_pos Hhe.out, ← List.append_assoc]
     exact Bytes.app hown5 rfl
    case measure => simp [intOf]; omega
  ·repeat' (first | go_skip | go_guarded | go_step)
   go_ret
   have hl := fix_length f f.length
   rw [← HF.out] at hl
   rw [take_all F i (by omega)] at hown
   exact hown.ret
theorem renc_any (fs : List FV) (E : List Value) (w : World) (h : EvR w fs E) (hs9 : lsz fs ≤ 900000000) : Calls Tryz.prog 15 #[.agg E.toArray] w (RetBytes w (encF fs)) := by
 have hl := h.len
 have hl16 := Lib.hid (show fs.length = 16 from (h.rd.len evC_ok).2)
 have hi := ev_info hl
 go_enter Tryz.func15, Tryz.ntmps15
 go_upto_region 1 with (fail)
 have hA : (w.alloc (.cells E.toArray 43)).rangeAt w.heap.size 0 E := at_new w E 43
 have hlt0 : w.heap.size < (w.alloc (.cells E.toArray 43)).heap.size := by simp
 have hb0 := (Below.refl w.heap.size w).alloc (Nat.le_refl _) (.cells E.toArray 43)
 generalize World.alloc w _ = w1 at *
 repeat' (first | (refine wpList_load_mid rfl 43 _ rfl w.heap.size 0 rfl E _ hA Tryz.underlying43 rfl hi ?_) | go_skip | go_guarded | go_step)
 refine (rvalid_ev fs E w1 (h.up hb0) hs9).mono ?_
 rintro e w2 ⟨rfl, hb2⟩
 dsimp only
 have hA2 := range_up hA hb2 hlt0
 have hbw : Below w.heap.size w w2 := hb0.trans (hb2.mono hb0.size)
 clear hb2 hA
 by_cases hv : validF fs = 0
 ·have he : encF fs = recF fs := by unfold encF; rw [if_pos hv]
  rw [hv]
  clear hv
  have hE2 := h.up hbw
  repeat' (first | (refine wpList_load_mid rfl 43 _ rfl w.heap.size 0 rfl E _ hA2 Tryz.underlying43 rfl hi ?_) | go_skip | go_guarded | go_step)
  refine (forms_any fs E w2 hE2.rd hE2.sz).mono ?_
  rintro e w3 ⟨A1, c1, cs1, rfl, hO1, hL1⟩
  dsimp only
  obtain ⟨g1, g2⟩ := RetFs.fields hO1 hL1
  have hnil : A1 = none → c1 = 0 := fun h => by
   obtain ⟨r, h1, _⟩ := hO1.head (by have := hl16.out; omega)
   rw [h] at h1; cases h1
  have hb3 := hO1.2
  clear hO1 hL1
  repeat' ((fail_if_success at_builtin); first | go_skip | go_guarded | go_step)
  have CJ := rRecord_any (ofL fs) A1 c1 cs1 w3 w3.heap.size (Nat.le_refl _) g1 g2 h.sz
  rw [ofL_length] at CJ
  refine CJ.mono ?_
  clear CJ g1 g2
  rintro e w4 ⟨A4, c4, rfl, hB4⟩
  dsimp only
  generalize hlen : (Lib.uvarint fs.length ++ encs ((ofL fs).fix fs.length)).length = n4 at *
  repeat' (first | go_skip | go_guarded | go_step)
  go_ret
  have hr : recF fs = Lib.uvarint fs.length ++ encs ((ofL fs).fix fs.length) := by unfold recF; rw [ofL_length]
  rw [he, hr]
  rw [← hlen] at hB4 ⊢
  exact ⟨A4, c4, rfl, hB4.up (hbw.trans (hb3.mono hbw.size))⟩
 ·have he : encF fs = [] := by unfold encF; rw [if_neg hv]
  have z1 : (validF fs == 0) = false := by simpa using hv
  have z2 : (validF fs != 0) = true := by simpa using hv
  clear hv
  repeat' (first | go_skip | go_guarded | go_step)
  go_ret
  rw [he]
  exact ⟨none, 0, rfl, bytes_nil w w2 hbw⟩
theorem two_allocs (w : World) (E E' : List Value) (t : TypeId) : ((w.alloc (.cells E.toArray t)).alloc (.cells E'.toArray t)).rangeAt w.heap.size 0 E ∧ ((w.alloc (.cells E.toArray t)).alloc (.cells E'.toArray t)).rangeAt (w.heap.size + 1) 0 E' ∧
  w.heap.size + 1 < ((w.alloc (.cells E.toArray t)).alloc (.cells E'.toArray t)).heap.size ∧ Below w.heap.size w ((w.alloc (.cells E.toArray t)).alloc (.cells E'.toArray t)) := by
 have := at_new (w.alloc (.cells E.toArray t)) E' t
 rw [World.size_alloc] at this
 exact ⟨World.rangeAt_alloc (at_new w E t) _, this, by simp, ((Below.refl w.heap.size w).alloc (Nat.le_refl _) _).alloc (by simp) _⟩
def GStr (E : List Value) (N j : Nat) : Prop := ∃ s : ByteArray, E[j]? = some (.string s) ∧ s.size ≤ N
def GSl (E : List Value) (N j : Nat) : Prop := ∃ (A : Option Addr) (n c : Nat), E[j]? = some (.slice A n c) ∧ n ≤ N
theorem gs_of {E : List Value} {N j : Nat} {s : ByteArray} (h : E[j]? = some (.string s)) (hs : fsz (fS s) ≤ N) : GStr E N j := ⟨s, h, by unfold fsz at hs; simp only at hs; omega⟩
theorem gl_of {E : List Value} {N j : Nat} {A : Option Addr} {c : Nat} {l : List FV} (h : E[j]? = some (.slice A l.length c)) (hs : fsz (fL l) ≤ N) : GSl E N j := ⟨A, l.length, c, h, by rw [fsz_fL] at hs; have := lsz_length l; omega⟩
theorem fsz_in {l : List FV} {f g : FV} (hg : g = fL l) (hf : f ∈ l) : fsz f < fsz g := by subst hg; rw [fsz_fL]; exact fsz_mem hf
theorem ev_great {w : World} {fs : List FV} {E : List Value} (h : EvR w fs E) : GStr E (lsz fs) 2 ∧ GStr E (lsz fs) 3 ∧ GStr E (lsz fs) 7 ∧ GStr E (lsz fs) 8 ∧ GStr E (lsz fs) 19 ∧ GSl E (lsz fs) 12 ∧ GSl E (lsz fs) 13 ∧ GSl E (lsz fs) 16 ∧ GSl E (lsz fs) 17 ∧ GSl E (lsz fs) 18 ∧ GSl E (lsz fs) 21 ∧ GSl E (lsz fs) 28 ∧ GSl E (lsz fs) 32 ∧ GSl E (lsz fs) 33 := by
 obtain ⟨hr, hs⟩ := h
 obtain ⟨f1, r1, k1, d1, rfl, rfl, q1, hr⟩ := hr
 obtain ⟨x1, _, rfl, rfl⟩ := q1
 obtain ⟨f2, r2, k2, d2, rfl, rfl, q2, hr⟩ := hr
 obtain ⟨x2, _, rfl, rfl⟩ := q2
 obtain ⟨f3, r3, k3, d3, rfl, rfl, q3, hr⟩ := hr
 obtain ⟨x3, rfl, rfl⟩ := q3
 obtain ⟨f4, r4, k4, d4, rfl, rfl, q4, hr⟩ := hr
 obtain ⟨x4, rfl, rfl⟩ := q4
 obtain ⟨f5, r5, k5, d5, rfl, rfl, q5, hr⟩ := hr
 obtain ⟨x5, _, rfl, rfl⟩ := q5
 obtain ⟨f6, r6, k6, d6, rfl, rfl, q6, hr⟩ := hr
 obtain ⟨x6, _, rfl, rfl⟩ := q6
 obtain ⟨f7, r7, k7, d7, rfl, rfl, q7, hr⟩ := hr
 obtain ⟨x7, _, rfl, rfl⟩ := q7
 obtain ⟨f8, r8, k8, d8, rfl, rfl, q8, hr⟩ := hr
 obtain ⟨x8, rfl, rfl⟩ := q8
 obtain ⟨f9, r9, k9, d9, rfl, rfl, q9, hr⟩ := hr
 obtain ⟨x9, rfl, rfl⟩ := q9
 obtain ⟨f10, r10, k10, d10, rfl, rfl, q10, hr⟩ := hr
 obtain ⟨l10, rfl, q10⟩ := q10
 obtain ⟨f11, r11, k11, d11, rfl, rfl, p11, q10⟩ := q10
 obtain ⟨x11, rfl, rfl⟩ := p11
 obtain ⟨f12, r12, k12, d12, rfl, rfl, p12, q10⟩ := q10
 obtain ⟨x12, rfl, rfl⟩ := p12
 obtain ⟨f13, r13, k13, d13, rfl, rfl, p13, q10⟩ := q10
 obtain ⟨x13, rfl, rfl⟩ := p13
 obtain ⟨rfl, rfl⟩ := q10
 obtain ⟨f14, r14, k14, d14, rfl, rfl, q14, hr⟩ := hr
 obtain ⟨x14, A14, c14, rfl, rfl, _⟩ := q14
 obtain ⟨f15, r15, k15, d15, rfl, rfl, q15, hr⟩ := hr
 obtain ⟨x15, A15, c15, rfl, rfl, _⟩ := q15
 obtain ⟨f16, r16, k16, d16, rfl, rfl, q16, hr⟩ := hr
 obtain ⟨l16, rfl, q16⟩ := q16
 obtain ⟨f17, r17, k17, d17, rfl, rfl, p17, q16⟩ := q16
 obtain ⟨x17, _, rfl, rfl⟩ := p17
 obtain ⟨f18, r18, k18, d18, rfl, rfl, p18, q16⟩ := q16
 obtain ⟨x18, _, rfl, rfl⟩ := p18
 obtain ⟨f19, r19, k19, d19, rfl, rfl, p19, q16⟩ := q16
 obtain ⟨x19, A19, c19, rfl, rfl, _⟩ := p19
 obtain ⟨f20, r20, k20, d20, rfl, rfl, p20, q16⟩ := q16
 obtain ⟨x20, A20, c20, rfl, rfl, _⟩ := p20
 obtain ⟨f21, r21, k21, d21, rfl, rfl, p21, q16⟩ := q16
 obtain ⟨x21, A21, c21, rfl, rfl, _⟩ := p21
 obtain ⟨f22, r22, k22, d22, rfl, rfl, p22, q16⟩ := q16
 obtain ⟨x22, rfl, rfl⟩ := p22
 obtain ⟨rfl, rfl⟩ := q16
 obtain ⟨f23, r23, k23, d23, rfl, rfl, q23, hr⟩ := hr
 obtain ⟨l23, rfl, q23⟩ := q23
 obtain ⟨f24, r24, k24, d24, rfl, rfl, p24, q23⟩ := q23
 obtain ⟨x24, rfl, rfl⟩ := p24
 obtain ⟨f25, r25, k25, d25, rfl, rfl, p25, q23⟩ := q23
 obtain ⟨x25, A25, c25, rfl, rfl, _⟩ := p25
 obtain ⟨f26, r26, k26, d26, rfl, rfl, p26, q23⟩ := q23
 obtain ⟨x26, _, rfl, rfl⟩ := p26
 obtain ⟨f27, r27, k27, d27, rfl, rfl, p27, q23⟩ := q23
 obtain ⟨x27, _, rfl, rfl⟩ := p27
 obtain ⟨f28, r28, k28, d28, rfl, rfl, p28, q23⟩ := q23
 obtain ⟨x28, rfl, rfl⟩ := p28
 obtain ⟨f29, r29, k29, d29, rfl, rfl, p29, q23⟩ := q23
 obtain ⟨x29, _, rfl, rfl⟩ := p29
 obtain ⟨f30, r30, k30, d30, rfl, rfl, p30, q23⟩ := q23
 obtain ⟨x30, _, rfl, rfl⟩ := p30
 obtain ⟨f31, r31, k31, d31, rfl, rfl, p31, q23⟩ := q23
 obtain ⟨x31, _, rfl, rfl⟩ := p31
 obtain ⟨f32, r32, k32, d32, rfl, rfl, p32, q23⟩ := q23
 obtain ⟨x32, A32, c32, rfl, rfl, _⟩ := p32
 obtain ⟨rfl, rfl⟩ := q23
 obtain ⟨f33, r33, k33, d33, rfl, rfl, q33, hr⟩ := hr
 obtain ⟨l33, rfl, q33⟩ := q33
 obtain ⟨f34, r34, k34, d34, rfl, rfl, p34, q33⟩ := q33
 obtain ⟨x34, rfl, rfl⟩ := p34
 obtain ⟨f35, r35, k35, d35, rfl, rfl, p35, q33⟩ := q33
 obtain ⟨x35, rfl, rfl⟩ := p35
 obtain ⟨f36, r36, k36, d36, rfl, rfl, p36, q33⟩ := q33
 obtain ⟨x36, _, rfl, rfl⟩ := p36
 obtain ⟨f37, r37, k37, d37, rfl, rfl, p37, q33⟩ := q33
 obtain ⟨x37, A37, c37, rfl, rfl, _⟩ := p37
 obtain ⟨f38, r38, k38, d38, rfl, rfl, p38, q33⟩ := q33
 obtain ⟨x38, A38, c38, rfl, rfl, _⟩ := p38
 obtain ⟨rfl, rfl⟩ := q33
 exact ⟨gs_of rfl (Nat.le_of_lt (fsz_mem (f := fS x3) (by simp))),
  gs_of rfl (Nat.le_of_lt (fsz_mem (f := fS x4) (by simp))),
  gs_of rfl (Nat.le_of_lt (fsz_mem (f := fS x8) (by simp))),
  gs_of rfl (Nat.le_of_lt (fsz_mem (f := fS x9) (by simp))),
  gs_of rfl (Nat.le_of_lt (Nat.lt_trans (fsz_in (l := [fI x17, fI x18, fL x19, fL x20, fL x21, fS x22]) (f := fS x22) rfl (by simp)) (fsz_mem (by simp)))),
  gl_of rfl (Nat.le_of_lt (fsz_mem (f := fL x14) (by simp))),
  gl_of rfl (Nat.le_of_lt (fsz_mem (f := fL x15) (by simp))),
  gl_of rfl (Nat.le_of_lt (Nat.lt_trans (fsz_in (l := [fI x17, fI x18, fL x19, fL x20, fL x21, fS x22]) (f := fL x19) rfl (by simp)) (fsz_mem (by simp)))),
  gl_of rfl (Nat.le_of_lt (Nat.lt_trans (fsz_in (l := [fI x17, fI x18, fL x19, fL x20, fL x21, fS x22]) (f := fL x20) rfl (by simp)) (fsz_mem (by simp)))),
  gl_of rfl (Nat.le_of_lt (Nat.lt_trans (fsz_in (l := [fI x17, fI x18, fL x19, fL x20, fL x21, fS x22]) (f := fL x21) rfl (by simp)) (fsz_mem (by simp)))),
  gl_of rfl (Nat.le_of_lt (Nat.lt_trans (fsz_in (l := [fS x24, fL x25, fI x26, fI x27, fI (if x28 then 1 else 0), fI x29, fI x30, fI x31, fL x32]) (f := fL x25) rfl (by simp)) (fsz_mem (by simp)))),
  gl_of rfl (Nat.le_of_lt (Nat.lt_trans (fsz_in (l := [fS x24, fL x25, fI x26, fI x27, fI (if x28 then 1 else 0), fI x29, fI x30, fI x31, fL x32]) (f := fL x32) rfl (by simp)) (fsz_mem (by simp)))),
  gl_of rfl (Nat.le_of_lt (Nat.lt_trans (fsz_in (l := [fS x34, fS x35, fI x36, fL x37, fL x38]) (f := fL x37) rfl (by simp)) (fsz_mem (by simp)))),
  gl_of rfl (Nat.le_of_lt (Nat.lt_trans (fsz_in (l := [fS x34, fS x35, fI x36, fL x37, fL x38]) (f := fL x38) rfl (by simp)) (fsz_mem (by simp))))⟩
theorem great_any (fs : List FV) (E : List Value) (w : World) (h : EvR w fs E) : Calls Tryz.prog 9 #[.agg E.toArray] w fun e w' => ∃ b : Bool, e = .returned (.bool b) ∧ Below w.heap.size w w' := by
 have hg := ev_great h
 have hsz := h.sz
 obtain ⟨⟨s2, e2, b2⟩, ⟨s3, e3, b3⟩, ⟨s7, e7, b7⟩, ⟨s8, e8, b8⟩, ⟨s19, e19, b19⟩, ⟨A12, n12, c12, e12, b12⟩, ⟨A13, n13, c13, e13, b13⟩, ⟨A16, n16, c16, e16, b16⟩, ⟨A17, n17, c17, e17, b17⟩, ⟨A18, n18, c18, e18, b18⟩, ⟨A21, n21, c21, e21, b21⟩, ⟨A28, n28, c28, e28, b28⟩, ⟨A32, n32, c32, e32, b32⟩, ⟨A33, n33, c33, e33, b33⟩⟩ := hg
 have hi := ev_info h.len
 clear h
 replace b2 : s2.size ≤ 1000000000 := Nat.le_trans b2 hsz
 replace b3 : s3.size ≤ 1000000000 := Nat.le_trans b3 hsz
 replace b7 : s7.size ≤ 1000000000 := Nat.le_trans b7 hsz
 replace b8 : s8.size ≤ 1000000000 := Nat.le_trans b8 hsz
 replace b19 : s19.size ≤ 1000000000 := Nat.le_trans b19 hsz
 replace b12 : n12 ≤ 1000000000 := Nat.le_trans b12 hsz
 replace b13 : n13 ≤ 1000000000 := Nat.le_trans b13 hsz
 replace b16 : n16 ≤ 1000000000 := Nat.le_trans b16 hsz
 replace b17 : n17 ≤ 1000000000 := Nat.le_trans b17 hsz
 replace b18 : n18 ≤ 1000000000 := Nat.le_trans b18 hsz
 replace b21 : n21 ≤ 1000000000 := Nat.le_trans b21 hsz
 replace b28 : n28 ≤ 1000000000 := Nat.le_trans b28 hsz
 replace b32 : n32 ≤ 1000000000 := Nat.le_trans b32 hsz
 replace b33 : n33 ≤ 1000000000 := Nat.le_trans b33 hsz
 go_enter Tryz.func9, Tryz.ntmps9
 go_upto_region 1 with (fail)
 have hA : (w.alloc (.cells E.toArray 43)).rangeAt w.heap.size 0 E := at_new w E 43
 have hb : Below w.heap.size w (w.alloc (.cells E.toArray 43)) := (Below.refl w.heap.size w).alloc (Nat.le_refl _) _
 generalize World.alloc w _ = w1 at *
 replace e2 := hA 2 _ e2
 rw [Nat.zero_add] at e2
 replace e3 := hA 3 _ e3
 rw [Nat.zero_add] at e3
 replace e7 := hA 7 _ e7
 rw [Nat.zero_add] at e7
 replace e8 := hA 8 _ e8
 rw [Nat.zero_add] at e8
 replace e19 := hA 19 _ e19
 rw [Nat.zero_add] at e19
 replace e12 := hA 12 _ e12
 rw [Nat.zero_add] at e12
 replace e13 := hA 13 _ e13
 rw [Nat.zero_add] at e13
 replace e16 := hA 16 _ e16
 rw [Nat.zero_add] at e16
 replace e17 := hA 17 _ e17
 rw [Nat.zero_add] at e17
 replace e18 := hA 18 _ e18
 rw [Nat.zero_add] at e18
 replace e21 := hA 21 _ e21
 rw [Nat.zero_add] at e21
 replace e28 := hA 28 _ e28
 rw [Nat.zero_add] at e28
 replace e32 := hA 32 _ e32
 rw [Nat.zero_add] at e32
 replace e33 := hA 33 _ e33
 rw [Nat.zero_add] at e33
 clear hA hsz hi
 by_cases hg : (20000 : Int) < (s2.size : Int)+(s3.size : Int)+(s7.size : Int)+(s8.size : Int)+n12+n13+n16+n17+n18+s19.size
 ·repeat' (first | go_skip | go_guarded | go_step)
  go_ret
  exact ⟨_, rfl, hb⟩
 ·have hg2 : ¬ ((20000 : Int) < (s2.size : Int)+(s3.size : Int)+(s7.size : Int)+(s8.size : Int)+n12+n13+n16+n17+n18+s19.size) := hg
  by_cases hh : (1000 : Int) < (n21 : Int) + n28 + n32 + n33
  ·repeat' (first | go_skip | go_guarded | go_step)
   go_ret
   exact ⟨_, rfl, hb⟩
  ·repeat' (first | go_skip | go_guarded | go_step)
   go_ret
   exact ⟨_, rfl, hb⟩
end Go.Proofs.YtgdapkglofchjaaGreatDoor
