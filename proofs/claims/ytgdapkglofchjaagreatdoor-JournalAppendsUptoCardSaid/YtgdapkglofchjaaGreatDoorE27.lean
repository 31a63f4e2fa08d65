/- Joined: Put OctPure Num Str Val2. -/
import Derived.Test.YtgdapkglofchjaaGreatDoorE2
set_option maxRecDepth 100000
set_option maxHeartbeats 400000
set_option linter.unusedVariables false
namespace Go.Proofs.YtgdapkglofchjaaGreatDoor
open Go.RowKit
theorem U64.lt {m : Nat} (h : U64 m) : m < 18446744073709551616 := by unfold U64 at h; exact h
theorem U64.wrap_div {m : Nat} (h : U64 m) : IntKind.u64.wrap ((m : Int) / 128) = (m : Int) / 128 := by
 have := h.lt
 exact IntWalk.u64_in _ (by omega)
theorem rPutUint_any (n : Nat) (w : World) (hn : U64 n) :
  Calls Tryz.prog 52 #[.int .u64 (n : Int)] w (RetBytes w (Lib.uvarint n)) := by
 go_enter Tryz.func52, Tryz.ntmps52
 repeat' (first | go_skip | go_guarded | go_step)
 go_loopw [0, 3] (fun u0 u3 wr => ∃ (m : Nat) (pre : List UInt8), U64 m ∧ pre.length + (Lib.uvarint m).length ≤ 10 ∧ u0 = .int .u64 (m : Int) ∧ Bytes w wr u3 pre ∧ pre ++ Lib.uvarint m = Lib.uvarint n) (fun u0 _ _ => (intOf u0).toNat)
 case atStart => exact ⟨n, [], hn, by simpa using Lib.uvarint_length64 (by unfold U64 at hn; exact hn), rfl, Own.nil_ _ _ _, rfl⟩
 case round =>
  obtain ⟨m, pre, hm, hlen, rfl, hown, hpre⟩ := hrel
  have hb : (pre.length + 1) * 1 ≤ 140737488355328 := by have := Lib.uvarint_pos m; omega
  have hw := hm.wrap_div
  have Hpre := Lib.hid hpre; clear hpre
  have Hlen := Lib.hid hlen; clear hlen
  repeat' (first | (at_builtin; go_loud (refine wp_app1 hown Tryz.underlying47 u8_info hb ?_); intro v1 w1 hown1 _) | go_skip | go_guarded | go_step)
  ·have hge : (127 : Int) < m := by assumption
   go_roundw
   case rel =>
    refine ⟨m / 128, pre ++ [(m % 128 + 128).toUInt8], hm.div _, ?_, by go_num, Bytes.snoc hown1 ?_, ?_⟩
    ·have := Hlen.out; rw [Lib.uvarint_big (by omega)] at this; simp at this ⊢; omega
    ·simp only [bv]
     rw [Lib.toUInt8_toNat (by omega)]
     go_num
    ·rw [← Hpre.out, Lib.uvarint_big (x := m) (by omega)]; simp
   case measure => simp [intOf]; omega
  ·have hlt : (m : Int) ≤ 127 := by assumption
   go_ret
   refine Bytes.ret ?_
   rw [← Hpre.out, Lib.uvarint_small (by omega)]
   refine Bytes.snoc hown1 ?_
   simp only [bv]
   rw [Lib.toUInt8_toNat (by omega)]
end Go.Proofs.YtgdapkglofchjaaGreatDoor
namespace Go.Proofs.YtgdapkglofchjaaGreatDoor
theorem zig_neg {x : Int} (h0 : -9223372036854775808 ≤ x) (h : x < 0) :
  IntKind.u64.wrap (IntKind.u64.wrap (2 * IntKind.u64.wrap (RowKit.wrap64 (-RowKit.wrap64 (x + 1)))) + 1) = ((Lib.zigzag x : Nat) : Int) := by
 rw [IntWalk.wrap64_in (x + 1) (by omega), IntWalk.wrap64_in _ (by omega), IntWalk.u64_in (-(x + 1)) (by omega), IntWalk.u64_in (2 * -(x + 1)) (by omega), IntWalk.u64_in _ (by omega)]
 unfold Lib.zigzag
 rw [if_neg (by omega)]
 omega
theorem zig_pos {x : Int} (h : 0 ≤ x) (h1 : x ≤ 9223372036854775807) : IntKind.u64.wrap (2 * IntKind.u64.wrap x) = ((Lib.zigzag x : Nat) : Int) := by
 rw [IntWalk.u64_in x (by omega), IntWalk.u64_in (2 * x) (by omega), Lib.zigzag_nonneg h]
 omega
end Go.Proofs.YtgdapkglofchjaaGreatDoor
namespace Go.Proofs.YtgdapkglofchjaaGreatDoor
open Go.RowKit
theorem rPutInt_any (x : Int) (w : World) (h0 : -9223372036854775808 ≤ x) (h1 : x ≤ 9223372036854775807) :
  Calls Tryz.prog 109 #[.int .i64 x] w (RetBytes w (Lib.uvarint (Lib.zigzag x))) := by
 have H0 := Lib.hid h0; clear h0
 have H1 := Lib.hid h1; clear h1
 go_enter Tryz.func109, Tryz.ntmps109
 repeat' (first | go_skip | go_guarded | go_step)
 ·have h : x < 0 := by assumption
  rw [zig_neg H0.out h]
  refine (rPutUint_any _ _ (U64.mk (Lib.zigzag_lt H0.out H1.out))).mono ?_
  rintro e w1 ⟨A, c, rfl, h⟩
  dsimp only
  repeat' (first | go_skip | go_guarded | go_step)
  go_ret
  exact ⟨A, c, rfl, h⟩
 ·have h : 0 ≤ x := by assumption
  rw [zig_pos h H1.out]
  refine (rPutUint_any _ _ (U64.mk (Lib.zigzag_lt H0.out H1.out))).mono ?_
  rintro e w1 ⟨A, c, rfl, h⟩
  dsimp only
  repeat' (first | go_skip | go_guarded | go_step)
  go_ret
  exact ⟨A, c, rfl, h⟩
theorem rPutStr_any (s : ByteArray) (w : World) (hm : s.size ≤ 1000000000000) :
  Calls Tryz.prog 110 #[.string s] w (RetBytes w (Lib.uvarint s.size ++ s.data.toList)) := by
 have hb := Lib.uvarint_length64 (x := s.size) (by omega)
 have Hb := Lib.hid hb; clear hb
 go_enter Tryz.func110, Tryz.ntmps110
 repeat' (first | go_skip | go_guarded | go_step)
 refine (rPutUint_any _ _ (U64.mk (by omega))).mono ?_
 rintro e w1 ⟨A, c, rfl, h⟩
 dsimp only
 repeat' (first | go_skip | go_guarded | go_step)
 go_loopw [3, 4] (fun u3 u4 wr => ∃ k : Nat, k ≤ s.size ∧ u4 = .int .i64 (k : Int) ∧ Bytes w wr u3 (Lib.uvarint s.size ++ s.data.toList.take k)) (fun _ u4 _ => s.size - (intOf u4).toNat)
 case atStart => exact ⟨0, by omega, rfl, by simpa using h⟩
 case round =>
  obtain ⟨k, hk, rfl, h⟩ := hrel
  have hb : ((Lib.uvarint s.size ++ s.data.toList.take k).length + 1) * 1 ≤ 140737488355328 := by
   have := Hb.out; simp [List.length_take]; omega
  by_cases hlt : k < s.size
  ·repeat' (first | (at_builtin; refine wp_app1 h Tryz.underlying47 u8_info hb ?_; intro v2 w2 h2 _) | go_skip | go_guarded | go_step)
   go_roundw
   case rel =>
    refine ⟨k + 1, by omega, by go_num, ?_⟩
    have hx : s.data.toList.take (k + 1) = s.data.toList.take k ++ [s[k]] := by
     rw [List.take_succ_eq_append_getElem (by simpa using hlt)]; rfl
    rw [hx, ← List.append_assoc]
    exact Bytes.snoc h2 rfl
   case measure => simp [intOf]; omega
  ·repeat' (first | go_skip | go_guarded | go_step)
   go_ret
   obtain rfl : k = s.size := by omega
   rw [List.take_of_length_le (by simp)] at h
   exact Bytes.ret h
theorem bytesEq_any (A A' : Option Addr) (n c n' c' : Nat) (l l' : List UInt8) (w : World) (B : Nat) (hs : Seq w B 1 A n (l.map bv)) (hs' : Seq w B 1 A' n' (l'.map bv)) :
  Calls Tryz.prog 14 #[.slice A n c, .slice A' n' c'] w fun e w' => e = .returned (.bool (l == l')) ∧ w = w' := by
 go_enter Tryz.func14, Tryz.ntmps14
 have h1 := fun dst hd => run_bytes_str (P := Tryz.prog) (src := 47) (dst := dst) (c := c) hs Tryz.underlying47 Tryz.underlying5 hd
 have h2 := fun dst hd => run_bytes_str (P := Tryz.prog) (src := 47) (dst := dst) (c := c') hs' Tryz.underlying47 Tryz.underlying5 hd
 have h1 := h1 9 Tryz.underlying9
 have h2 := h2 9 Tryz.underlying9
 repeat' (first | go_skip | go_guarded | go_step)
 go_ret
 exact ⟨rfl, rfl⟩
theorem rvalid_body (k x : Int) (s : ByteArray) (sub : Flds) (ih : ∀ i k' x' s' sub', sub.get? i = some (k', x', s', sub') → ValOK 108 k' x' s' sub') : ValOK 108 k x s sub := by
  intro A c csub w B d hB hseq hrep hsz hd
  have hlen := Flds.length_le_size sub
  have Ih := Lib.hid ih; clear ih
  by_cases h1 : 128 < d
  · go_enter Tryz.func108, Tryz.ntmps108
    repeat' (first | go_skip | go_guarded | go_step)
    go_ret
    exact ⟨ret_i (by unfold vone; rw [if_pos h1]; rfl), (Below.refl _ _).alloc (Nat.le_refl _) _⟩
  · go_enter Tryz.func108, Tryz.ntmps108
    repeat' (first | go_skip | go_guarded | go_step)
    go_quiet (fail)
    repeat' (first | go_skip | go_guarded | go_step)
    all_goals first
      | (go_ret
         refine ⟨ret_i ?_, ((Below.refl _ _).alloc (Nat.le_refl _) _).trans ⟨rfl, rfl, rfl, Nat.le_refl _, fun _ _ => rfl⟩⟩
         have h2 : clean k x s sub = false := by unfold clean; simp_all; try omega
         unfold vone
         rw [if_neg h1, if_pos h2]
         rfl)
      | skip
    all_goals
      have h2 : clean k x s sub = true := by unfold clean; simp_all; try omega
      go_loopw [8] (fun u8 wr => ∃ i : Nat, i ≤ sub.length ∧ u8 = .int .i64 (i : Int) ∧ w.heap.size < wr.heap.size ∧ wr.cell? ⟨w.heap.size, 3, none⟩ = some (.slice A sub.length c) ∧ Below w.heap.size w wr ∧ vld (d + 1) (sub.drop i) = vld (d + 1) sub) (fun u8 _ => sub.length - (intOf u8).toNat)
      case atStart => exact ⟨0, by omega, rfl, by simp, by simp [go_sem], ((Below.refl _ _).alloc (Nat.le_refl _) _).trans ⟨rfl, rfl, rfl, Nat.le_refl _, fun _ _ => rfl⟩, by rw [Flds.drop_zero]⟩
      case round =>
        obtain ⟨i, hi, rfl, hz, hbox, hbr, hv⟩ := hrel
        have Hv := Lib.hid hv; clear hv
        by_cases hlt : i < sub.length
        · first | (exfalso; omega) | skip
          all_goals
            obtain ⟨⟨k', x', s', sub'⟩, hg⟩ := Flds.get?_lt sub i hlt
            obtain ⟨b, o, hA, hbB, hcell⟩ := hseq.2 (by omega)
            rw [hA] at hbox
            obtain ⟨A', c', csub', g1, g2, g3, g4, hk', hx', hseq', hrep'⟩ := hrep.at_ hg
            have hcell' := fun j u hu => (hbr.cell (p := ⟨b, o + j, none⟩) (by simp; omega)).trans (hcell j u hu)
            have e1 := hcell' _ _ g1
            have e2 := hcell' _ _ g2
            rw [← Nat.add_assoc] at e2
            have e3 := hcell' _ _ g3
            rw [← Nat.add_assoc] at e3
            have e4 := hcell' _ _ g4
            rw [← Nat.add_assoc] at e4
            clear hcell hcell' g1 g2 g3 g4
            have hv13 := vone_le (d + 1) k' x' s' sub'
            have hsz' := Flds.get?_size sub i hg
            have C := Ih.out i k' x' s' sub' hg A' c' csub' wr B (d + 1) (Nat.le_trans hB hbr.size) (hseq'.below (hbr.mono hB)) (hrep'.below (hbr.mono hB)) (by omega) (by omega)
            have Hc := Lib.hid C; clear C
            have Hv1 := Lib.hid (vld_at (d := d + 1) hg)
            have Hg := Lib.hid hg; clear hg
            have HA := Lib.hid hA; clear hA
            have He : Hid (vone (d + 1) k' x' s' sub' = 0 ↔ ((vone (d + 1) k' x' s' sub' : Int) != 0) = false) := by unfold Hid; simp
            generalize vone (d + 1) k' x' s' sub' = E at *
            rcases Bool.eq_false_or_eq_true ((E : Int) != 0) with e0 | e0
            · repeat' (first | (go_at_call 108; refine Hc.out.mono ?_; rintro e w1 ⟨rfl, hb1⟩; dsimp only) | go_skip | go_guarded | go_step)
              go_ret
              refine ⟨ret_i ?_, hbr.trans (hb1.mono hbr.size)⟩
              have hne : ¬ E = 0 := by rw [He.out, e0]; simp
              have := Hv.out
              rw [Hv1.out, if_neg hne] at this
              unfold vone
              rw [if_neg h1, if_neg (by simp [h2]), ← this]
            · repeat' (first | (go_at_call 108; refine Hc.out.mono ?_; rintro e w1 ⟨rfl, hb1⟩; dsimp only) | go_skip | go_guarded | go_step)
              go_roundw
              case rel =>
                refine ⟨i + 1, by omega, by go_num, Nat.lt_of_lt_of_le hz hb1.size, ?_, hbr.trans (hb1.mono hbr.size), ?_⟩
                · rw [hb1.cell (p := ⟨w.heap.size, 3, none⟩) hz, hbox, HA.out]
                · rw [← Hv.out, Hv1.out, if_pos (He.out.2 e0)]
              case measure => simp [intOf]; omega
        · repeat' (first | go_skip | go_guarded | go_step)
          go_ret
          refine ⟨ret_i ?_, hbr⟩
          have := Hv.out
          rw [Flds.drop_end _ _ (by omega)] at this
          unfold vone
          rw [if_neg h1, if_neg (by simp [h2]), ← this]
          rfl
theorem rvalid_all : ∀ (f : Flds) (i : Nat) (k x : Int) (s : ByteArray) (sub : Flds), f.get? i = some (k, x, s, sub) → ValOK 108 k x s sub
 | .nil, i, _, _, _, _, h => by simp [Flds.get?] at h
 | .cons k x s sub r, 0, _, _, _, _, h => by
  simp only [Flds.get?, Option.some.injEq, Prod.mk.injEq] at h
  obtain ⟨rfl, rfl, rfl, rfl⟩ := h
  exact rvalid_body k x s sub (rvalid_all sub)
 | .cons _ _ _ _ r, i + 1, k, x, s, sub, h => rvalid_all r i k x s sub h
theorem rvalid_any (k x : Int) (s : ByteArray) (sub : Flds) : ValOK 108 k x s sub := rvalid_body k x s sub (rvalid_all sub)
theorem rValid_any (k x : Int) (s : ByteArray) (sub : Flds) (A : Option Addr) (c : Nat) (csub : List Value) (w : World) (B : Nat) (hB : B ≤ w.heap.size) (hseq : Seq w B 4 A sub.length csub) (hrep : RepF w B sub csub) (hsz : sub.size ≤ 1000000000) :
  Calls Tryz.prog 62 #[.agg (fcells k x s A sub.length c)] w fun e w' => e = .returned (.int .i64 (vone 1 k x s sub : Int)) ∧ Below w.heap.size w w' := by
 have hba := (Below.refl w.heap.size w).alloc (Nat.le_refl _) (.cells (fcells k x s A sub.length c) 98)
 have C := rvalid_any k x s sub A c csub _ B 1 (Nat.le_trans hB hba.size) (hseq.below (hba.mono hB)) (hrep.below (hba.mono hB)) hsz (by omega)
 have Hc := Lib.hid C; clear C
 go_enter Tryz.func62, Tryz.ntmps62
 repeat' (first | (go_at_call 108; refine Hc.out.mono ?_; rintro e w1 ⟨rfl, hb1⟩; dsimp only) | go_skip | go_guarded | go_step)
 go_ret
 exact ⟨rfl, hba.trans (hb1.mono hba.size)⟩
end Go.Proofs.YtgdapkglofchjaaGreatDoor
