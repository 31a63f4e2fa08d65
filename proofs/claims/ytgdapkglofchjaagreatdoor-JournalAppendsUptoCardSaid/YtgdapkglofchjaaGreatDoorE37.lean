/- Joined: Open CrcP CrcW AppW JnAp JAppends. -/
import Derived.Test.YtgdapkglofchjaaGreatDoorE26
import Derived.Test.YtgdapkglofchjaaGreatDoorE32
set_option maxRecDepth 100000
set_option maxHeartbeats 2000000
set_option linter.unusedVariables false
namespace Go.Proofs.YtgdapkglofchjaaGreatDoor
open Go.ChangeShapes Go.WideShapes Go.ChangeAt Go.RowKit
theorem open_bytes {H : Type} {enc : TypeId × Value → H} {P : Program} {W : World} {spare : Nat → Bool} {held : Bool} {t e : TypeId} {a0 : Option Addr} {len cap : Nat} {d : DataW H} {p : List MemPlace}
  (ht : P.underlying t = some (.slice e)) (he : P.underlying e = some (.int .u8)) (hc : P.cellsOf e = 1) (h : DataW.Trod enc P W 0 spare held t (.slice a0 len cap) d p) :
  ∃ l : List UInt8, l.length = len ∧ len ≤ cap ∧ cap ≤ maxLen ∧ (a0 = none → cap = 0) ∧ Seq W W.heap.size 1 a0 len (l.map bv) := by
 obtain ⟨fuel, hf⟩ := h
 rcases open_ints ht he hc hf with ⟨hcs, _⟩ | ⟨x, l, c, zs, hcs, _, hl, hm, hz, _, hcell, hwz⟩
 ·simp [Value.cells] at hcs
  obtain ⟨rfl, rfl, rfl⟩ := hcs
  exact ⟨[], rfl, Nat.le_refl _, Nat.zero_le _, fun _ => rfl, Seq.nil_⟩
 ·simp [Value.cells] at hcs
  obtain ⟨rfl, rfl, rfl⟩ := hcs
  have hlz : len ≤ zs.length := by rw [hz]; split <;> omega
  refine ⟨(zs.take len).map fun z => UInt8.ofNat z.toNat, by simp; omega, hl, hm, fun h => by simp at h, ?_⟩
  refine seq_of_cells (by simp; omega) (by omega) ?_
  intro j u hu
  have hj : j < len := by
   have := (List.getElem?_eq_some_iff.1 hu).1
   simp at this; omega
  rw [hcell j (by omega)]
  have hx : zs[j]? = some (zs[j]'(by omega)) := List.getElem?_eq_getElem (by omega)
  have hw := hwz (zs[j]'(by omega)) (List.getElem_mem _)
  have hb : 0 ≤ zs[j]'(by omega) ∧ zs[j]'(by omega) ≤ 255 := by simpa [Lit.wf, IntKind.min, IntKind.max, IntKind.signed, IntKind.bits] using hw
  simp only [List.map_map, List.getElem?_map, List.getElem?_take, if_pos hj, hx, Option.map_some, Function.comp_apply, Option.some.injEq] at hu
  subst hu
  simp only [List.getD, hx, Option.getD_some]
  congr 2
  rw [UInt8.toNat_ofNat']
  omega
end Go.Proofs.YtgdapkglofchjaaGreatDoor
namespace Go.Proofs.YtgdapkglofchjaaGreatDoor
theorem xor_half (a b : Nat) : (a ^^^ b) / 2 = (a / 2) ^^^ (b / 2) := by
 have := Nat.shiftRight_xor_distrib (a := a) (b := b) (i := 1)
 simpa [Nat.shiftRight_eq_div_pow] using this
theorem xor_mod2 (a b : Nat) : (a ^^^ b) % 2 = (a % 2) ^^^ (b % 2) := by
 have := Nat.xor_mod_two_pow (a := a) (b := b) (n := 1)
 simpa using this
theorem xor_odd (a b : Nat) : (a ^^^ b) % 2 = 1 ↔ a % 2 ≠ b % 2 := by
 rw [xor_mod2]
 have h1 := Nat.mod_two_eq_zero_or_one a
 have h2 := Nat.mod_two_eq_zero_or_one b
 rcases h1 with h1 | h1 <;> rcases h2 with h2 | h2 <;> rw [h1, h2] <;> decide
end Go.Proofs.YtgdapkglofchjaaGreatDoor
namespace Go.Proofs.YtgdapkglofchjaaGreatDoor
open Go.RowKit
theorem odd_xor {r c : Nat} {n : Nat} (h : r ^^^ c = n) : (((r : Int) % 2 == (c : Int) % 2) = decide (n % 2 = 0)) := by
 have h1 := xor_odd r c
 rw [h] at h1
 by_cases e : n % 2 = 0
 ·have : ¬ (r % 2 ≠ c % 2) := fun hh => by have := h1.2 hh; omega
  simp only [e, decide_true, beq_iff_eq]
  omega
 ·have : r % 2 ≠ c % 2 := h1.1 (by omega)
  simp only [e, decide_false]
  rw [beq_eq_false_iff_ne]
  omega
theorem rCheck_any (A : Option Addr) (n c : Nat) (l : List UInt8) (w : World) (B : Nat) (hl : l.length = n) (hm : n ≤ 1000000000) (hs : Seq w B 1 A n (l.map bv)) :
  Calls Tryz.prog 53 #[.slice A n c] w fun e w' => e = .returned (.int .i64 (crc l : Int)) ∧ w = w' := by
 go_enter Tryz.func53, Tryz.ntmps53
 repeat' (first | go_skip | go_guarded | go_step)
 go_loop [3, 4] (fun u3 u4 => ∃ (k acc : Nat), k ≤ n ∧ acc < 4294967296 ∧ u3 = .int .u64 (acc : Int) ∧ u4 = .int .i64 (k : Int) ∧ crcF acc (l.drop k) = crcF 4294967295 l) (fun _ u4 => n - (intOf u4).toNat)
 case atStart => exact ⟨0, 4294967295, by omega, by decide, rfl, rfl, rfl⟩
 case round =>
  obtain ⟨k, acc, hk, hacc, rfl, rfl, hcrc⟩ := hrel
  have Hcrc := Lib.hid hcrc; clear hcrc
  by_cases hlt : k < n
  ·obtain ⟨b, o, rfl, hb, hc⟩ := hs.2 (by omega)
   obtain ⟨x, hx⟩ : ∃ x, l[k]? = some x := ⟨l[k]'(by omega), List.getElem?_eq_getElem (by omega)⟩
   have hcell := hc k (bv x) (by simp [hx])
   have Hx := Lib.hid hx; clear hx
   clear hc
   have hx256 : (x.toNat : Int) < 256 := by have := x.toNat_lt; omega
   have hd : (decide ((k : Int) < n)) = true := by simpa using hlt
   repeat' (first | go_skip | go_guarded | go_step)
   go_loop [3, 5, 6] (fun u3 u5 u6 => ∃ (j r d : Nat), j ≤ 8 ∧ r < 4294967296 ∧ d * 2 ^ j < 256 ∧ u3 = .int .u64 (r : Int) ∧ u5 = .int .u64 (d : Int) ∧ u6 = .int .i64 (j : Int) ∧ bits8 (8 - j) (r ^^^ d) = crcB acc x.toNat) (fun _ _ u6 => 8 - (intOf u6).toNat)
   case atStart => exact ⟨0, acc, x.toNat, by omega, hacc, by omega, rfl, rfl, rfl, rfl⟩
   case round =>
    obtain ⟨j, r, d, hj, hr, hd2, rfl, rfl, rfl, hbits⟩ := hrel
    have Hbits := Lib.hid hbits; clear hbits
    have hd255 : d < 256 := Nat.lt_of_le_of_lt (Nat.le_mul_of_pos_right _ (Nat.two_pow_pos j)) hd2
    have hdn : d / 2 * 2 ^ (j + 1) < 256 := by
     have h2 := Nat.mul_le_mul (show d / 2 * 2 ≤ d by omega) (Nat.le_refl (2 ^ j))
     rw [Nat.pow_succ, Nat.mul_comm (2 ^ j), ← Nat.mul_assoc]
     omega
    have Hd2 := Lib.hid hd2; clear hd2
    have Hdn := Lib.hid hdn; clear hdn
    have hz := odd_xor (r := r) (c := d) rfl
    by_cases hj8 : j < 8
    ·have hd8 : (decide ((j : Int) < 8)) = true := by simp; omega
     by_cases ho : (r ^^^ d) % 2 = 1
     ·have hq : ((r : Int) % 2 == (d : Int) % 2) = false := by rw [hz]; exact decide_eq_false (by omega)
      have hq2 : ((r : Int) % 2 != (d : Int) % 2) = true := by simp only [bne, hq, Bool.not_false]
      have hO := Lib.hid ho
      clear hz ho
      repeat' (first | go_skip | go_guarded | go_step)
      refine ⟨⟨j + 1, (r / 2) ^^^ 3988292384, d / 2, by omega, xor_lt32 (by omega) (by decide), Hdn.out, ?_, by go_num, by go_num, ?_⟩, by simp [intOf]; omega⟩
      ·rw [show ((r : Int) / 2) = ((r / 2 : Nat) : Int) by omega, show (3988292384 : Int) = ((3988292384 : Nat) : Int) from rfl, bits_xor_u64_nat _ _ (by omega) (by decide)]
      ·rw [← Hbits.out, show 8 - j = (8 - (j + 1)) + 1 by omega, bits8, bitS, if_pos hO.out, xor_half]
       congr 1
       rw [Nat.xor_assoc, Nat.xor_assoc, Nat.xor_comm 3988292384]
     ·have hq : ((r : Int) % 2 == (d : Int) % 2) = true := by rw [hz]; exact decide_eq_true (by omega)
      have hq2 : ((r : Int) % 2 != (d : Int) % 2) = false := by simp only [bne, hq, Bool.not_true]
      have hO := Lib.hid ho
      clear hz ho
      repeat' (first | go_skip | go_guarded | go_step)
      refine ⟨⟨j + 1, r / 2, d / 2, by omega, by omega, Hdn.out, by go_num, by go_num, by go_num, ?_⟩, by simp [intOf]; omega⟩
      rw [← Hbits.out, show 8 - j = (8 - (j + 1)) + 1 by omega, bits8, bitS, if_neg hO.out, xor_half]
    ·repeat' (first | go_skip | go_guarded | go_step)
     refine ⟨⟨k + 1, r, by omega, hr, rfl, by go_num, ?_⟩, by simp [intOf]; omega⟩
     have := Hbits.out
     have hd0 := Hd2.out
     obtain rfl : j = 8 := by omega
     obtain rfl : d = 0 := by omega
     rw [Nat.xor_zero] at this
     rw [← Hcrc.out, crc_at Hx.out, ← this]
     rfl
  ·repeat' (first | go_skip | go_guarded | go_step)
   go_ret
   have e : acc = crcF 4294967295 l := by
    have := Hcrc.out
    rw [List.drop_of_length_le (by omega)] at this
    exact this
   refine ⟨ret_i ?_, rfl⟩
   unfold crc
   rw [← e]
   omega
theorem sum4_succ {k i : Nat} (hk : k < 4294967296) (hi : i < 4) : (sum4 k).take (i + 1) = (sum4 k).take i ++ [(k / 256 ^ i % 256).toUInt8] := by
 have h : i = 0 ∨ i = 1 ∨ i = 2 ∨ i = 3 := by omega
 rcases h with rfl | rfl | rfl | rfl <;> simp [sum4]
theorem rapp_any (fs : List FV) (E : List Value) (A : Option Addr) (n c : Nat) (l : List UInt8) (w : World) (h : EvR w fs E) (hz : lsz fs ≤ 9000000) (hl : l.length = n) (hn : n ≤ 800000000) (hs : Seq w w.heap.size 1 A n (l.map bv)) :
  Calls Tryz.prog 22 #[.slice A n c, .agg E.toArray] w (RetBytes w (l ++ ent fs)) := by
 subst hl
 have hi := ev_info h.len
 have hlen := Lib.hid (encF_len h)
 have hz' := Lib.hid hz
 go_enter Tryz.func22, Tryz.ntmps22
 go_upto_region 1 with (fail)
 have hA : (w.alloc (.cells E.toArray 43)).rangeAt w.heap.size 0 E := at_new w E 43
 have hlt0 : w.heap.size < (w.alloc (.cells E.toArray 43)).heap.size := by simp
 have hb0 := (Below.refl w.heap.size w).alloc (Nat.le_refl _) (.cells E.toArray 43)
 generalize World.alloc w _ = w1 at *
 repeat' ((fail_if_success at_builtin); first | go_skip | go_guarded | go_step)
 refine wp_appS (Own.nil_ w1 5 1) Tryz.underlying47 u8_info (hs.below hb0) (bv_one l) (by omega) ?_
 intro v2 w2 hO hg2
 rw [Nat.zero_add, List.nil_append] at hO
 obtain ⟨A2, c2, rfl⟩ := hO.slice_form
 have hA2 := range_up hA hO.2 hlt0
 have hb2 : Below w.heap.size w w2 := hb0.trans (hO.2.mono hb0.size)
 have hlt2 : w.heap.size < w2.heap.size := Nat.lt_of_lt_of_le hlt0 hO.2.size
 clear hA hs hg2
 repeat' (first | (refine wpList_load_mid rfl 43 _ rfl w.heap.size 0 rfl E _ hA2 Tryz.underlying43 rfl hi ?_) | go_skip | go_guarded | go_step)
 refine (rvalid_ev fs E w2 (h.up hb2) (by omega)).mono ?_
 rintro e w3 ⟨rfl, hb3⟩
 dsimp only
 have hA3 := range_up hA2 hb3 hlt2
 have hO3 := hO.below hb3
 have hbw3 : Below w.heap.size w w3 := hb2.trans (hb3.mono hb2.size)
 by_cases hv : validF fs = 0
 ·have z0 : (validF fs == 0) = true := by simpa using hv
  have z1 : (validF fs != 0) = false := by simp [hv]
  have hne : encF fs ≠ [] := fun e0 => by have := encF_ne hv; rw [e0] at this; simp at this
  have hen := Lib.hid (ent_of hne)
  replace hv := Lib.hid hv
  repeat' (first | (refine wpList_load_mid rfl 43 _ rfl w.heap.size 0 rfl E _ hA3 Tryz.underlying43 rfl hi ?_) | go_skip | go_guarded | go_step)
  refine (renc_any fs E w3 (h.up hbw3) (by omega)).mono ?_
  rintro e w4 ⟨A3, c3, he, hB⟩
  obtain ⟨n3, hn3⟩ : ∃ n3, n3 = (encF fs).length := ⟨_, rfl⟩
  have hn3b : n3 ≤ 100000000 := by have := hlen.out; omega
  have hn30 : 0 < n3 := by rw [hn3]; exact List.length_pos_iff.2 hne
  rw [← hn3] at he
  have hB : Own w3 w4 5 1 (.slice A3 n3 c3) n3 ((encF fs).map bv) := by rw [hn3]; exact hB
  obtain ⟨g3, rfl, hlo, hhi, hc3, _⟩ := hB.head hn30
  have hcap := hB.cap_le
  have hO4 := hO3.below hB.2
  have hlo2 := Nat.le_trans hb3.size hlo
  clear hB
  subst he
  dsimp only
  replace hn3 := Lib.hid hn3
  repeat' (first | go_skip | go_guarded | go_step)
  refine (rPutUint_any n3 w4 (U64.mk (by omega))).mono ?_
  rintro e w5 ⟨A5, c5, he5, hP⟩
  obtain ⟨n4, hn4⟩ : ∃ n4, n4 = (Lib.uvarint n3).length := ⟨_, rfl⟩
  have h10 : n4 ≤ 10 := by rw [hn4]; exact Lib.uvarint_length64 (by omega)
  have hP' : Own w4 w5 5 1 (.slice A5 n4 c5) n4 ((Lib.uvarint n3).map bv) := by rw [hn4]; exact hP
  rw [← hn4] at he5
  clear hP
  replace hn4 := Lib.hid hn4
  subst he5
  dsimp only
  have hO5 := hO4.below hP'.2
  have hc5 : ∀ j u, ((encF fs).map bv)[j]? = some u → w5.cell? ⟨g3, j, none⟩ = some u := fun j u hu => (hP'.2.cell (p := ⟨g3, j, none⟩) hhi).trans (hc3 j u hu)
  have hlt5 : g3 < w5.heap.size := Nat.lt_of_lt_of_le hhi hP'.2.size
  have hne5 := hO.lt hlo2
  clear hc3 hhi hO3 hO4
  repeat' ((fail_if_success at_builtin); first | go_skip | go_guarded | go_step)
  refine wp_appS hO5 Tryz.underlying47 u8_info hP'.seq (bv_one _) (by omega) ?_
  intro v6 w6 hO6 hg6
  obtain ⟨A6, c6, rfl⟩ := hO6.slice_form
  have hc6 : ∀ j u, ((encF fs).map bv)[j]? = some u → w6.cell? ⟨g3, j, none⟩ = some u := fun j u hu => (hg6.cell (p := ⟨g3, j, none⟩) hlt5 hne5).trans (hc5 j u hu)
  have hne6 := hg6.ne hlt5 hne5
  have hlt6 : g3 < w6.heap.size := Nat.lt_of_lt_of_le hlt5 hg6.by_.size
  clear hc5 hne5 hlt5 hg6 hP' hO5
  repeat' ((fail_if_success at_builtin); first | go_skip | go_guarded | go_step)
  refine wp_appS hO6 Tryz.underlying47 u8_info (seq_at (n := n3) (by rw [List.length_map, hn3.out]) hlt6 hc6) (bv_one _) (by omega) ?_
  intro v7 w7 hO7 hg7
  obtain ⟨A7, c7, rfl⟩ := hO7.slice_form
  have hc7 : ∀ j u, ((encF fs).map bv)[j]? = some u → w7.cell? ⟨g3, j, none⟩ = some u := fun j u hu => (hg7.cell (p := ⟨g3, j, none⟩) hlt6 hne6).trans (hc6 j u hu)
  have hlt7 : g3 < w7.heap.size := Nat.lt_of_lt_of_le hlt6 hg7.by_.size
  have hs7 := seq_at (n := n3) (by rw [List.length_map, hn3.out]) hlt7 hc7
  clear hc6 hne6 hlt6 hg7 hO6 hc7 hlt7
  repeat' (first | go_skip | go_guarded | go_step)
  refine (rCheck_any (some ⟨g3, 0, none⟩) n3 c3 (encF fs) w7 w7.heap.size hn3.out.symm (by omega) hs7).mono ?_
  rintro e w8 ⟨he8, rfl⟩
  obtain ⟨kk, hkk⟩ : ∃ kk, kk = crc (encF fs) := ⟨_, rfl⟩
  have hkb := crc_lt (encF fs)
  rw [← hkk] at he8 hkb
  replace hkk := Lib.hid hkk
  subst he8
  dsimp only
  obtain ⟨N, hN⟩ : ∃ N, N = l.length + n4 + n3 := ⟨_, rfl⟩
  obtain ⟨pre, hpre⟩ : ∃ pre, pre = l.map bv ++ (Lib.uvarint n3).map bv ++ (encF fs).map bv := ⟨_, rfl⟩
  rw [← hN, ← hpre] at hO7
  have hNb : N ≤ 950000000 := by omega
  rw [← hN]
  replace hN := Lib.hid hN
  replace hpre := Lib.hid hpre
  clear hs7 hA2 hA3
  repeat' (first | go_skip | go_guarded | go_step)
  go_loopw [5, 7, 8] (fun u5 u7 u8 wr => ∃ (i m : Nat), i ≤ 4 ∧ m < 4294967296 ∧ u8 = .int .i64 (i : Int) ∧ u7 = .int .i64 (m : Int) ∧ m = kk / 256 ^ i ∧ Own w1 wr 5 1 u5 (N + i) (pre ++ ((sum4 kk).take i).map bv)) (fun _ _ u8 _ => 4 - (intOf u8).toNat)
  case atStart => exact ⟨0, kk, by omega, hkb, rfl, rfl, by simp, by simpa using hO7⟩
  case round =>
   obtain ⟨i, m, hi4, hm, rfl, rfl, hmk, hown⟩ := hrel
   have Hmk := Lib.hid hmk; clear hmk
   obtain ⟨Ai, ci, rfl⟩ := hown.slice_form
   by_cases hlt : i < 4
   ·have hd : (decide ((i : Int) < 4)) = true := by simp; omega
    have hNi : N + i + 1 ≤ 140737488355328 := by omega
    repeat' ((fail_if_success at_builtin); first | go_skip | go_guarded | go_step)
    refine wp_app1 hown Tryz.underlying47 u8_info (by omega) ?_
    intro v9 w9 hO9 _
    obtain ⟨A9, c9, rfl⟩ := hO9.slice_form
    repeat' (first | go_skip | go_guarded | go_step)
    go_roundw
    case rel =>
     refine ⟨i + 1, m / 256, by omega, by omega, by go_num, by go_num, ?_, ?_⟩
     ·rw [Hmk.out, Nat.pow_succ, Nat.div_div_eq_div_mul]
     ·rw [sum4_succ hkb hlt, ← Hmk.out, List.map_append, ← List.append_assoc]
      simp only [List.map_cons, List.map_nil, bv]
      rw [byte_nat (by omega)]
      rw [show ((m % 256 : Nat) : Int) = (m : Int) % 256 by omega]
      exact hO9
    case measure => simp [intOf]; omega
   ·have hd : (decide ((i : Int) < 4)) = false := by simp; omega
    repeat' (first | go_skip | go_guarded | go_step)
    go_ret
    obtain rfl : i = 4 := by omega
    have hO9 := hown.up hb0
    have hlen9 : (l ++ ent fs).length = N + 4 := by
     rw [hN.out, hen.out, hn3.out, hn4.out, hn3.out]
     simp only [List.length_append, sum4_length]
     omega
    refine ⟨Ai, ci, by rw [hlen9]; rfl, ?_⟩
    unfold Bytes
    rw [List.take_of_length_le (by rw [sum4_length]; omega), hpre.out, hkk.out] at hO9
    rw [hlen9, hen.out, List.map_append, List.map_append, List.map_append, ← hn3.out, ← List.append_assoc, ← List.append_assoc]
    exact hO9
 ·have z0 : (validF fs == 0) = false := by simpa using hv
  have z1 : (validF fs != 0) = true := by simpa using hv
  have hen : ent fs = [] := ent_nil (encF_nil hv)
  replace hv := Lib.hid hv
  repeat' (first | go_skip | go_guarded | go_step)
  go_ret
  rw [hen, List.append_nil]
  exact ⟨A2, c2, rfl, hO3.up hb0⟩
theorem appends_law (l : List UInt8) (A0 : Option Addr) (n0 c0 : Nat) (L : List (List FV)) (A1 : Option Addr) (n1 c1 : Nat) (w : World) (hl : l.length = n0) (hs : Seq w w.heap.size 1 A0 n0 (l.map bv)) (hL : EvS w A1 n1 c1 L) (hsum : (L.map lsz).sum ≤ 2200000) : Calls Tryz.prog 5 #[.slice A0 n0 c0, .slice A1 n1 c1] w fun e w' => e = .returned (.bool true) ∧ Below w.heap.size w w' := by
 by_cases h20 : n0 ≤ 20000
 ·have hd20 : (decide ((20000 : Int) < n0)) = false := by simp; omega
  go_enter Tryz.func5, Tryz.ntmps5
  repeat' (first | go_skip | go_guarded | go_step)
  refine (greats_any L A1 n1 c1 w hL).mono ?_
  rintro e w1 ⟨b1, rfl, hb1, hn1⟩
  dsimp only
  cases b1 with
  | true =>
   repeat' (first | go_skip | go_guarded | go_step)
   refine (lives_any w1).mono ?_
   rintro e w3 ⟨rfl, hbq⟩
   dsimp only
   repeat' (first | go_skip | go_guarded | go_step)
   go_ret
   exact ⟨rfl, hb1.trans (hbq.mono hb1.size)⟩
  | false =>
   have hn20 := hn1 rfl
   have hlen1 := hL.1
   have hs1 := (hs.below hb1).more hb1.size
   have hL1 := hL.up hb1
   clear hn1 hs
   have hba := (Below.refl w1.heap.size w1).alloc (Nat.le_refl _) (.cells #[] 5)
   repeat' ((fail_if_success at_builtin); first | go_skip | go_guarded | go_step)
   refine wp_appS (Own.empty_lit w1 5 1) Tryz.underlying47 u8_info (hs1.below hba) (bv_one l) (by omega) ?_
   intro v2 w2 hO2 _
   rw [Nat.zero_add, List.nil_append] at hO2
   obtain ⟨A2, c2, rfl⟩ := hO2.slice_form
   have hs2 := (hs1.below hO2.2).more hO2.2.size
   have hbb := (Below.refl w2.heap.size w2).alloc (Nat.le_refl _) (.cells #[] 5)
   clear hba
   repeat' ((fail_if_success at_builtin); first | go_skip | go_guarded | go_step)
   refine wp_appS (Own.empty_lit w2 5 1) Tryz.underlying47 u8_info (hs2.below hbb) (bv_one l) (by omega) ?_
   intro v3 w3 hO3 _
   rw [Nat.zero_add, List.nil_append] at hO3
   obtain ⟨A3, c3, rfl⟩ := hO3.slice_form
   have hbw3 : Below w.heap.size w w3 := (hb1.trans (hO2.2.mono hb1.size)).trans (hO3.2.mono (Nat.le_trans hb1.size hO2.2.size))
   have hq2 := (hO2.seq.below hO3.2).more hO3.2.size
   have hq3 := hO3.seq
   have hnil := own_nilc hO2
   clear hbb hs2 hs1 hO2 hO3 hL1
   repeat' (first | go_skip | go_guarded | go_step)
   go_loopw [5, 6, 7] (fun u5 u6 u7 wr => ∃ (i m : Nat) (A5 : Option Addr) (c5 : Nat) (A6 : Option Addr) (c6 : Nat), i ≤ n1 ∧ u7 = .int .i64 (i : Int) ∧ u5 = .slice A5 m c5 ∧ u6 = .slice A6 m c6 ∧ m = (l ++ flat (L.take i)).length ∧ (A5 = none → c5 = 0) ∧ Seq wr wr.heap.size 1 A5 m ((l ++ flat (L.take i)).map bv) ∧ Seq wr wr.heap.size 1 A6 m ((l ++ flat (L.take i)).map bv) ∧ Below w.heap.size w wr) (fun _ _ u7 _ => n1 - (intOf u7).toNat)
   case atStart => exact ⟨0, n0, A2, c2, A3, c3, by omega, rfl, rfl, rfl, by simp [flat_nil, hl], hnil, by simpa [flat_nil] using hq2, by simpa [flat_nil] using hq3, hbw3⟩
   case round =>
    obtain ⟨i, m, A5, c5, A6, c6, hin, rfl, rfl, rfl, hm, hnil5, hq5, hq6, hbr⟩ := hrel
    have hmb : m ≤ 100000000 := by have := hL.take i; rw [hm, List.length_append]; omega
    replace hm := Lib.hid hm
    by_cases hlt : i < n1
    ·have hd : (decide ((i : Int) < n1)) = true := by simp; omega
     obtain ⟨fs, hx⟩ := hL.get hlt
     obtain ⟨b, o, E, rfl, hb, hE, hz, hA⟩ := (hL.up hbr).ev hx
     have hi := ev_info hE.len
     have hsc := flat_succ hx
     replace hx := Lib.hid hx
     replace hsc := Lib.hid hsc
     repeat' (first | (refine wpList_load_mid rfl 43 _ rfl b (o + i * 42) rfl E _ hA Tryz.underlying43 rfl hi ?_) | go_skip | go_guarded | go_step)
     refine (papp_any fs E A5 m c5 _ wr hE hz hnil5 hm.out.symm (by omega) hq5).mono ?_
     rintro e w7 ⟨A7, c7, he7, hB7⟩
     rw [List.append_assoc, ← hsc.out] at he7 hB7
     obtain ⟨m7, hm7⟩ : ∃ m7, m7 = (l ++ flat (L.take (i + 1))).length := ⟨_, rfl⟩
     rw [← hm7] at he7
     have hB7' : Own wr w7 5 1 (.slice A7 m7 c7) m7 ((l ++ flat (L.take (i + 1))).map bv) := by rw [hm7]; exact hB7
     replace hm7 := Lib.hid hm7
     clear hB7
     subst he7
     dsimp only
     have hA7 := range_up hA hB7'.2 hb
     have hE7 := hE.up hB7'.2
     have hq67 := (hq6.below hB7'.2).more hB7'.2.size
     clear hA hq6 hE
     repeat' (first | (refine wpList_load_mid rfl 43 _ rfl b (o + i * 42) rfl E _ hA7 Tryz.underlying43 rfl hi ?_) | go_skip | go_guarded | go_step)
     refine (rapp_any fs E A6 m c6 _ w7 hE7 hz hm.out.symm (by omega) hq67).mono ?_
     rintro e w8 ⟨A8, c8, he8, hB8⟩
     rw [List.append_assoc, ← hsc.out, ← hm7.out] at he8
     rw [List.append_assoc, ← hsc.out] at hB8
     have hB8' : Own w7 w8 5 1 (.slice A8 m7 c8) m7 ((l ++ flat (L.take (i + 1))).map bv) := by have := hm7.out; rw [this]; exact hB8
     clear hB8
     subst he8
     dsimp only
     repeat' (first | go_skip | go_guarded | go_step)
     go_roundw
     case rel => exact ⟨i + 1, m7, A7, c7, A8, c8, by omega, by go_num, rfl, rfl, hm7.out, own_nilc hB7', (hB7'.seq.below hB8'.2).more hB8'.2.size, hB8'.seq, (hbr.trans (hB7'.2.mono hbr.size)).trans (hB8'.2.mono (Nat.le_trans hbr.size hB7'.2.size))⟩
     case measure => simp [intOf]; omega
    ·have hd : (decide ((i : Int) < n1)) = false := by simp; omega
     repeat' (first | go_skip | go_guarded | go_step)
     refine (bytesEq_any _ _ _ _ _ _ (l ++ flat (L.take i)) (l ++ flat (L.take i)) wr wr.heap.size hq5 hq6).mono ?_
     rintro e w7 ⟨rfl, rfl⟩
     rw [beq_self_eq_true]
     dsimp only
     repeat' (first | go_skip | go_guarded | go_step)
     refine (lives_any wr).mono ?_
     rintro e w9 ⟨rfl, hbq⟩
     dsimp only
     repeat' (first | go_skip | go_guarded | go_step)
     go_ret
     exact ⟨rfl, hbr.trans (hbq.mono hbr.size)⟩
 ·have hd20 : (decide ((20000 : Int) < n0)) = true := by simp; omega
  go_enter Tryz.func5, Tryz.ntmps5
  repeat' (first | go_skip | go_guarded | go_step)
  refine (lives_any w).mono ?_
  rintro e w3 ⟨rfl, hbq⟩
  dsimp only
  repeat' (first | go_skip | go_guarded | go_step)
  go_ret
  exact ⟨rfl, (Below.refl w.heap.size w).trans (hbq.mono (Below.refl w.heap.size w).size)⟩
end Go.Proofs.YtgdapkglofchjaaGreatDoor
namespace Go.Proofs.YtgdapkglofchjaaGreatDoor
open Go.ChangeShapes Go.WideShapes Go.ChangeAt Go.RowKit
open Go.ChangeMaps (open_string shut_string)
set_option linter.unusedVariables false
namespace japp
theorem witness_row (os : Os) {H : Type} (enc : TypeId × Value → H) :
  (Rows.OpenSpec.upto Rows.journalAppendsSpec).preRow enc Tryz.prog Tryz.f5 Rows.journalAppendsUptoRow.domain false Rows.journalAppendsUptoRow.laid ((laidWorld os).forCall (fun _ _ => 0) ⟨#[], #[.slice none 0 0, .slice none 0 0], []⟩).memory #[.slice none 0 0, .slice none 0 0] := by
 have hw : (DataW.whole enc Tryz.prog ((laidWorld os).forCall (fun _ _ => 0) ⟨#[], #[.slice none 0 0, .slice none 0 0], []⟩).memory Tryz.f5.params.toList Rows.journalAppendsSpec.vars false (#[.slice none 0 0, .slice none 0 0] : Array Value).toList 8).map (fun x => (x.1, x.2.1)) =
   some ([.nil, .nil], []) := by kernel_rfl
 obtain ⟨⟨x1, x2, x3⟩, hx, hx1⟩ := Option.map_eq_some_iff.1 hw
 simp only [Prod.mk.injEq] at hx1
 obtain ⟨rfl, rfl⟩ := hx1
 exact OpenSpec.preRow_of_cond 8 hx (by kernel_rfl) (fun k hk => by cases hk; kernel_rfl) (by kernel_rfl) (laid_met os _)
theorem lifted (os : Os) (started : os.Started) (H : Type) (enc : TypeId × Value → H) (F : Stop.Interp) :
  ReturnsInHanded {} Tryz.checked os 5 .any ((Rows.OpenSpec.upto Rows.journalAppendsSpec).preRow enc Tryz.prog Tryz.f5 Rows.journalAppendsUptoRow.domain false Rows.journalAppendsUptoRow.laid) (((Rows.OpenSpec.upto Rows.journalAppendsSpec).at F).post enc Tryz.prog Tryz.f5 false true false false) := by
 refine returnsInHanded_of_row (C := Tryz.checked) (s := Rows.OpenSpec.upto Rows.journalAppendsSpec) ownK started (by kernel_rfl) Tryz.func5
  (witness_row_atRef (enc := enc) (C := Tryz.checked) false (laidWorld os) #[.slice none 0 0, .slice none 0 0] rfl (by kernel_rfl) (by kernel_rfl) (by kernel_rfl) (witness_row os enc)) ?_
 intro W base args ds gs before hval0 hW _ hcond _ hL hShape _
 have hval : ∀ (j : Nat) t v, Tryz.f5.params[j]? = some t → args[j]? = some v → Value.okWide Tryz.prog W .any base t v := hval0
 have hW' := hW
 obtain ⟨p, q, hA0, hV, rfl, hfz, hnd⟩ := hW
 have hA : DataW.TrodAll enc Tryz.prog W 0 (fun _ => true) true Tryz.f5.params.toList args.toList ds p := hA0
 rw [Tryz.params5] at hA hval
 obtain ⟨v0, vs0, d0, ds0, p0, q0, hargs, rfl, rfl, h0, r0⟩ := trodAll_cons hA
 obtain ⟨v1, vs1, d1, ds1, p1, q1, rfl, rfl, rfl, h1, r1⟩ := trodAll_cons r0
 obtain ⟨rfl, rfl, rfl⟩ := trodAll_nil r1
 obtain rfl : args = #[v0, v1] := by cases args; simp_all
 obtain ⟨rfl, rfl⟩ := trodVars_none hV
 obtain ⟨a0, len0, cap0, rfl⟩ := okWide_slice Tryz.underlying47 (hval 0 47 v0 rfl rfl)
 have k0 := h0
 have lt0 : ∀ x ∈ p0, x.block < W.heap.size := by obtain ⟨m, hm⟩ := k0; exact DataW.trod_lt m _ _ _ hm
 obtain ⟨l, hl_l, hc_l, hm_l, hn_l, hs_l⟩ := open_bytes Tryz.underlying47 Tryz.underlying5 (by kernel_rfl) h0
 unfold maxLen at hm_l
 obtain ⟨a1, len1, cap1, rfl⟩ := okWide_slice Tryz.underlying58 (hval 1 58 v1 rfl rfl)
 have k1 := h1
 have lt1 : ∀ x ∈ p1, x.block < W.heap.size := by obtain ⟨m, hm⟩ := k1; exact DataW.trod_lt m _ _ _ hm
 obtain ⟨fuel1, hf1⟩ := h1
 have hb := of_decide_eq_true (hcond _ rfl)
 simp only [List.append_nil, Rows.uptoBulkAll] at hb
 have hbb : Rows.uptoBulk d1 ≤ 1048576 := by omega
 obtain ⟨L, hL, hsum, _⟩ := open_events hf1 hbb
 refine (appends_law l a0 len0 cap0 L a1 len1 cap1 W hl_l hs_l hL hsum).mono fun e W' ⟨he, bel⟩ => ?_
 clear hA0 hval0
 subst he
 exact ⟨_, rfl, _, _, _, [], _, [], hW', trodAll_mk1 (shut_bool Tryz.underlying4 _), (trodAll_cons_mk (Below.trod laidOut (by kernel_rfl) (of_decide_eq_true (by kernel_rfl)) k0 bel lt0) (trodAll_cons_mk (Below.trod laidOut (by kernel_rfl) (of_decide_eq_true (by kernel_rfl)) k1 bel lt1) trodAll_mk0)), rfl, bel.frame _, fun h => by cases h⟩
theorem said : Rows.JournalAppendsUptoSaid :=
 OpenClaim.holds_of_cond 5 Tryz.f5 rfl rfl rfl rfl rfl rfl rfl ⟨rfl, rfl, rfl, rfl, rfl⟩ rfl rfl rfl rfl rfl (by kernel_rfl) Tryz.func5 (by kernel_rfl)
  (of_decide_eq_true (by kernel_rfl)) (by unfold Func.isWrapper; first | (rw [if_pos (by decide +kernel)]; kernel_rfl) | (rw [if_neg (by decide +kernel)]; exact ⟨rfl, rfl⟩))
  (fun os started H enc _ F => by rw [OpenClaim.pre_eq_preRow]; exact lifted os started H enc F)
theorem plain (f : FuncId) (fn : Func) (hf : Tryz.pinned.checked.prog.funcNamed Rows.journalAppendsUptoRow.func = some f) (hfn : Tryz.pinned.checked.prog.funcs[f]? = some fn) :
  false = Tryz.pinned.checked.prog.looks [] ∧ ∀ (j : Nat) t, fn.params[j]? = some t → Tryz.pinned.checked.prog.wantsStandIn t = false := by
 obtain rfl : f = 5 := Option.some.inj ((show Tryz.prog.funcNamed Rows.journalAppendsUptoRow.func = some 5 by kernel_rfl).symm.trans hf) |>.symm
 obtain rfl : fn = Tryz.f5 := (Option.some.inj (Tryz.func5.symm.trans hfn)).symm
 refine ⟨by kernel_rfl, fun j t ht => ?_⟩
 rw [Tryz.params5] at ht
 have hm := Array.mem_of_getElem? ht
 simp only [List.mem_toArray, List.mem_cons, List.not_mem_nil, or_false] at hm
 rcases hm with rfl | rfl
 all_goals
  change Tryz.prog.wantsStandIn _ = false
  kernel_rfl
end japp
theorem journalAppends_cardUpto : Rows.JournalAppendsUptoCardSaid :=
 Claim7.holds_tied_plain_at .later [] _ _ _ _ japp.said (fun _ h => by cases h) (by kernel_rfl) (fun _ h => by cases h) journalAppendsUpto_row_tie rfl ⟨rfl, rfl⟩ (by kernel_rfl) rfl japp.plain (by kernel_rfl)
end Go.Proofs.YtgdapkglofchjaaGreatDoor
